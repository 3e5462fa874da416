/- The walk of ConfigLast. -/
import Derived.Test.YtlnfpkknhmiegaaDoorE3
import Derived.Test.YtlnfpkknhmiegaaDoorP4
import Derived.Lib.ItoaLen
import Derived.Deep.DeepCutAuto
namespace Go.Proofs.YtlnfpkknhmiegaaDoor
open Go Go.RowKit

theorem text_len (a b c d : Int) (hv : Valid a b c d) : (textL a b c d).length ≤ 200 := by
  obtain ⟨h0, h1, h2, h3, h4, h5, h6, h7⟩ := hv
  have ha := Lib.itoa_length_le a (by omega) (by omega)
  have hb := Lib.itoa_length_le b (by omega) (by omega)
  have hc := Lib.itoa_length_le c (by omega) (by omega)
  have hd := Lib.itoa_length_le d (by omega) (by omega)
  simp [textL, pre0, pre1, pre2, pre3]
  omega

theorem conv_one (m : Int) (W : World) : (convert 34 9 (.slice (some ⟨W.heap.size, 0, none⟩) 1 1)).run Tryd.prog (W.alloc (.cells #[.int .u8 m] 5)) = .ok (.string ⟨#[UInt8.ofNat m.toNat]⟩) (W.alloc (.cells #[.int .u8 m] 5)) := by
  rw [run_convert_bytes_string _ 34 9 5 _ _ _ Tryd.underlying34 Tryd.underlying5 Tryd.underlying9, run_bytesToString _ _ 1 1 [m]]
  · rfl
  · have hc : (W.alloc (.cells #[.int .u8 m] 5)).cell? ⟨W.heap.size, 0, none⟩ = some (.int .u8 m) := by rw [cells_of_block (block_new W _ _ rfl)]; rfl
    simp [loadCells, go_sem, hc]
theorem text_some (a b c d : Int) : (!(⟨(textL a b c d).toArray⟩ : ByteArray).toList.isEmpty) = true := by
  have h := text_ne a b c d
  generalize textL a b c d = l at *
  cases l with
  | nil => exact absurd rfl h
  | cons x l => simp [ByteArray.toList_eq]

theorem parse_at (s : ByteArray) (l : List UInt8) (h : s = ⟨l.toArray⟩) (hl : l.length ≤ 4294967280) (w : World) (hG : G w) {x y z t f : Int} (ha : answer (parsed l) = (x, y, z, t, f)) :
    Calls Tryd.prog 13 #[.string s] w fun e w' => e = .returned (.tuple #[quad x y z t, .int .i64 f]) ∧ Below w.heap.size w w' := by
  subst h
  have := parse_any l hl w hG
  unfold Answers at this
  rwa [ha] at this
theorem more_eq (l : List UInt8) (c : UInt8) : (⟨l.toArray⟩ ++ ⟨#[c]⟩ : ByteArray) = ⟨(l ++ [c]).toArray⟩ := by
  apply ByteArray.ext
  simp

theorem less_eq (l : List UInt8) : (⟨l.toArray⟩ : ByteArray).extract 0 (l.length - 1) = ⟨l.dropLast.toArray⟩ := by
  apply ByteArray.ext
  simp [List.dropLast_eq_take]

theorem other_cases {a b c d x y z t f : Int} (h : Other a b c d (x, y, z, t, f)) :
    (same4 x y z t a b c d = false ∧ f = 0) ∨ (x = 0 ∧ y = 0 ∧ z = 0 ∧ t = 0 ∧ f = 2) ∨ (x = 0 ∧ y = 0 ∧ z = 0 ∧ t = 0 ∧ f = 15) := by
  rcases h with ⟨n, e, hn⟩ | e | e
  · simp only [Prod.mk.injEq] at e
    obtain ⟨rfl, rfl, rfl, rfl, rfl⟩ := e
    left
    refine ⟨?_, rfl⟩
    simp only [same4, decide_eq_false_iff_not]
    omega
  · simp only [Prod.mk.injEq] at e
    exact .inr (.inl e)
  · simp only [Prod.mk.injEq] at e
    exact .inr (.inr e)
theorem digit_iff {m : Int} (h0 : 0 ≤ m) (h1 : m ≤ 255) : IsD (UInt8.ofNat m.toNat) ↔ 48 ≤ m ∧ m ≤ 57 := by
  unfold IsD
  have : (UInt8.ofNat m.toNat).toNat = m.toNat := by simp; omega
  rw [this]; omega

attribute [local go_sem ↓] eq24 ne24
attribute [local go_sem] same4_self

set_option maxRecDepth 100000 in
set_option maxHeartbeats 4000000 in
theorem last_any (a b c d m : Int) (w : World) (hG : G w) (ha : 0 ≤ a ∧ a ≤ 18446744073709551615) (hb : 0 ≤ b ∧ b ≤ 65535) (hc : 0 ≤ c ∧ c ≤ 65535) (hd : 0 ≤ d ∧ d ≤ 65535) (hm : 0 ≤ m ∧ m ≤ 255) :
    Calls Tryd.prog 4 #[.int .u64 a, .int .u16 b, .int .u16 c, .int .u16 d, .int .u8 m] w fun e w' => e = .returned (.bool true) ∧ Below w.heap.size w w' := by
  have HG : Hid (At w w) := Lib.hid ⟨hG, Below.refl _ _⟩
  clear hG
  obtain ⟨hm0, hm1⟩ := hm
  go_enter Tryd.func4, Tryd.ntmps4
  go_wp2_with (go_at_call 15; refine (drawn_any _ _ _ _ _ ha hb hc hd).mono ?_; rintro e w1 ⟨rfl, hb⟩; refine Hid.out ?_)
  have hv := dr_valid a b c d
  have H1 := Lib.hid ((HG.out.on hb).alloc (.cells #[.int .i64 (dr0 a), .int .i64 (dr1 b), .int .i64 (dr2 c), .int .i64 (dr3 d)] 24))
  have B1 := Lib.hid (Box.new w1 (dr0 a) (dr1 b) (dr2 c) (dr3 d))
  generalize dr0 a = x at *
  generalize dr1 b = y at *
  generalize dr2 c = z at *
  generalize dr3 d = t at *
  have HV := Lib.hid hv
  have hT := text_len x y z t hv
  have hT1 : 0 < (textL x y z t).length := List.length_pos_iff.2 (text_ne _ _ _ _)
  have hT2 : (1 : Int) ≤ ((textL x y z t).length : Int) := by omega
  clear hb hv HG ha hc hd
  refine Lib.hid ?_
  go_wp2_with (go_at_call 16; refine (text_ok _ _ _ _ _ H1.out.g HV.out).mono ?_; rintro e w2 ⟨rfl, hb2⟩; refine Hid.out ?_)
  have H2 := Lib.hid (H1.out.on hb2)
  have B2 := Lib.hid (B1.out.on hb2)
  have hne : (!(⟨(textL x y z t).toArray⟩ : ByteArray).toList.isEmpty) = true := text_some x y z t
  have hcv := conv_one m
  generalize w1.heap.size = p at *
  clear hb2 H1 B1
  refine Lib.hid ?_
  rcases hr : answer (parsed (textL x y z t ++ [UInt8.ofNat m.toNat])) with ⟨X1, X2, X3, X4, F⟩
  rcases hr2 : answer (parsed (textL x y z t).dropLast) with ⟨Y1, Y2, Y3, Y4, F2⟩
  have h1 := last_more HV.out (UInt8.ofNat m.toNat)
  have h2 := last_less HV.out
  rw [hr] at h1; rw [hr2] at h2
  have HR := Lib.hid hr; have HR2 := Lib.hid hr2; have K1 := Lib.hid h1; have K2 := Lib.hid h2
  clear hr hr2 h1 h2
  go_wp2_with (go_at_call 13; refine (parse_at _ _ (more_eq _ _) (by rw [List.length_append]; simp; omega) _ (H2.out.alloc _).g HR.out).mono ?_; rintro e w3 ⟨rfl, hb3⟩; refine Hid.out ?_)
  have H3 := Lib.hid (((H2.out.alloc (.cells #[.int .u8 m] 5)).on hb3).alloc (.cells #[.int .i64 X1, .int .i64 X2, .int .i64 X3, .int .i64 X4] 24))
  have B3 := Lib.hid (((B2.out.alloc (.cells #[.int .u8 m] 5)).on hb3).alloc (.cells #[.int .i64 X1, .int .i64 X2, .int .i64 X3, .int .i64 X4] 24))
  have X3' := Lib.hid (Box.new w3 X1 X2 X3 X4)
  clear hb3 H2 B2 hcv
  refine Lib.hid ?_
  go_wp2_with (go_at_call 13; refine (parse_at _ _ (less_eq _) (by rw [List.length_dropLast]; omega) _ H3.out.g HR2.out).mono ?_; rintro e w4 ⟨rfl, hb4⟩; refine Hid.out ?_)
  have H4 := Lib.hid ((H3.out.on hb4).alloc (.cells #[.int .i64 Y1, .int .i64 Y2, .int .i64 Y3, .int .i64 Y4] 24))
  have B4 := Lib.hid ((B3.out.on hb4).alloc (.cells #[.int .i64 Y1, .int .i64 Y2, .int .i64 Y3, .int .i64 Y4] 24))
  have X4' := Lib.hid ((X3'.out.on hb4).alloc (.cells #[.int .i64 Y1, .int .i64 Y2, .int .i64 Y3, .int .i64 Y4] 24))
  have Y4' := Lib.hid (Box.new w4 Y1 Y2 Y3 Y4)
  clear hb4 H3 B3 X3'
  refine Lib.hid ?_
  go_upto_region 7 with fail
  generalize hW : w4.alloc (.cells #[.int .i64 Y1, .int .i64 Y2, .int .i64 Y3, .int .i64 Y4] 24) = W at *
  generalize w3.heap.size = q at *
  generalize w4.heap.size = r at *
  clear hW HR HR2 hT hT1 hT2
  obtain ⟨b0, b1, b2, b3⟩ := B4.out.cells
  obtain ⟨x0, x1, x2, x3⟩ := X4'.out.cells
  obtain ⟨y0, y1, y2, y3⟩ := Y4'.out.cells
  obtain ⟨dg, hdg⟩ : ∃ dg : Bool, (dg = true ∧ 48 ≤ m ∧ m ≤ 57) ∨ (dg = false ∧ ¬ (48 ≤ m ∧ m ≤ 57)) := by
    by_cases h : 48 ≤ m ∧ m ≤ 57
    · exact ⟨true, .inl ⟨rfl, h⟩⟩
    · exact ⟨false, .inr ⟨rfl, h⟩⟩
  go_cut [18] (fun s wx => s = .bool dg ∧ wx = W)
  case first =>
    rcases hdg with ⟨rfl, h48, h57⟩ | ⟨rfl, hnd⟩
    · go_wp2_with fail
      go_meet
      exact ⟨by simp, rfl⟩
    · by_cases h48 : 48 ≤ m
      · have h57 : ¬ m ≤ 57 := fun h => hnd ⟨h48, h⟩
        go_wp2_with fail
        go_meet
        exact ⟨by first | rfl | simp [h48] | simp [h57], rfl⟩
      · go_wp2_with fail
        go_meet
        exact ⟨by first | rfl | simp [h48] | simp [h57], rfl⟩
  case rest =>
  obtain ⟨rfl, hw⟩ := hcut
  rw [hw]
  clear hw
  go_upto_region 8 with fail
  have hk : (dg = true ∧ ((same4 X1 X2 X3 X4 x y z t = false ∧ F = 0) ∨ (X1 = 0 ∧ X2 = 0 ∧ X3 = 0 ∧ X4 = 0 ∧ F = 2) ∨ (X1 = 0 ∧ X2 = 0 ∧ X3 = 0 ∧ X4 = 0 ∧ F = 15))) ∨ (dg = false ∧ X1 = 0 ∧ X2 = 0 ∧ X3 = 0 ∧ X4 = 0 ∧ F = 15) := by
    rcases K1.out with ⟨hd, ho⟩ | ⟨hd, ho⟩
    · left
      refine ⟨?_, other_cases ho⟩
      rcases hdg with h | h
      · exact h.1
      · exact absurd ((digit_iff hm0 hm1).1 hd) h.2
    · right
      simp only [Prod.mk.injEq] at ho
      refine ⟨?_, ho⟩
      rcases hdg with h | h
      · exact absurd ((digit_iff hm0 hm1).2 h.2) hd
      · exact h.1
  go_cut [86] (fun s wx => s = .bool false ∧ wx = W)
  case first =>
    rcases hk with ⟨rfl, ⟨hq, rfl⟩ | ⟨rfl, rfl, rfl, rfl, rfl⟩ | ⟨rfl, rfl, rfl, rfl, rfl⟩⟩ | ⟨rfl, rfl, rfl, rfl, rfl, rfl⟩
    all_goals (go_wp2_with fail; go_meet; exact ⟨rfl, rfl⟩)
  case rest =>
  obtain ⟨rfl, hw⟩ := hcut
  rw [hw]
  clear hw
  rcases other_cases K2.out with ⟨hq, rfl⟩ | ⟨rfl, rfl, rfl, rfl, rfl⟩ | ⟨rfl, rfl, rfl, rfl, rfl⟩
  all_goals
    go_wp2_with (first | (go_at_call 12; refine (works_any _ H4.out.g).mono ?_; rintro e w5 ⟨rfl, hb5⟩; have H5 := Lib.hid (H4.out.on hb5); clear hb5))
    go_ret
    exact ⟨by first | rfl | simp [hq] | simp, H5.out.fr⟩
end Go.Proofs.YtlnfpkknhmiegaaDoor
