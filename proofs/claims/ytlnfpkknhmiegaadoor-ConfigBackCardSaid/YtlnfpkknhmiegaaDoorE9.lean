/- The walk of ConfigAgain. -/
import Derived.Test.YtlnfpkknhmiegaaDoorE8
import Derived.Deep.RegionHeld3
namespace Go.Proofs.YtlnfpkknhmiegaaDoor
open Go Go.RowKit

def bs (l : List UInt8) : ByteArray := ⟨l.toArray⟩
/-- A block of strings. -/
structure SB (g : Nat) (l : List ByteArray) (w : World) : Prop where
  bh : w.heap[g]? = some (.cells ((l.map fun x => Value.string x).toArray) 9 (0, 0))
theorem SB.lt {g : Nat} {l : List ByteArray} {w : World} (h : SB g l w) : g < w.heap.size := (Array.getElem?_eq_some_iff.1 h.bh).1
theorem SB.on {g : Nat} {l : List ByteArray} {w w' : World} (h : SB g l w) (hb : Below w.heap.size w w') : SB g l w' := ⟨(hb.block _ h.lt).trans h.bh⟩
theorem SB.cell {g : Nat} {l : List ByteArray} {w : World} (h : SB g l w) (j : Nat) (hj : j < l.length) : w.cell? ⟨g, j, none⟩ = some (.string (l.getD j ByteArray.empty)) := by
  rw [cells_of_block h.bh]
  simp [List.getD_eq_getElem?_getD, List.getElem?_eq_getElem hj]

theorem split_at (s : List UInt8) (w : World) (hG : G w) (hs : s.length ≤ 4294967280) :
    Calls Tryd.prog 20 #[.string (bs s), .string ⟨#[32]⟩] w fun e w' => e = .returned (.slice (some ⟨w.heap.size, 0, none⟩) (spl 32 s).length (spl 32 s).length) ∧ Below w.heap.size w w' ∧ SB w.heap.size ((spl 32 s).map bs) w' :=
  (split_any s w hG hs).mono fun e w' ⟨he, hw⟩ => by
    subst hw
    refine ⟨he, (Below.refl _ _).alloc (Nat.le_refl _) _, ⟨?_⟩⟩
    rw [block_new w _ _ rfl]
    simp [bs]

set_option maxRecDepth 100000 in
theorem settings_ok (a b c d : Int) (w : World) (hG : G w) (hv : Valid a b c d) :
    Calls Tryd.prog 17 #[.string (bs (textL a b c d))] w fun e w' => ∃ g, e = .returned (.slice (some ⟨g, 0, none⟩) 4 4) ∧ Below w.heap.size w w' ∧ SB g ((sets a b c d).map bs) w' := by
  have hT := text_len a b c d hv
  have hc := split_at (textL a b c d) w hG (by omega)
  obtain ⟨h0, h1, h2, h3, h4, h5, h6, h7⟩ := hv
  rw [spl_text (by omega) (by omega) (by omega) (by omega)] at hc
  have hl : (sets a b c d).length = 4 := rfl
  rw [hl] at hc
  generalize bs (textL a b c d) = s at *
  have HC := Lib.hid hc
  clear hc hG hT
  go_enter Tryd.func17, Tryd.ntmps17
  go_wp2_with (go_at_call 20; refine HC.out.mono ?_; rintro e w1 ⟨rfl, hb, hs⟩; have HB := Lib.hid hb; have HS := Lib.hid hs; clear hb hs)
  go_ret
  exact ⟨_, rfl, HB.out, HS.out⟩

theorem bs_data (s : ByteArray) : bs s.data.toList = s := by cases s; rfl
theorem parse_is (s : ByteArray) (l : List UInt8) (h : bs l = s) (hl : l.length ≤ 4294967280) (w : World) (hG : G w) {x y z t f : Int} (ha : answer (parsed l) = (x, y, z, t, f)) :
    Calls Tryd.prog 13 #[.string s] w fun e w' => e = .returned (.tuple #[quad x y z t, .int .i64 f]) ∧ Below w.heap.size w w' := parse_at s l h.symm hl w hG ha
theorem text_is (a b c d : Int) (w : World) (hG : G w) (hv : Valid a b c d) :
    Calls Tryd.prog 16 #[quad a b c d] w fun e w' => e = .returned (.tuple #[.string (bs (textL a b c d)), .int .i64 0]) ∧ Below w.heap.size w w' := text_ok a b c d w hG hv

theorem spl_len (c : UInt8) (l : List UInt8) : (spl c l).length ≤ l.length + 1 := by
  induction l with
  | nil => simp [spl]
  | cons x r ih =>
    unfold spl
    split
    · simp; omega
    · split
      · simp
      · rename_i heq; rw [heq] at ih; simp only [List.length_cons] at ih ⊢; omega
/-- A setting that was read stands among the settings. -/
theorem find_set {xs ys : List (List UInt8)} (h : ∀ x ∈ xs, x ∈ ys) (k : Nat) (hk : k < xs.length) : ∃ i, i < ys.length ∧ (ys.map bs).getD i ByteArray.empty = (xs.map bs).getD k ByteArray.empty := by
  obtain ⟨i, hi, e⟩ := List.getElem_of_mem (h _ (List.getElem_mem hk))
  refine ⟨i, hi, ?_⟩
  simp [List.getD_eq_getElem?_getD, List.getElem?_eq_getElem hk, List.getElem?_eq_getElem hi, e]

/-- What Parse answers: an error, or what was read. -/
theorem answer_tells (l : List UInt8) : (answer (parsed l) = (0, 0, 0, 0, 15) ∨ answer (parsed l) = (0, 0, 0, 0, 2)) ∨
    ∃ a b c d, answer (parsed l) = (a, b, c, d, 0) ∧ Valid a b c d ∧ (l = [] → same4 a b c d 60 1024 1024 1024 = true) ∧ (l ≠ [] → ∀ x ∈ spl 32 l, x ∈ sets a b c d) := by
  cases h : parsed l with
  | none => exact .inl (.inl rfl)
  | some st =>
    by_cases hv : Valid st.a st.b st.c st.d
    · right
      refine ⟨st.a, st.b, st.c, st.d, answer_valid (p := st.p) (q := st.q) (r := st.r) (t := st.t) hv, hv, fun hl => ?_, fun hl => ?_⟩
      · unfold parsed at h
        rw [if_pos hl] at h
        injection h with h
        subst h
        exact same4_self _ _ _ _
      · unfold parsed at h
        rw [if_neg hl] at h
        exact (run_sets _ _ _ h).1
    · exact .inl (.inr (answer_bad (p := st.p) (q := st.q) (r := st.r) (t := st.t) hv))

attribute [local go_sem ↓] eq24 ne24
attribute [local go_sem] same4_self

set_option maxRecDepth 100000 in
set_option maxHeartbeats 4000000 in
theorem again_any (s : ByteArray) (w : World) (hG : G w) : Calls Tryd.prog 5 #[.string s] w fun e w' => e = .returned (.bool true) ∧ Below w.heap.size w w' := by
  have HG : Hid (At w w) := Lib.hid ⟨hG, Below.refl _ _⟩
  clear hG
  by_cases h300 : (300 : Int) < s.size
  · go_enter Tryd.func5, Tryd.ntmps5
    go_wp2_with (first | (go_at_call 12; refine (works_any _ HG.out.g).mono ?_; rintro e w1 ⟨rfl, hb1⟩; have H1 := Lib.hid (HG.out.on hb1); clear hb1))
    go_ret
    exact ⟨rfl, H1.out.fr⟩
  have h300' : ¬ (s.size : Int) > 300 := by omega
  obtain ⟨l, hl⟩ : ∃ l, bs l = s := ⟨_, bs_data s⟩
  have hlen : l.length ≤ 300 := by
    have : s.size = l.length := by rw [← hl]; simp [bs, ByteArray.size]
    omega
  have HL := Lib.hid hl
  clear hl
  rcases answer_tells l with ha | ⟨a, b, c, d, ha, hv, hd, hx⟩
  · have hr : ∃ f : Int, answer (parsed l) = (0, 0, 0, 0, f) ∧ (f = 15 ∨ f = 2) := by
      rcases ha with h | h
      · exact ⟨_, h, .inl rfl⟩
      · exact ⟨_, h, .inr rfl⟩
    obtain ⟨f, hr, hf⟩ := hr
    have HR := Lib.hid hr
    clear ha hr
    go_enter Tryd.func5, Tryd.ntmps5
    go_wp2_with (go_at_call 13; refine (parse_is s l HL.out (by omega) _ HG.out.g HR.out).mono ?_; rintro e w1 ⟨rfl, hb1⟩; refine Hid.out ?_)
    have H1 := Lib.hid ((HG.out.on hb1).alloc (.cells #[.int .i64 0, .int .i64 0, .int .i64 0, .int .i64 0] 24))
    clear hb1 HR
    refine Lib.hid ?_
    rcases hf with rfl | rfl
    all_goals
      go_wp2_with (first | (go_at_call 12; refine (works_any _ H1.out.g).mono ?_; rintro e w2 ⟨rfl, hb2⟩; have H2 := Lib.hid (H1.out.on hb2); clear hb2))
      go_ret
      exact ⟨rfl, H2.out.fr⟩
  · have HR := Lib.hid ha; have HV := Lib.hid hv; have HD := Lib.hid hd; have HX := Lib.hid hx
    clear ha hv hd hx
    go_enter Tryd.func5, Tryd.ntmps5
    go_wp2_with (go_at_call 13; refine (parse_is s l HL.out (by omega) _ HG.out.g HR.out).mono ?_; rintro e w1 ⟨rfl, hb1⟩; refine Hid.out ?_)
    have H1 := Lib.hid ((HG.out.on hb1).alloc (.cells #[.int .i64 a, .int .i64 b, .int .i64 c, .int .i64 d] 24))
    have C1 := Lib.hid (Box.new w1 a b c d)
    clear hb1
    refine Lib.hid ?_
    go_wp2_with (go_at_call 16; refine (text_is _ _ _ _ _ H1.out.g HV.out).mono ?_; rintro e w2 ⟨rfl, hb2⟩; refine Hid.out ?_)
    have H2 := Lib.hid (H1.out.on hb2)
    have C2 := Lib.hid (C1.out.on hb2)
    clear hb2 H1 C1
    have hT := text_len a b c d HV.out
    refine Lib.hid ?_
    go_wp2_with (go_at_call 13; refine (parse_is _ _ rfl (by omega) _ H2.out.g (answer_text HV.out)).mono ?_; rintro e w3 ⟨rfl, hb3⟩; refine Hid.out ?_)
    have H3 := Lib.hid ((H2.out.on hb3).alloc (.cells #[.int .i64 a, .int .i64 b, .int .i64 c, .int .i64 d] 24))
    have C3 := Lib.hid ((C2.out.on hb3).alloc (.cells #[.int .i64 a, .int .i64 b, .int .i64 c, .int .i64 d] 24))
    have D3 := Lib.hid (Box.new w3 a b c d)
    clear hb3 H2 C2 hT
    refine Lib.hid ?_
    go_wp2_with (go_at_call 17; refine (settings_ok _ _ _ _ _ H3.out.g HV.out).mono ?_; rintro e w4 ⟨g, rfl, hb4, hs4⟩; refine Hid.out ?_)
    have H4 := Lib.hid (H3.out.on hb4)
    have C4 := Lib.hid (C3.out.on hb4)
    have D4 := Lib.hid (D3.out.on hb4)
    have S4 := Lib.hid hs4
    clear hb4 H3 C3 D3 hs4
    generalize w1.heap.size = m at *
    generalize w3.heap.size = n at *
    obtain ⟨c0, c1, c2, c3⟩ := C4.out.cells
    obtain ⟨d0, d1, d2, d3⟩ := D4.out.cells
    have hnil : ∀ W : World, (binOp .eql 36 (.slice (some ⟨g, 0, none⟩) 4 4) (.slice none 0 0)).run Tryd.prog W = .ok (.bool false) W := fun W => by first | exact Lib.run_eql_slice_nil W 36 9 _ 4 4 0 0 Tryd.underlying36 | exact Lib.run_eql_slice_nil W 36 9 _ 4 4 Tryd.underlying36
    refine Lib.hid ?_
    go_wp2_with (go_at_call 18; refine (check_ok _ _ _ _ _ H4.out.g.tab HV.out).mono ?_; rintro e w5 ⟨rfl, hb5⟩; refine Hid.out ?_)
    have H5 := Lib.hid (H4.out.on hb5)
    have C5 := Lib.hid (C4.out.on hb5)
    have S5 := Lib.hid (S4.out.on hb5)
    clear hb5 H4 C4 D4 S4 c0 c1 c2 c3 d0 d1 d2 d3 hnil
    obtain ⟨c0, c1, c2, c3⟩ := C5.out.cells
    by_cases hnl : l = []
    · have hd := HD.out hnl
      have hs0 := HL.out
      rw [hnl] at hs0
      change (⟨#[]⟩ : ByteArray) = s at hs0
      subst hs0
      refine Lib.hid ?_
      go_upto_region 12 with fail
      have hbd : Below w5.heap.size w5 w5.drew := (Below.refl _ _).drew
      go_region_held3 (fun w' => Below w5.heap.size w5 w' ∧ w'.cell? ⟨m, 0, none⟩ = some (.int .i64 a) ∧ w'.cell? ⟨m, 1, none⟩ = some (.int .i64 b) ∧ w'.cell? ⟨m, 2, none⟩ = some (.int .i64 c) ∧ w'.cell? ⟨m, 3, none⟩ = some (.int .i64 d))
        (first | exact ⟨(Below.refl _ _).drew, (C5.out.on (Below.refl _ _).drew).cells⟩ | exact ⟨Below.refl _ _, C5.out.cells⟩ | exact ⟨‹_›, (C5.out.on ‹_›).cells⟩)
        (first
          | (go_at_call 19; refine (default_any _).mono ?_; rintro e w7 ⟨rfl, hb7⟩; have hc7 := (‹Below w5.heap.size w5 _›).trans (hb7.mono (‹Below w5.heap.size w5 _›).size); clear hb7)
          | (go_at_call 12; refine (works_any _ (H5.out.g.on ‹Below w5.heap.size w5 _›)).mono ?_; rintro e w7 ⟨rfl, hb7⟩; have hc7 := (‹Below w5.heap.size w5 _›).trans (hb7.mono (‹Below w5.heap.size w5 _›).size); clear hb7))
      go_wp2_with fail
      go_ret
      exact ⟨rfl, (H5.out.on ‹_›).fr⟩
    · have hne : s.toList.isEmpty = false := by
        rw [← HL.out]
        generalize l = k at *
        cases k with
        | nil => exact absurd rfl hnl
        | cons x r => simp [bs, ByteArray.toList_eq]
      have hsp := split_at l
      rw [HL.out] at hsp
      have hx := HX.out hnl
      have HSP := Lib.hid hsp; have HXX := Lib.hid hx
      clear hsp hx
      refine Lib.hid ?_
      go_wp2_with (go_at_call 20; refine (HSP.out _ H5.out.g (by omega)).mono ?_; rintro e w6 ⟨rfl, hb6, hs6⟩; refine Hid.out ?_)
      have H6 := Lib.hid (H5.out.on hb6)
      have S6 := Lib.hid (S5.out.on hb6)
      have X6 := Lib.hid hs6
      clear hb6 hs6 H5 S5 C5 c0 c1 c2 c3
      generalize w5.heap.size = q at *
      have hN : (spl 32 l).length ≤ 301 := Nat.le_trans (spl_len 32 l) (by omega)
      have hF := find_set HXX.out
      have HF := Lib.hid hF
      clear hF HSP HXX
      refine Lib.hid ?_
      go_wp2_with fail
      go_loopw [83] (fun i wr => ∃ k : Nat, k ≤ (spl 32 l).length ∧ i = .int .i64 k ∧ At w wr ∧ SB q ((spl 32 l).map bs) wr ∧ SB g ((sets a b c d).map bs) wr) (fun i _ => (spl 32 l).length - (intOf i).toNat)
      case atStart => exact ⟨0, by omega, rfl, H6.out, X6.out, S6.out⟩
      case round =>
        obtain ⟨k, hk, rfl, hA, hX, hS⟩ := hrel
        have H7 := Lib.hid hA; have X7 := Lib.hid hX; have S7 := Lib.hid hS
        clear H6 X6 S6 hA hS
        by_cases hlt : k < (spl 32 l).length
        · have hcell := hX.cell k (by simpa using hlt)
          obtain ⟨i0, hi0, he⟩ := HF.out k hlt
          have HE := Lib.hid he; have HI := Lib.hid hi0
          clear hX he hi0
          generalize ((spl 32 l).map bs).getD k ByteArray.empty = x at *
          go_wp2_with fail
          go_loopw [12, 89] (fun f i wx => ∃ (j : Nat) (v : Bool), j ≤ 4 ∧ i = .int .i64 j ∧ f = .bool v ∧ Below wr.heap.size wr wx ∧ (i0 < j → v = true)) (fun _ i _ => 4 - (intOf i).toNat)
          case atStart => exact ⟨0, false, by omega, rfl, rfl, Below.refl _ _, fun h => by omega⟩
          case round =>
            obtain ⟨j, v, hj, rfl, rfl, hbi, hv⟩ := hrel
            have HBI := Lib.hid hbi
            clear hbi hcell
            by_cases hj4 : j < 4
            · have hcy := (S7.out.on HBI.out).cell j hj4
              by_cases hji : j = i0
              · subst hji
                rw [HE.out] at hcy
                cases v
                · go_wp2_with fail
                  go_roundw
                  case rel => exact ⟨j + 1, true, by omega, by go_num, rfl, HBI.out, fun _ => rfl⟩
                  case measure => simp [intOf]; omega
                · go_wp2_with fail
                  go_roundw
                  case rel => exact ⟨j + 1, true, by omega, by go_num, rfl, HBI.out, fun _ => rfl⟩
                  case measure => simp [intOf]; omega
              · have hv2 : i0 < j + 1 → v = true := fun h => hv (by omega)
                generalize ((sets a b c d).map bs).getD j ByteArray.empty = y at *
                have HV2 := Lib.hid hv2
                clear hv hv2
                cases v
                · go_wp2_with fail
                  go_roundw
                  case rel => exact ⟨j + 1, _, by omega, by go_num, rfl, HBI.out, fun h => by have := HV2.out h; cases this⟩
                  case measure => simp [intOf]; omega
                · go_wp2_with fail
                  go_roundw
                  case rel => exact ⟨j + 1, true, by omega, by go_num, rfl, HBI.out, fun _ => rfl⟩
                  case measure => simp [intOf]; omega
            · have hj4' : j = 4 := by omega
              subst hj4'
              have hvt : v = true := hv HI.out
              subst hvt
              go_wp2_with fail
              go_roundw
              case rel => exact ⟨k + 1, by omega, by go_num, H7.out.on HBI.out, X7.out.on HBI.out, S7.out.on HBI.out⟩
              case measure => simp [intOf]; omega
        · have hkn : k = (spl 32 l).length := by omega
          subst hkn
          clear hX
          go_wp2_with (go_at_call 12; refine (works_any _ H7.out.g).mono ?_; rintro e w7 ⟨rfl, hb7⟩; have H8 := Lib.hid (H7.out.on hb7); clear hb7)
          go_ret
          exact ⟨rfl, H8.out.fr⟩
end Go.Proofs.YtlnfpkknhmiegaaDoor
