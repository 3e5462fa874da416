/- The walk of ConfigShort. -/
import Derived.Test.YtlnfpkknhmiegaaDoorE6
import Derived.Test.YtlnfpkknhmiegaaDoorP3
import Derived.Deep.DeepCutAuto
namespace Go.Proofs.YtlnfpkknhmiegaaDoor
open Go Go.RowKit

/-- A block of bytes. -/
structure BB (g : Nat) (l : List Int) (w : World) : Prop where
  bh : w.heap[g]? = some (.cells ((l.map fun x => Value.int .u8 x).toArray) 5 (0, 0))
theorem BB.lt {g : Nat} {l : List Int} {w : World} (h : BB g l w) : g < w.heap.size := (Array.getElem?_eq_some_iff.1 h.bh).1
theorem BB.on {g : Nat} {l : List Int} {w w' : World} (h : BB g l w) (hb : Below w.heap.size w w') : BB g l w' := ⟨(hb.block _ h.lt).trans h.bh⟩
theorem BB.cell {g : Nat} {l : List Int} {w : World} (h : BB g l w) (j : Nat) (hj : j < l.length) : w.cell? ⟨g, j, none⟩ = some (.int .u8 (l.getD j 0)) := by
  rw [cells_of_block h.bh]
  simp [List.getD_eq_getElem?_getD, List.getElem?_eq_getElem hj]
theorem BB.frozen {g : Nat} {l : List Int} {w : World} (h : BB g l w) (j : Nat) : w.frozen? ⟨g, j, none⟩ = false := frozen_of_block h.bh j
theorem BB.set {g : Nat} {l : List Int} {w : World} (h : BB g l w) (j : Nat) (v : Int) : BB g (l.set j v) (w.setCell ⟨g, j, none⟩ (.int .u8 v)) := ⟨by rw [set_same h.bh]; simp [List.map_set]⟩
theorem laid_full (l : List Int) (h : l.length = 32) : laid l 32 = (l.map fun x => Value.int .u8 x).toArray := by
  unfold laid
  rw [List.take_of_length_le (by omega)]
  simp
theorem BB.of_laid {g : Nat} {l : List Int} {w : World} (hl : l.length = 32) (h : w.heap[g]? = some (.cells (laid l 32) 5 (0, 0))) : BB g l w := ⟨by rw [h, laid_full l hl]⟩

theorem get32 (g : Nat) (xs : List Int) (w : World) (hG : G w) (hl : xs.length = 32) (h : BB g xs w) :
    Calls Tryd.prog 25 #[.slice (some ⟨g, 0, none⟩) 32 32] w (Gets xs w) := by
  have := get_any g 0 32 xs w hG (by omega) (by omega) (fun j hj => by rw [Nat.zero_add]; exact h.cell j hj) h.lt
  rwa [hl] at this
/-- What Get tells of 32 bytes: a configuration that has these bytes, or an error. -/
theorem gets_tells (xs : List Int) (hl : xs.length = 32) (h : ∀ x ∈ xs, IsB x) :
    (∃ a b c d, getOf xs = (a, b, c, d, 32, 0) ∧ Valid a b c d ∧ putL a b c d = xs) ∨ (getOf xs = (0, 0, 0, 0, 0, 2) ∧ ¬ ∃ a b c d, Valid a b c d ∧ putL a b c d = xs) := by
  by_cases hv : Valid (getV xs 32 0) (getV xs 32 1) (getV xs 32 2) (getV xs 32 3)
  · left
    have hv' := hv
    refine ⟨_, _, _, _, if_pos hv, hv, ?_⟩
    obtain ⟨h0, h1, h2, h3, h4, h5, h6, h7⟩ := hv'
    exact put_get xs hl h (by omega) (by omega) (by omega) (by omega)
  · right
    refine ⟨if_neg hv, ?_⟩
    rintro ⟨a, b, c, d, h1, rfl⟩
    have := getV_put h1 [] (by simp)
    rw [List.append_nil] at this
    rw [this.1, this.2.1, this.2.2.1, this.2.2.2] at hv
    exact hv h1

theorem same32 (g g' : Nat) (xs : List Int) (w : World) (hl : xs.length = 32) (h : BB g xs w) (h' : BB g' xs w) :
    Calls Tryd.prog 27 #[.slice (some ⟨g, 0, none⟩) 32 32, .slice (some ⟨g', 0, none⟩) 32 32] w fun e w' => e = .returned (.bool true) ∧ Below w.heap.size w w' := by
  have := same_true g 0 g' 0 32 32 xs w (by omega) (fun j hj => by rw [Nat.zero_add]; exact h.cell j hj) (fun j hj => by rw [Nat.zero_add]; exact h'.cell j hj)
  rwa [hl] at this

attribute [local go_sem ↓] eq24 ne24
attribute [local go_sem] same4_self

set_option maxRecDepth 100000 in
set_option maxHeartbeats 4000000 in
theorem short_any (a b c d n m u : Int) (w : World) (hG : G w) (ha : 0 ≤ a ∧ a ≤ 18446744073709551615) (hb : 0 ≤ b ∧ b ≤ 65535) (hc : 0 ≤ c ∧ c ≤ 65535) (hd : 0 ≤ d ∧ d ≤ 65535) (hn : 0 ≤ n ∧ n ≤ 255) (hm : 0 ≤ m ∧ m ≤ 255) (hu : 0 ≤ u ∧ u ≤ 255) :
    Calls Tryd.prog 10 #[.int .u64 a, .int .u16 b, .int .u16 c, .int .u16 d, .int .u8 n, .int .u8 m, .int .u8 u] w fun e w' => e = .returned (.bool true) ∧ Below w.heap.size w w' := by
  have HG : Hid (At w w) := Lib.hid ⟨hG, Below.refl _ _⟩
  clear hG
  obtain ⟨hn0, hn1⟩ := hn
  obtain ⟨hm0, hm1⟩ := hm
  obtain ⟨hu0, hu1⟩ := hu
  go_enter Tryd.func10, Tryd.ntmps10
  go_wp2_with (go_at_call 15; refine (drawn_any _ _ _ _ _ ha hb hc hd).mono ?_; rintro e w1 ⟨rfl, hb⟩; refine Hid.out ?_)
  have hv := dr_valid a b c d
  have H1 := Lib.hid ((HG.out.on hb).alloc (.cells #[.int .i64 (dr0 a), .int .i64 (dr1 b), .int .i64 (dr2 c), .int .i64 (dr3 d)] 24))
  have B1 := Lib.hid (Box.new w1 (dr0 a) (dr1 b) (dr2 c) (dr3 d))
  generalize dr0 a = x at *
  generalize dr1 b = y at *
  generalize dr2 c = z at *
  generalize dr3 d = t at *
  have HV := Lib.hid hv
  clear hb hv HG ha hc hd
  refine Lib.hid ?_
  go_wp2_with (go_at_call 24; refine (put_ok _ _ _ _ _ H1.out.g HV.out).mono ?_; rintro e w2 ⟨g, rfl, hg, hb2, hbb⟩; refine Hid.out ?_)
  have H2 := Lib.hid (H1.out.on hb2)
  have B2 := Lib.hid (B1.out.on hb2)
  have P2 := Lib.hid (BB.of_laid (by simp [putL, be8]) hbb)
  have hgw : w.heap.size ≤ g := Nat.le_trans H1.out.fr.size hg
  have h9 : 9 ≤ g := Nat.le_trans H1.out.g.big hg
  have hgn : w1.heap.size ≠ g := by have := B1.out.lt; omega
  generalize w1.heap.size = p at *
  clear hb2 hbb H1 B1 hg
  refine Lib.hid ?_
  have h32 : (n % 32).toNat < 32 := by omega
  go_wp2_with (go_at_call 25; refine (get_short _ _ _ _ h32).mono ?_; rintro e w3 ⟨rfl, hb3⟩; refine Hid.out ?_)
  have H3 := Lib.hid ((H2.out.on hb3).alloc (.cells #[.int .i64 0, .int .i64 0, .int .i64 0, .int .i64 0] 24))
  have B3 := Lib.hid ((B2.out.on hb3).alloc (.cells #[.int .i64 0, .int .i64 0, .int .i64 0, .int .i64 0] 24))
  have P3 := Lib.hid ((P2.out.on hb3).on ((Below.refl _ _).alloc (Nat.le_refl _) (.cells #[.int .i64 0, .int .i64 0, .int .i64 0, .int .i64 0] 24)))
  have Z3 := Lib.hid (Box.new w3 0 0 0 0)
  clear hb3 H2 B2 P2 h32
  refine Lib.hid ?_
  have hm32 : (m % 32).toNat < 32 := by omega
  have hl : (putL x y z t).length = 32 := by simp [putL, be8]
  have c66 := P3.out.cell (m % 32).toNat (by rw [hl]; exact hm32)
  have f66 := P3.out.frozen (m % 32).toNat
  have hset := xor_set (putL x y z t) (m % 32).toNat u (by rw [hl]; exact hm32) (put_all x y z t) ⟨hu0, hu1⟩
  have W4 := Lib.hid (P3.out.set (m % 32).toNat (bits .xor .u8 ((putL x y z t).getD (m % 32).toNat 0) u))
  have hl2 : ((putL x y z t).set (m % 32).toNat (bits .xor .u8 ((putL x y z t).getD (m % 32).toNat 0) u)).length = 32 := by rw [List.length_set, hl]
  have H4 : Hid (At w ((w3.alloc (.cells #[.int .i64 0, .int .i64 0, .int .i64 0, .int .i64 0] 24)).setCell ⟨g, (m % 32).toNat, none⟩ (.int .u8 (bits .xor .u8 ((putL x y z t).getD (m % 32).toNat 0) u)))) :=
    Lib.hid ⟨H3.out.g.below (Nat.le_refl 9) ((Below.refl 9 _).setCell h9 _), H3.out.fr.setCell hgw _⟩
  have B4 := Lib.hid (B3.out.setOther hgn (m % 32).toNat (.int .u8 (bits .xor .u8 ((putL x y z t).getD (m % 32).toNat 0) u)))
  generalize hys : (putL x y z t).set (m % 32).toNat (bits .xor .u8 ((putL x y z t).getD (m % 32).toNat 0) u) = ys at *
  have HYS := Lib.hid hys; have HSET := Lib.hid hset
  clear hys hset
  generalize (putL x y z t).getD (m % 32).toNat 0 = v at *
  go_wp2_with (go_at_call 25; refine (get32 g ys _ H4.out.g hl2 W4.out).mono ?_; rintro e w5 ⟨rfl, hb5⟩; refine Hid.out ?_)
  have H5 := Lib.hid (H4.out.on hb5)
  have B5 := Lib.hid (B4.out.on hb5)
  have W5 := Lib.hid (W4.out.on hb5)
  clear hb5 c66 f66 H3 B3 P3 Z3 H4 B4 W4
  rcases gets_tells ys hl2 HSET.out.1 with ⟨a', b', c', d', hgo, hv', hp'⟩ | ⟨hgo, hno⟩
  · rw [hgo]
    have HV' := Lib.hid hv'
    have HP' := Lib.hid hp'
    have hq : same4 a' b' c' d' x y z t = true ∧ u = 0 ∨ same4 a' b' c' d' x y z t = false ∧ ¬ u = 0 := by
      by_cases h0 : u = 0
      · left
        refine ⟨?_, h0⟩
        have e := HSET.out.2.2 h0
        have e1 := getV_put HV.out [] (by simp)
        have e2 := getV_put hv' [] (by simp)
        rw [List.append_nil] at e1 e2
        rw [hp', e] at e2
        rw [← e2.1, ← e2.2.1, ← e2.2.2.1, ← e2.2.2.2, e1.1, e1.2.1, e1.2.2.1, e1.2.2.2, same4_self]
      · right
        refine ⟨?_, h0⟩
        simp only [same4, decide_eq_false_iff_not]
        rintro ⟨rfl, rfl, rfl, rfl⟩
        exact h0 (HSET.out.2.1 hp'.symm)
    clear hgo hv' hp'
    refine Lib.hid ?_
    go_wp2_with (go_at_call 24; refine (put_ok _ _ _ _ _ (H5.out.alloc _).g HV'.out).mono ?_; rintro e w6 ⟨g2, rfl, hg2, hb6, hbb⟩; refine Hid.out ?_)
    have H6 := Lib.hid ((H5.out.alloc (.cells #[.int .i64 a', .int .i64 b', .int .i64 c', .int .i64 d'] 24)).on hb6)
    have B6 := Lib.hid ((B5.out.alloc (.cells #[.int .i64 a', .int .i64 b', .int .i64 c', .int .i64 d'] 24)).on hb6)
    have D6 := Lib.hid ((Box.new w5 a' b' c' d').on hb6)
    have W6 := Lib.hid ((W5.out.on ((Below.refl _ _).alloc (Nat.le_refl _) (.cells #[.int .i64 a', .int .i64 b', .int .i64 c', .int .i64 d'] 24))).on hb6)
    have P6 : Hid (BB g2 ys w6) := Lib.hid (by rw [← HP'.out]; exact BB.of_laid (by simp [putL, be8]) hbb)
    clear hb6 hbb hg2
    obtain ⟨b0, b1, b2, b3⟩ := B6.out.cells
    obtain ⟨d0, d1, d2, d3⟩ := D6.out.cells
    generalize w5.heap.size = r at *
    refine Lib.hid ?_
    rcases hq with ⟨hq, hu⟩ | ⟨hq, hu⟩
    all_goals
      go_wp2_with (first
        | (go_at_call 27; refine (same32 _ _ ys _ hl2 P6.out W6.out).mono ?_; rintro e w7 ⟨rfl, hb7⟩; have H7 := Lib.hid (H6.out.on hb7); clear hb7 b0 b1 b2 b3 d0 d1 d2 d3)
        | (go_at_call 12; refine (works_any _ H7.out.g).mono ?_; rintro e w8 ⟨rfl, hb8⟩; have H8 := Lib.hid (H7.out.on hb8); clear hb8))
    · go_ret
      exact ⟨rfl, H8.out.fr⟩
    · go_ret
      exact ⟨by simp [hu], H8.out.fr⟩
  · rw [hgo]
    have hu : ¬ u = 0 := fun h0 => hno ⟨x, y, z, t, HV.out, (HSET.out.2.2 h0).symm⟩
    clear hgo hno
    refine Lib.hid ?_
    go_wp2_with (first
      | (go_at_call 12; refine (works_any _ (H5.out.alloc _).g).mono ?_; rintro e w6 ⟨rfl, hb6⟩; have H6 := Lib.hid ((H5.out.alloc _).on hb6); clear hb6))
    go_ret
    exact ⟨by simp [hu], H6.out.fr⟩
end Go.Proofs.YtlnfpkknhmiegaaDoor
