/- The contract of config.Put. -/
import Derived.Test.YtlnfpkknhmiegaaDoorA3
namespace Go.Proofs.YtlnfpkknhmiegaaDoor
open Go Go.RowKit
attribute [local go_sem] ix0 ix1 ix2 ix3

/-- Byte k of a number that is not negative, the highest one first. -/
def byteAt (x : Int) (k : Nat) : Int := x / 2 ^ (56 - 8 * k) % 256
def be8 (x : Int) : List Int := (List.range 8).map (byteAt x)
/-- The bytes of a configuration. -/
def putL (a b c d : Int) : List Int := be8 a ++ be8 b ++ be8 c ++ be8 d
theorem putL_length (a b c d : Int) : (putL a b c d).length = 32 := by simp [putL, be8]

/-- The new row while the bytes l are being laid: n of them are there. -/
def laid (l : List Int) (n : Nat) : Array Value := ((l.take n ++ List.replicate (32 - n) 0).map fun x => Value.int .u8 x).toArray

theorem mk32 (l : List Int) (W : World) : (Instr.makeSlice 34 (.int .i64 32) (.int .i64 32)).run Tryd.prog W = .ok (.slice (some ⟨W.heap.size, 0, none⟩) 32 32) (W.alloc (.cells (laid l 0) 5)) := by kernel_rfl

theorem laid_step (l : List Int) (n : Nat) (h : n < l.length) (hn : n < 32) : (laid l n).setIfInBounds n (.int .u8 (l.getD n 0)) = laid l (n + 1) := by
  apply Array.ext'
  simp only [laid, Array.toList_setIfInBounds]
  rw [List.take_succ_eq_append_getElem h, show 32 - n = (32 - (n + 1)) + 1 by omega, List.replicate_succ]
  simp only [List.map_append, List.map_cons, List.append_assoc, List.singleton_append]
  rw [List.set_append_right _ _ (by simp; omega)]
  simp [Nat.min_eq_left (Nat.le_of_lt h), List.getD_eq_getElem?_getD, List.getElem?_eq_getElem h]

theorem set_same' {w : World} {n i : Nat} {cs : Array Value} {t : TypeId} {v : Value} (h : w.heap[n]? = some (.cells cs t (0, 0))) : (w.setCell ⟨n, i, none⟩ v).heap[n]? = some (.cells (cs.setIfInBounds i v) t (0, 0)) := by
  simp [World.setCell, Array.getElem?_modify, h]

theorem laid_some (l : List Int) (n i : Nat) (hl : l.length = 32) (hn : n ≤ 32) (hi : i < 32) : ∃ v, (laid l n)[i]? = some v := by
  have hs : (laid l n).size = 32 := by simp [laid, hl]; omega
  exact ⟨_, Array.getElem?_eq_getElem (by omega)⟩

theorem be8_at (x : Int) (j : Nat) (h : j < 8) : (be8 x).getD j 0 = byteAt x j := by
  simp [be8, List.getD_eq_getElem?_getD, h]
theorem be8_length (x : Int) : (be8 x).length = 8 := by simp [be8]
theorem putL_at (a b c d : Int) (k : Nat) (hk : k < 4) (hv : Valid a b c d) :
    ∃ x : Int, (∀ W, (Instr.index 55 (quad a b c d) (.int .i64 (k : Int))).run Tryd.prog W = .ok (.int .i64 x) W) ∧ 0 ≤ x ∧ x ≤ 9223372036854775807 ∧ ∀ j, j < 8 → (putL a b c d).getD (8 * k + j) 0 = byteAt x j := by
  unfold Valid at hv
  have e : ∀ (l r : List Int) (n j : Nat), l.length = n → (l ++ r).getD (n + j) 0 = r.getD j 0 := by
    intro l r n j h
    rw [List.getD_eq_getElem?_getD, List.getElem?_append_right (by omega), List.getD_eq_getElem?_getD]
    congr 2; omega
  have e2 : ∀ (x : Int) (r : List Int) (j : Nat), j < 8 → (be8 x ++ r).getD j 0 = byteAt x j := by
    intro x r j h
    rw [List.getD_eq_getElem?_getD, List.getElem?_append_left (by rw [be8_length]; exact h), ← List.getD_eq_getElem?_getD, be8_at x j h]
  match k, hk with
  | 0, _ => exact ⟨a, ix0 a b c d, by omega, by omega, fun j hj => by simp only [putL, List.append_assoc]; rw [show 8 * 0 + j = j by omega]; exact e2 _ _ _ hj⟩
  | 1, _ => exact ⟨b, ix1 a b c d, by omega, by omega, fun j hj => by simp only [putL, List.append_assoc]; rw [show 8 * 1 + j = 8 + j by omega, e _ _ _ _ (be8_length a)]; exact e2 _ _ _ hj⟩
  | 2, _ => exact ⟨c, ix2 a b c d, by omega, by omega, fun j hj => by simp only [putL, List.append_assoc]; rw [show 8 * 2 + j = 8 + (8 + j) by omega, e _ _ _ _ (be8_length a), e _ _ _ _ (be8_length b)]; exact e2 _ _ _ hj⟩
  | 3, _ => exact ⟨d, ix3 a b c d, by omega, by omega, fun j hj => by simp only [putL, List.append_assoc]; rw [show 8 * 3 + j = 8 + (8 + (8 + j)) by omega, e _ _ _ _ (be8_length a), e _ _ _ _ (be8_length b), e _ _ _ _ (be8_length c), be8_at d j hj]⟩

set_option maxRecDepth 100000 in
set_option maxHeartbeats 1000000 in
theorem put_ok (a b c d : Int) (w : World) (hG : G w) (hv : Valid a b c d) :
    Calls Tryd.prog 24 #[quad a b c d] w fun e w' => ∃ g, e = .returned (.tuple #[.slice (some ⟨g, 0, none⟩) 32 32, .int .i64 0]) ∧ w.heap.size ≤ g ∧ Below w.heap.size w w' ∧ w'.heap[g]? = some (.cells (laid (putL a b c d) 32) 5 (0, 0)) := by
  have hmk := mk32 (putL a b c d)
  have hp := hG.big
  have hV := Lib.hid hv
  have HG := Lib.hid hG; clear hG hv
  go_enter Tryd.func24, Tryd.ntmps24
  go_wp2_with (go_at_call 18; refine (check_ok _ _ _ _ _ (HG.out.tab.below (Nat.lt_of_lt_of_le (by decide) hp) ((Below.refl _ _).alloc (Nat.le_refl _) _)) hV.out).mono ?_; rintro e w1 ⟨rfl, hb⟩; refine Hid.out ?_)
  have hb1 : Below w.heap.size w w1 := ((Below.refl _ _).alloc (Nat.le_refl _) _).trans (hb.mono (by simp))
  obtain ⟨hz, k0, k1, k2, k3⟩ := quad_at (n := w.heap.size) ((hb.block _ (by simp)).trans (block_new w _ _ rfl))
  clear hb
  have HB1 := Lib.hid hb1; clear hb1
  refine Lib.hid ?_
  go_wp2_with (go_at_call 35; refine (fields_any _ _ _ _ _).mono ?_; rintro e w2 ⟨rfl, hb⟩; refine Hid.out ?_)
  have hbl : w2.heap[w1.heap.size]? = some (.cells (laid (putL a b c d) 0) 5 (0, 0)) := (hb.block _ (by simp)).trans (block_new w1 _ _ rfl)
  have hb2 : Below w.heap.size w w2 := (HB1.out.alloc (Nat.le_of_lt hz) _).trans (hb.mono (by simp; omega))
  clear hb k0 k1 k2 k3
  have hpl := putL_length a b c d
  generalize hL : putL a b c d = L at *
  have HL := Lib.hid hL
  clear hL hmk
  generalize hg : w1.heap.size = g at *
  have HGB : Hid (w.heap.size ≤ g) := Lib.hid (Nat.le_of_lt hz)
  clear hg hz
  have HB2 := Lib.hid hb2; have HBL := Lib.hid hbl; have HPL := Lib.hid hpl
  clear hb2 hbl hpl
  refine Lib.hid ?_
  go_wp2
  go_outline
  go_loopw [17] (fun i wr => ∃ k : Nat, k ≤ 4 ∧ i = .int .i64 k ∧ wr.heap[g]? = some (.cells (laid L (8 * k)) 5 (0, 0)) ∧ Below w.heap.size w wr) (fun i _ => 4 - (intOf i).toNat)
  case atStart => exact ⟨0, by omega, rfl, HBL.out, HB2.out⟩
  case round =>
    obtain ⟨k, hk, rfl, hbl, hbw⟩ := hrel
    have HBW := Lib.hid hbw
    clear hbw
    by_cases hlt : k < 4
    · obtain ⟨x, hix, hx0, hx1, hxj⟩ := putL_at a b c d k hlt hV.out
      rw [HL.out] at hxj
      have HXJ := Lib.hid hxj; have HBL2 := Lib.hid hbl
      clear hxj hbl
      go_wp2
      clear hix
      go_loopw [21] (fun i wr => ∃ j : Nat, j ≤ 8 ∧ i = .int .i64 j ∧ wr.heap[g]? = some (.cells (laid L (8 * k + j)) 5 (0, 0)) ∧ Below w.heap.size w wr) (fun i _ => 8 - (intOf i).toNat)
      case atStart => exact ⟨0, by omega, rfl, HBL2.out, HBW.out⟩
      case round =>
        obtain ⟨j, hj, rfl, hbl, hbw⟩ := hrel
        have HBW2 := Lib.hid hbw; have HBL3 := Lib.hid hbl
        have hzg := (Array.getElem?_eq_some_iff.1 hbl).1
        by_cases hjt : j < 8
        · have hcell := cells_of_block hbl (8 * k + j)
          have hfz := frozen_of_block hbl (8 * k + j)
          obtain ⟨v, hv⟩ := laid_some L (8 * k + j) (8 * k + j) HPL.out (by omega) (by omega)
          rw [hv] at hcell
          clear hbw hbl hv
          go_wp2
          go_roundw
          case rel =>
            refine ⟨j + 1, by omega, by go_num, ?_, HBW2.out.setCell HGB.out _⟩
            have := set_same' (i := 8 * k + j) (v := .int .u8 (x / 2 ^ (56 - 8 * j) % 256)) HBL3.out
            rw [this]
            have e := laid_step L (8 * k + j) (by rw [HPL.out]; omega) (by omega)
            rw [HXJ.out j hjt] at e
            exact congrArg (fun cs => some (Obj.cells cs 5 (0, 0))) e
          case measure => simp [intOf]; omega
        · have hj8 : j = 8 := by omega
          subst hj8
          clear hbw hbl
          go_wp2
          go_roundw
          case rel => exact ⟨k + 1, by omega, by go_num, HBL3.out, HBW2.out⟩
          case measure => simp [intOf]; omega
    · have hk4 : k = 4 := by omega
      subst hk4
      have HBL2 := Lib.hid hbl
      clear hbl
      go_wp2
      go_ret2
      exact ⟨g, rfl, HGB.out, HBW.out, by rw [HL.out]; exact HBL2.out⟩
end Go.Proofs.YtlnfpkknhmiegaaDoor
