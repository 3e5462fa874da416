/- The contracts of config.Put and config.Text on what is not valid, and of config.Get. -/
import Derived.Test.YtlnfpkknhmiegaaDoorA10
import Derived.Test.YtlnfpkknhmiegaaDoorA9
namespace Go.Proofs.YtlnfpkknhmiegaaDoor
open Go Go.RowKit
attribute [local go_sem] ix0 ix1 ix2 ix3

set_option maxHeartbeats 400000 in
theorem put_bad (a b c d : Int) (w : World) (hG : G w) (hv : ¬ Valid a b c d) :
    Calls Tryd.prog 24 #[quad a b c d] w fun e w' => e = .returned (.tuple #[.slice none 0 0, .int .i64 2]) ∧ Below w.heap.size w w' := by
  have hp := hG.big
  have HG := Lib.hid hG; have HV := Lib.hid hv; clear hG hv
  go_enter Tryd.func24, Tryd.ntmps24
  go_wp2_with (go_at_call 18; refine (check_bad _ _ _ _ _ (HG.out.tab.below (Nat.lt_of_lt_of_le (by decide) hp) ((Below.refl _ _).alloc (Nat.le_refl _) _)) HV.out).mono ?_; rintro e w1 ⟨rfl, hb⟩; have HB := Lib.hid hb; clear hb)
  go_ret2
  exact ⟨rfl, ((Below.refl _ _).alloc (Nat.le_refl _) _).trans (HB.out.mono (by simp))⟩
set_option maxHeartbeats 400000 in
theorem text_bad (a b c d : Int) (w : World) (hG : G w) (hv : ¬ Valid a b c d) :
    Calls Tryd.prog 16 #[quad a b c d] w fun e w' => e = .returned (.tuple #[.string ⟨#[]⟩, .int .i64 2]) ∧ Below w.heap.size w w' := by
  have hp := hG.big
  have HG := Lib.hid hG; have HV := Lib.hid hv; clear hG hv
  go_enter Tryd.func16, Tryd.ntmps16
  go_wp2_with (go_at_call 18; refine (check_bad _ _ _ _ _ (HG.out.tab.below (Nat.lt_of_lt_of_le (by decide) hp) ((Below.refl _ _).alloc (Nat.le_refl _) _)) HV.out).mono ?_; rintro e w1 ⟨rfl, hb⟩; have HB := Lib.hid hb; clear hb)
  go_ret2
  exact ⟨rfl, ((Below.refl _ _).alloc (Nat.le_refl _) _).trans (HB.out.mono (by simp))⟩

set_option maxHeartbeats 400000 in
theorem get_short (A : Option Addr) (n c : Nat) (w : World) (hn : n < 32) :
    Calls Tryd.prog 25 #[.slice A n c] w fun e w' => e = .returned (.tuple #[quad 0 0 0 0, .int .i64 0, .int .i64 15]) ∧ Below w.heap.size w w' := by
  go_enter Tryd.func25, Tryd.ntmps25
  go_wp2
  exact bodyPost_ret (v := .tuple #[quad 0 0 0 0, .int .i64 0, .int .i64 15]) (by simp [results, Tryd.results25, go_sem]) rfl ⟨rfl, (Below.refl _ _).alloc (Nat.le_refl _) _⟩

/-- One byte more behind a number. -/
def gstep (acc x : Int) : Int := bits .or .i64 (wrap64 (acc * 256)) (wrap64 x)
/-- Number i of what k bytes give. -/
def getV (xs : List Int) (k i : Nat) : Int := (((xs.take k).drop (8 * i)).take 8).foldl gstep 0

theorem getV_step (xs : List Int) (k : Nat) (hk : k < xs.length) (hk2 : k < 32) :
    (#[Value.int .i64 (getV xs k 0), .int .i64 (getV xs k 1), .int .i64 (getV xs k 2), .int .i64 (getV xs k 3)]).setIfInBounds (k / 8) (.int .i64 (gstep (getV xs k (k / 8)) (xs.getD k 0))) =
    #[Value.int .i64 (getV xs (k + 1) 0), .int .i64 (getV xs (k + 1) 1), .int .i64 (getV xs (k + 1) 2), .int .i64 (getV xs (k + 1) 3)] := by
  have same : ∀ i, i ≠ k / 8 → getV xs (k + 1) i = getV xs k i := by
    intro i hi
    unfold getV
    congr 1
    rcases Nat.lt_or_ge i (k / 8) with h | h
    · have e : 8 * i + 8 ≤ k := by omega
      have : ∀ m, 8 * i + 8 ≤ m → ((xs.take m).drop (8 * i)).take 8 = (xs.drop (8 * i)).take 8 := by
        intro m hm
        rw [List.drop_take, List.take_take, Nat.min_eq_left (by omega)]
      rw [this (k + 1) (by omega), this k e]
    · have : ∀ m, m ≤ 8 * i → (xs.take m).drop (8 * i) = [] := by
        intro m hm
        rw [List.drop_eq_nil_iff, List.length_take]; omega
      rw [this (k + 1) (by omega), this k (by omega)]
  have here : getV xs (k + 1) (k / 8) = gstep (getV xs k (k / 8)) (xs.getD k 0) := by
    unfold getV
    rw [List.take_succ_eq_append_getElem hk, List.drop_append_of_le_length (by rw [List.length_take]; omega)]
    have e1 : ((xs.take k).drop (8 * (k / 8))).length = k - 8 * (k / 8) := by rw [List.length_drop, List.length_take]; omega
    generalize (xs.take k).drop (8 * (k / 8)) = L at *
    have e2 : L.take 8 = L := List.take_of_length_le (by omega)
    have e3 : (L ++ [xs[k]]).take 8 = L ++ [xs[k]] := List.take_of_length_le (by simp; omega)
    rw [e2, e3, List.foldl_append]
    simp [List.getD_eq_getElem?_getD, List.getElem?_eq_getElem hk]
  have hq : k / 8 = 0 ∨ k / 8 = 1 ∨ k / 8 = 2 ∨ k / 8 = 3 := by omega
  rcases hq with h | h | h | h
  · rw [h] at same here ⊢; rw [same 1 (by omega), same 2 (by omega), same 3 (by omega), here]; rfl
  · rw [h] at same here ⊢; rw [same 0 (by omega), same 2 (by omega), same 3 (by omega), here]; rfl
  · rw [h] at same here ⊢; rw [same 0 (by omega), same 1 (by omega), same 3 (by omega), here]; rfl
  · rw [h] at same here ⊢; rw [same 0 (by omega), same 1 (by omega), same 2 (by omega), here]; rfl

theorem getV_at (xs : List Int) (k : Nat) (hk2 : k < 32) :
    (#[Value.int .i64 (getV xs k 0), .int .i64 (getV xs k 1), .int .i64 (getV xs k 2), .int .i64 (getV xs k 3)])[k / 8]? = some (.int .i64 (getV xs k (k / 8))) := by
  have hq : k / 8 = 0 ∨ k / 8 = 1 ∨ k / 8 = 2 ∨ k / 8 = 3 := by omega
  rcases hq with h | h | h | h <;> rw [h] <;> rfl

/-- The answer of config.Get at 32 bytes or more: the four numbers, how many bytes, and the error. -/
def getOf (xs : List Int) : Int × Int × Int × Int × Int × Int :=
  if 1 ≤ getV xs 32 0 ∧ getV xs 32 0 ≤ 9223372036854775807 ∧ 1 ≤ getV xs 32 1 ∧ getV xs 32 1 ≤ 16384 ∧ 2 ≤ getV xs 32 2 ∧ getV xs 32 2 ≤ 4096 ∧ 0 ≤ getV xs 32 3 ∧ getV xs 32 3 ≤ 16384
  then (getV xs 32 0, getV xs 32 1, getV xs 32 2, getV xs 32 3, 32, 0) else (0, 0, 0, 0, 0, 2)
def Gets (xs : List Int) (w : World) (e : Ending) (w' : World) : Prop :=
  e = .returned (.tuple #[quad (getOf xs).1 (getOf xs).2.1 (getOf xs).2.2.1 (getOf xs).2.2.2.1, .int .i64 (getOf xs).2.2.2.2.1, .int .i64 (getOf xs).2.2.2.2.2]) ∧ Below w.heap.size w w'

set_option maxRecDepth 100000 in
set_option maxHeartbeats 1000000 in
theorem get_any (g o c : Nat) (xs : List Int) (w : World) (hG : G w) (h32 : 32 ≤ xs.length) (hc : xs.length ≤ c) (hx : ∀ j, j < xs.length → w.cell? ⟨g, o + j, none⟩ = some (.int .u8 (xs.getD j 0))) (hg : g < w.heap.size) :
    Calls Tryd.prog 25 #[.slice (some ⟨g, o, none⟩) xs.length c] w (Gets xs w) := by
  have H32 := Lib.hid h32
  have HG := Lib.hid hG; have HX := Lib.hid hx; clear hG hx
  have h32' : (32 : Int) ≤ xs.length := by omega
  have hc32 : (32 : Int) ≤ c := by omega
  go_enter Tryd.func25, Tryd.ntmps25
  go_wp2
  go_loopw [17] (fun i wr => ∃ k : Nat, k ≤ 32 ∧ i = .int .i64 k ∧ wr.heap[w.heap.size]? = some (.cells #[.int .i64 0, .int .i64 0, .int .i64 0, .int .i64 0] 24 (0, 0)) ∧
      wr.heap[w.heap.size + 1]? = some (.cells #[.int .i64 (getV xs k 0), .int .i64 (getV xs k 1), .int .i64 (getV xs k 2), .int .i64 (getV xs k 3)] 55 (0, 0)) ∧ Below w.heap.size w wr) (fun i _ => 32 - (intOf i).toNat)
  case atStart =>
    exact ⟨0, by omega, rfl, (Below.heap_alloc _ _ _ (by simp)).trans (block_new w _ _ rfl), block_new _ _ _ (by simp), ((Below.refl _ _).alloc (Nat.le_refl _) _).alloc (by simp) _⟩
  case round =>
    obtain ⟨k, hk, rfl, hb0, hb1, hbw⟩ := hrel
    by_cases hlt : k < 32
    · have hcell : wr.cell? ⟨g, o + k, none⟩ = some (.int .u8 (xs.getD k 0)) := (hbw.cell (p := ⟨g, o + k, none⟩) hg).trans (HX.out k (by have := H32.out; omega))
      have hv := cells_of_block hb1 (k / 8)
      rw [getV_at xs k hlt] at hv
      have hf := frozen_of_block hb1 (k / 8)
      have hzg : g < wr.heap.size := Nat.lt_of_lt_of_le hg hbw.size
      have HBW := Lib.hid hbw; have HB0 := Lib.hid hb0; have HB1 := Lib.hid hb1
      have hz1 := (Array.getElem?_eq_some_iff.1 hb1).1
      clear hbw hb0 hb1 hg
      generalize hx : xs.getD k 0 = x at *
      generalize hy : getV xs k (k / 8) = y at *
      have HXX := Lib.hid hx; have HYY := Lib.hid hy
      clear hx hy
      go_wp2
      go_roundw
      case rel =>
        refine ⟨k + 1, by omega, by go_num, (Below.heap_setCell _ _ _ _ (by show w.heap.size ≠ w.heap.size + 1; omega)).trans HB0.out, ?_, HBW.out.setCell (by show w.heap.size ≤ w.heap.size + 1; omega) _⟩
        rw [set_same HB1.out]
        have e := getV_step xs k (by have := H32.out; omega) hlt
        rw [HXX.out, HYY.out] at e
        exact congrArg (fun cs => some (Obj.cells cs 55 (0, 0))) e
      case measure => simp [intOf]; omega
    · have hk32 : k = 32 := by omega
      subst hk32
      have hst : Valid (getV xs 32 0) (getV xs 32 1) (getV xs 32 2) (getV xs 32 3) ∧ getOf xs = (getV xs 32 0, getV xs 32 1, getV xs 32 2, getV xs 32 3, 32, 0) ∨ ¬ Valid (getV xs 32 0) (getV xs 32 1) (getV xs 32 2) (getV xs 32 3) ∧ getOf xs = (0, 0, 0, 0, 0, 2) := by
        unfold Valid getOf
        by_cases h : 1 ≤ getV xs 32 0 ∧ getV xs 32 0 ≤ 9223372036854775807 ∧ 1 ≤ getV xs 32 1 ∧ getV xs 32 1 ≤ 16384 ∧ 2 ≤ getV xs 32 2 ∧ getV xs 32 2 ≤ 4096 ∧ 0 ≤ getV xs 32 3 ∧ getV xs 32 3 ≤ 16384
        · exact .inl ⟨h, if_pos h⟩
        · exact .inr ⟨h, if_neg h⟩
      generalize getV xs 32 0 = a at *
      generalize getV xs 32 1 = b at *
      generalize getV xs 32 2 = c at *
      generalize getV xs 32 3 = d at *
      clear hg h32 h32' HX H32
      obtain ⟨z1, q0, q1, q2, q3⟩ := quad_at hb1
      have HBW := Lib.hid hbw; have HB0 := Lib.hid hb0; have HST := Lib.hid hst
      have hz0 := (Array.getElem?_eq_some_iff.1 hb0).1
      clear hbw hb0 hb1 hst
      go_wp2_with (go_at_call 37; refine (made_any _ _ _ _ _).mono ?_; rintro e wA ⟨rfl, hbA⟩; refine Hid.out ?_)
      have hBA : Below w.heap.size w wA := HBW.out.trans (hbA.mono HBW.out.size)
      have hA0 := (hbA.block _ hz0).trans HB0.out
      have hzA := (Array.getElem?_eq_some_iff.1 hA0).1
      have HBA := Lib.hid hBA; have HA0 := Lib.hid hA0
      clear hbA hBA hA0 q0 q1 q2 q3 z1 hz0 HBW HB0
      rcases HST.out with ⟨hv, ho⟩ | ⟨hv, ho⟩
      · have HV := Lib.hid hv; have HO := Lib.hid ho
        clear hv ho HST
        refine Lib.hid ?_
        go_wp2_with (go_at_call 18; refine (check_ok _ _ _ _ _ (G.on HG.out (HBA.out.alloc (Nat.le_of_lt hzA) _)).tab HV.out).mono ?_; rintro e wB ⟨rfl, hbB⟩; refine Hid.out ?_)
        have hB0 := (hbB.block w.heap.size (by simp; omega)).trans ((Below.heap_alloc _ _ _ hzA).trans HA0.out)
        have hBB : Below w.heap.size w wB := (HBA.out.alloc (Nat.le_of_lt hzA) _).trans (hbB.mono (by simp; omega))
        obtain ⟨z1, q0, q1, q2, q3⟩ := quad_at ((hbB.block wA.heap.size (by simp)).trans (block_new wA _ _ rfl))
        obtain ⟨z0, k0, k1, k2, k3⟩ := quad_at hB0
        have f0 := frozen_of_block hB0 0
        have f1 := frozen_of_block hB0 1
        have f2 := frozen_of_block hB0 2
        have f3 := frozen_of_block hB0 3
        have HBB := Lib.hid hBB
        clear hbB hB0 hBB
        refine Lib.hid ?_
        go_wp2
        refine bodyPost_ret (v := .tuple #[quad a b c d, .int .i64 32, .int .i64 0]) (by simp [results, Tryd.results25, go_sem, k0, k1, k2, k3]) rfl ⟨by rw [HO.out], ?_⟩
        exact below_quad HBB.out (Nat.le_refl _) _ _ _ _
      · have HV := Lib.hid hv; have HO := Lib.hid ho
        clear hv ho HST
        refine Lib.hid ?_
        go_wp2_with (go_at_call 18; refine (check_bad _ _ _ _ _ (G.on HG.out (HBA.out.alloc (Nat.le_of_lt hzA) _)).tab HV.out).mono ?_; rintro e wB ⟨rfl, hbB⟩; refine Hid.out ?_)
        have hB0 := (hbB.block w.heap.size (by simp; omega)).trans ((Below.heap_alloc _ _ _ hzA).trans HA0.out)
        have hBB : Below w.heap.size w wB := (HBA.out.alloc (Nat.le_of_lt hzA) _).trans (hbB.mono (by simp; omega))
        obtain ⟨z0, k0, k1, k2, k3⟩ := quad_at hB0
        have f0 := frozen_of_block hB0 0
        have f1 := frozen_of_block hB0 1
        have f2 := frozen_of_block hB0 2
        have f3 := frozen_of_block hB0 3
        have HBB := Lib.hid hBB
        clear hbB hB0 hBB
        refine Lib.hid ?_
        go_wp2
        refine bodyPost_ret (v := .tuple #[quad 0 0 0 0, .int .i64 0, .int .i64 2]) (by simp [results, Tryd.results25, go_sem, k0, k1, k2, k3]) rfl ⟨by rw [HO.out], ?_⟩
        exact below_quad HBB.out (Nat.le_refl _) _ _ _ _
end Go.Proofs.YtlnfpkknhmiegaaDoor
