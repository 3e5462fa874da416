/- The reference's Get. -/
import Derived.Test.YtlnfpkknhmiegaaDoorE5
import Derived.Test.YtlnfpkknhmiegaaDoorP3
import Derived.OwnWalk
namespace Go.Proofs.YtlnfpkknhmiegaaDoor
open Go Go.RowKit

set_option maxHeartbeats 400000 in
theorem rget_short (A : Option Addr) (n c : Nat) (w : World) (hn : n < 32) :
    Calls Tryd.prog 26 #[.slice A n c] w fun e w' => e = .returned (.tuple #[quad 0 0 0 0, .int .i64 0, .int .i64 15]) ∧ Below w.heap.size w w' := by
  go_enter Tryd.func26, Tryd.ntmps26
  go_wp2
  exact bodyPost_ret (v := .tuple #[quad 0 0 0 0, .int .i64 0, .int .i64 15]) (by simp [results, Tryd.results26, go_sem]) rfl ⟨rfl, (Below.refl _ _).alloc (Nat.le_refl _) _⟩

theorem mk4 (W : World) : (Instr.makeSlice 62 (.int .i64 4) (.int .i64 4)).run Tryd.prog W = .ok (.slice (some ⟨W.heap.size, 0, none⟩) 4 4) (W.alloc (.cells #[.int .i64 0, .int .i64 0, .int .i64 0, .int .i64 0] 2)) := by kernel_rfl

set_option maxRecDepth 100000 in
set_option maxHeartbeats 2000000 in
theorem rget_any (ad : Addr) (c : Nat) (M : List Int) (w : World) (hl : M.length ≤ 200) (h32 : 32 ≤ M.length) (hM : ∀ j, j < M.length → w.cell? (ad.add j) = some (.int .u8 (M.getD j 0))) :
    Calls Tryd.prog 26 #[.slice (some ad) M.length c] w (Gets M w) := by
  have HM := Lib.hid hM
  clear hM
  have hl1 : (M.length : Int) ≤ 200 := by omega
  have hl2 : (32 : Int) ≤ M.length := by omega
  have hmk := mk4
  go_enter Tryd.func26, Tryd.ntmps26
  go_wp2
  clear hmk
  go_loopw [6] (fun i wr => ∃ k : Nat, k ≤ 4 ∧ i = .int .i64 k ∧ L4 (w.heap.size + 1) (getV M (8 * k) 0) (getV M (8 * k) 1) (getV M (8 * k) 2) (getV M (8 * k) 3) wr ∧ Below w.heap.size w wr ∧ Box w.heap.size 0 0 0 0 wr) (fun i _ => 4 - (intOf i).toNat)
  case atStart => exact ⟨0, by omega, rfl, ⟨block_new _ _ _ (by simp)⟩, ((Below.refl _ _).alloc (Nat.le_refl _) _).alloc (by simp) _, (Box.new w 0 0 0 0).alloc _⟩
  case round =>
    obtain ⟨k, hk, rfl, hL, hb, hx0⟩ := hrel
    have HL := Lib.hid hL; have HB := Lib.hid hb; have HX0 := Lib.hid hx0
    clear hL hb hx0
    by_cases hk4 : k < 4
    · go_wp2
      go_loopw [7] (fun j wx => ∃ m : Nat, m ≤ 8 ∧ j = .int .i64 m ∧ L4 (w.heap.size + 1) (getV M (8 * k + m) 0) (getV M (8 * k + m) 1) (getV M (8 * k + m) 2) (getV M (8 * k + m) 3) wx ∧ Below w.heap.size w wx ∧ Box w.heap.size 0 0 0 0 wx) (fun j _ => 8 - (intOf j).toNat)
      case atStart => exact ⟨0, by omega, rfl, HL.out, HB.out, HX0.out⟩
      case round =>
        obtain ⟨m, hm, rfl, hL, hb, hx0⟩ := hrel
        have HL2 := Lib.hid hL; have HB2 := Lib.hid hb; have HX2 := Lib.hid hx0
        clear hx0
        by_cases hm8 : m < 8
        · have hj : 8 * k + m < M.length := by omega
          have hq : (8 * k + m) / 8 = k := by omega
          have hc0 := HM.out _ hj
          have hlt := World.block_lt_of_cell? w _ hc0
          have hc1 := (hb.cell (p := ad.add (8 * k + m)) hlt).trans hc0
          have hv := cells_of_block hL.bh k
          have hat := getV_at M (8 * k + m) (by omega)
          rw [hq] at hat
          rw [hat] at hv
          have hf := frozen_of_block hL.bh k
          generalize hx : M.getD (8 * k + m) 0 = x at *
          generalize hy : getV M (8 * k + m) k = y at *
          have HX := Lib.hid hx; have HY := Lib.hid hy
          clear hx hy hL hb hc0 hlt hat
          go_wp2
          go_region
          go_wp2
          go_roundw
          case rel =>
            refine ⟨m + 1, by omega, by go_num, ⟨?_⟩, (HB2.out.setCell (by show w.heap.size ≤ w.heap.size + 1; omega) _).drew, (HX2.out.setOther (by omega) _ _).drew⟩
            show (wr.setCell _ _).heap[w.heap.size + 1]? = _
            rw [set_same HL2.out.bh]
            have e := getV_step M (8 * k + m) hj (by omega)
            rw [hq, HX.out, HY.out] at e
            exact congrArg (fun cs => some (Obj.cells cs 2 (0, 0))) e
          case measure => simp [intOf]; omega
        · have hm' : m = 8 := by omega
          subst hm'
          clear hL hb
          go_wp2
          go_roundw
          case rel => exact ⟨k + 1, by omega, by go_num, HL2.out, HB2.out, HX2.out⟩
          case measure => simp [intOf]; omega
    · have hk' : k = 4 := by omega
      subst hk'
      have hL4 : L4 (w.heap.size + 1) (getV M 32 0) (getV M 32 1) (getV M 32 2) (getV M 32 3) wr := HL.out
      have HL4 := Lib.hid hL4
      clear hL4 HL
      have hst : Valid (getV M 32 0) (getV M 32 1) (getV M 32 2) (getV M 32 3) ∧ getOf M = (getV M 32 0, getV M 32 1, getV M 32 2, getV M 32 3, 32, 0) ∨ ¬ Valid (getV M 32 0) (getV M 32 1) (getV M 32 2) (getV M 32 3) ∧ getOf M = (0, 0, 0, 0, 0, 2) := by
        by_cases h : Valid (getV M 32 0) (getV M 32 1) (getV M 32 2) (getV M 32 3)
        · exact .inl ⟨h, if_pos h⟩
        · exact .inr ⟨h, if_neg h⟩
      generalize getV M 32 0 = a at *
      generalize getV M 32 1 = b at *
      generalize getV M 32 2 = d at *
      generalize getV M 32 3 = f at *
      have HST := Lib.hid hst
      clear hst
      go_wp2_with (go_at_call 41; refine (rmade_any _ _ _ _ _ _ HL4.out).mono ?_; rintro e w1 ⟨rfl, hb1⟩; refine Hid.out ?_)
      have hs1 : w.heap.size ≤ w1.heap.size := Nat.le_trans HB.out.size hb1.size
      have HB1 := Lib.hid ((HB.out.trans (hb1.mono HB.out.size)).alloc hs1 (.cells #[.int .i64 a, .int .i64 b, .int .i64 d, .int .i64 f] 24))
      have HX1 := Lib.hid ((HX0.out.on hb1).alloc (.cells #[.int .i64 a, .int .i64 b, .int .i64 d, .int .i64 f] 24))
      have C1 := Lib.hid (Box.new w1 a b d f)
      clear hb1 hs1 HB HX0 HL4
      refine Lib.hid ?_
      go_wp2_with (go_at_call 30; refine (rcheck_any _ _ _ _ _).mono ?_; rintro e w2 ⟨rfl, hb2⟩; refine Hid.out ?_)
      have HB2 := Lib.hid (HB1.out.trans (hb2.mono HB1.out.size))
      have HX2 := Lib.hid (HX1.out.on hb2)
      have C2 := Lib.hid (C1.out.on hb2)
      generalize w1.heap.size = q at *
      clear hb2 HB1 HX1 C1
      obtain ⟨c0, c1, c2, c3⟩ := C2.out.cells
      obtain ⟨x0, x1, x2, x3⟩ := HX2.out.cells
      have f0 := HX2.out.frozen 0
      have f1 := HX2.out.frozen 1
      have f2 := HX2.out.frozen 2
      have f3 := HX2.out.frozen 3
      refine Lib.hid ?_
      rcases HST.out with ⟨hv, ho⟩ | ⟨hv, ho⟩
      · rw [chk_ok hv]
        clear hv
        go_wp2
        refine bodyPost_ret (v := .tuple #[quad a b d f, .int .i64 32, .int .i64 0]) (by simp [results, Tryd.results26, go_sem, x0, x1, x2, x3]) rfl ⟨by rw [ho], ?_⟩
        exact below_quad HB2.out (Nat.le_refl _) _ _ _ _
      · rw [chk_bad hv]
        clear hv
        go_wp2
        refine bodyPost_ret (v := .tuple #[quad 0 0 0 0, .int .i64 0, .int .i64 2]) (by simp [results, Tryd.results26, go_sem, x0, x1, x2, x3]) rfl ⟨by rw [ho], ?_⟩
        exact below_quad HB2.out (Nat.le_refl _) _ _ _ _
end Go.Proofs.YtlnfpkknhmiegaaDoor
