/- The reference's sum, walked. -/
import Derived.Test.YtobaodkcjjgkdaaMa9
namespace Go.Proofs.Ytobaodkcjjgkdaa
open Go Go.RowKit

/-- A wide integer in memory. -/
structure WB (p : Nat) (s : Bool) (ds : List Int) (w : World) : Prop where
  bh : w.heap[p]? = some (.cells (Value.bool s :: u64s ds).toArray 79 (0, 0))
theorem WB.on {p : Nat} {s : Bool} {ds : List Int} {w w' : World} (h : WB p s ds w) (hb : Below w.heap.size w w') : WB p s ds w' := ⟨(hb.block _ (block_lt h.bh)).trans h.bh⟩
theorem WB.cells {p : Nat} {s : Bool} {a b c d e f : Int} {w : World} (h : WB p s [a, b, c, d, e, f] w) :
    w.cell? ⟨p, 0, none⟩ = some (.bool s) ∧ w.cell? ⟨p, 1, none⟩ = some (.int .u64 a) ∧ w.cell? ⟨p, 2, none⟩ = some (.int .u64 b) ∧ w.cell? ⟨p, 3, none⟩ = some (.int .u64 c) ∧ w.cell? ⟨p, 4, none⟩ = some (.int .u64 d) ∧ w.cell? ⟨p, 5, none⟩ = some (.int .u64 e) ∧ w.cell? ⟨p, 6, none⟩ = some (.int .u64 f) :=
  ⟨cells_of_block h.bh 0, cells_of_block h.bh 1, cells_of_block h.bh 2, cells_of_block h.bh 3, cells_of_block h.bh 4, cells_of_block h.bh 5, cells_of_block h.bh 6⟩

theorem WB.store {p : Nat} {s : Bool} {a b c d e f : Int} {w : World} (h : WB p s [a, b, c, d, e, f] w) (r : Bool) (x0 x1 x2 x3 x4 x5 : Int) :
    WB p r [x0, x1, x2, x3, x4, x5] (((((((w.setCell ⟨p, 0, none⟩ (.bool r)).setCell ⟨p, 1, none⟩ (.int .u64 x0)).setCell ⟨p, 2, none⟩ (.int .u64 x1)).setCell ⟨p, 3, none⟩ (.int .u64 x2)).setCell ⟨p, 4, none⟩ (.int .u64 x3)).setCell ⟨p, 5, none⟩ (.int .u64 x4)).setCell ⟨p, 6, none⟩ (.int .u64 x5)) :=
  ⟨(set_same (set_same (set_same (set_same (set_same (set_same (set_same h.bh))))))).trans (by rfl)⟩
theorem pw6 : 1000001 * 9223372036854775808 < Wd.pw 6 := by unfold Wd.pw; decide
theorem wval_dec {x : Int} {fs : List Int} (h : (if x < 0 then - Wd.mag fs else Wd.mag fs) = x) : wval (decide (x < 0)) fs = x := by
  unfold wval
  by_cases hx : x < 0
  · rw [if_pos hx] at h
    rw [if_pos (decide_eq_true hx), h]
  · rw [if_neg hx] at h
    rw [if_neg (by simpa using hx), h]
set_option maxRecDepth 1000000 in
set_option maxHeartbeats 8000000 in
theorem rsum_any (A B : Option Addr) (c cb : Nat) (l : List Edge) (os : List Int) (w : World) (hE : Edges A l w) (hO : IntsR B os w) (hos : ∀ x ∈ os, 0 ≤ x ∧ x < l.length) (hl : l.length ≤ 1000000) (hol : os.length ≤ 1000000) (hw : I64s (wts l os)) :
    Calls Try.prog 45 #[.slice A l.length c, .slice B os.length cb] w fun e w' => (∃ r ds, e = .returned (wideV r ds) ∧ Wd.Dig ds ∧ wval r ds = (wts l os).sum ∧ Wd.mag ds ≤ os.length * 9223372036854775808) ∧ Below w.heap.size w w' := by
  have HE := Lib.hid hE; have HO := Lib.hid hO; have HOS := Lib.hid hos; have HWT := Lib.hid hw
  have l1 : (l.length : Int) ≤ 1000000 := by omega
  have ol1 : (os.length : Int) ≤ 1000000 := by omega
  clear hE hO hos hw
  go_enter Try.func45, Try.ntmps45
  go_wp2_with fail
  obtain ⟨W0, hW0⟩ : ∃ W0, W0 = (w.alloc (.cells #[.bool false, .int .u64 0, .int .u64 0, .int .u64 0, .int .u64 0, .int .u64 0, .int .u64 0] 79)).alloc (.cells #[.bool false, .int .u64 0, .int .u64 0, .int .u64 0, .int .u64 0, .int .u64 0, .int .u64 0] 79) := ⟨_, rfl⟩
  rw [← hW0]
  have m0 : WB w.heap.size false (List.replicate 6 0) W0 := ⟨by rw [hW0]; exact (Below.heap_alloc _ _ _ (by simp)).trans (block_new _ _ _ rfl)⟩
  have m1 : WB (w.heap.size + 1) false (List.replicate 6 0) W0 := ⟨by rw [hW0]; exact block_new _ _ _ (by simp)⟩
  have hbl : Below w.heap.size w W0 := by rw [hW0]; exact ((Below.refl _ _).alloc (Nat.le_refl _) _).alloc (by simp) _
  have HM0 := Lib.hid m0; have HM1 := Lib.hid m1; have HBL := Lib.hid hbl
  clear hW0 m0 m1 hbl
  go_loopw [6] (fun i wr => ∃ k : Nat, k ≤ os.length ∧ i = .int .i64 k ∧ ∃ s ds, Hid (Wd.Dig ds ∧ wval s ds = ((wts l os).take k).sum ∧ Wd.mag ds ≤ k * 9223372036854775808) ∧ WB w.heap.size false (List.replicate 6 0) wr ∧ WB (w.heap.size + 1) s ds wr ∧ Below w.heap.size w wr) (fun i _ => os.length - (intOf i).toNat)
  case atStart => exact ⟨0, by omega, rfl, false, _, Lib.hid ⟨⟨rfl, fun d hd => by have := List.eq_of_mem_replicate hd; omega⟩, by simp [wval, Wd.mag], by simp [Wd.mag]⟩, HM0.out, HM1.out, HBL.out⟩
  case round =>
    obtain ⟨k, hk, rfl, s, ds, hI, h0, h1, hb⟩ := hrel
    by_cases hlt : k < os.length
    · have hlt1 : (k : Int) < os.length := by omega
      have hxr := HOS.out _ (List.getElem_mem hlt)
      obtain ⟨ei, hei⟩ := Int.eq_ofNat_of_zero_le hxr.1
      have heil : ei < l.length := by omega
      obtain ⟨b2, o2, rfl, hc2⟩ := HO.out (by omega)
      obtain ⟨b, o, rfl, hc⟩ := HE.out (by omega)
      have hvx : St.v os k = (ei : Int) := by rw [← hei]; exact St.getD_at hlt
      have k1 := (hb.cell (p := ⟨b2, o2 + k, none⟩) (World.block_lt_of_cell? w _ (hc2 k hlt))).trans (hc2 k hlt)
      rw [hvx] at k1
      have hbl1 : b < w.heap.size := World.block_lt_of_cell? w _ (hc ei heil).2.2
      have hbl2 : b2 < w.heap.size := World.block_lt_of_cell? w _ (hc2 k hlt)
      have kw := (hb.cell (p := ⟨b, o + ei * 3 + 2, none⟩) hbl1).trans (hc ei heil).2.2
      have ei1 : (ei : Int) < l.length := by omega
      have hwl : (wts l os).length = os.length := by unfold wts; rw [List.length_map]
      have hgw : (wts l os)[k]'(by omega) = (l.getD ei edge0).W := by
        unfold wts
        rw [List.getElem_map, hei]; rfl
      have hxk := HWT.out _ (List.getElem_mem (by omega : k < (wts l os).length))
      have hs : ((wts l os).take (k + 1)).sum = ((wts l os).take k).sum + (wts l os)[k]'(by omega) := by rw [List.take_succ_eq_append_getElem (by omega), List.sum_append]; simp
      rw [hgw] at hxk hs
      generalize (l.getD ei edge0).W = x at *
      obtain ⟨d0, d1, d2, d3, d4, d5, rfl⟩ := hI.out.1.six
      obtain ⟨c0, c1, c2, c3, c4, c5, c6⟩ := h1.cells
      have fz := fun i => frozen_of_block h1.bh i
      have z1 := block_lt h1.bh
      have z2 : b < wr.heap.size := by omega
      have HS := Lib.hid hs; have HXK := Lib.hid hxk; have H0 := Lib.hid h0; have H1 := Lib.hid h1; have HB := Lib.hid hb
      clear hxr hei hc hc2 hvx hwl hgw hs hxk h0 h1 hb hbl1 hbl2
      go_wp2_with fail
      go_region_with (first
        | (go_at_call 68; refine (from_any x _ HXK.out.1 HXK.out.2).mono ?_; rintro e w1 ⟨⟨fs, rfl, hd, hm, hm2⟩, hb⟩; obtain ⟨hcc, hff⟩ := bcell hb; have g1 := fun o => hcc (w.heap.size + 1) o z1; have g2 := fun o => hff (w.heap.size + 1) o z1; clear hcc hff; have HD := Lib.hid hd; have HMM := Lib.hid hm; have HM2 := Lib.hid hm2; have HB1 := Lib.hid hb; clear hd hm hm2 hb)
        | (go_at_call 67; refine (plus_any _ _ _ fs _ hI.out.1 HD.out (by have := hI.out.2.2; have := HM2.out; have := pw6; omega)).mono ?_; rintro e w2 ⟨⟨r, gs, rfl, hd, hm, hm2⟩, hb⟩; obtain ⟨hcc, hff⟩ := bcell hb; have g3 := fun o => hcc (w.heap.size + 1) o (Nat.lt_of_lt_of_le z1 HB1.out.size); have g4 := fun o => hff (w.heap.size + 1) o (Nat.lt_of_lt_of_le z1 HB1.out.size); clear hcc hff; obtain ⟨e0, e1, e2, e3, e4, e5, rfl⟩ := hd.six; rw [wideV_six]; have HD3 := Lib.hid hd; have HMM3 := Lib.hid hm; have HM3 := Lib.hid hm2; have HB3 := Lib.hid hb; clear hd hm hm2 hb))
      all_goals
        go_wp2_with fail
        go_roundw
        case rel =>
          have hz := HB.out.size
          have hB1 : Below w.heap.size w w1 := HB.out.drew.trans (HB1.out.mono hz)
          have hB2 : Below w.heap.size w w2 := hB1.trans (HB3.out.mono hB1.size)
          have q : ∀ {V : World} (i : Nat) (u : Value), Below w.heap.size w V → Below w.heap.size w (V.setCell ⟨w.heap.size + 1, i, none⟩ u) := fun i u h => h.setCell (by show w.heap.size ≤ w.heap.size + 1; omega) u
          have q0 : ∀ {V : World} (i : Nat) (u : Value), WB w.heap.size false (List.replicate 6 0) V → WB w.heap.size false (List.replicate 6 0) (V.setCell ⟨w.heap.size + 1, i, none⟩ u) := fun i u h => ⟨(Below.heap_setCell _ _ _ _ (by show w.heap.size ≠ w.heap.size + 1; omega)).trans h.bh⟩
          have t0 : WB w.heap.size false (List.replicate 6 0) w2 := ((H0.out.on (Below.refl _ _).drew).on HB1.out).on HB3.out
          have t1 := ((H1.out.on (Below.refl _ _).drew).on HB1.out).on HB3.out
          refine ⟨k + 1, by omega, by go_num, r, _, Lib.hid ⟨HD3.out, ?_, ?_⟩, q0 _ _ (q0 _ _ (q0 _ _ (q0 _ _ (q0 _ _ (q0 _ _ (q0 _ _ t0)))))), t1.store r e0 e1 e2 e3 e4 e5, q _ _ (q _ _ (q _ _ (q _ _ (q _ _ (q _ _ (q _ _ hB2))))))⟩
          · rw [HMM3.out, HS.out, hI.out.2.1, wval_dec HMM.out]
          · have := HM3.out; have := hI.out.2.2; have := HM2.out
            push_cast; omega
        case measure => simp [intOf]; omega
    · have hkk : k = os.length := by omega
      subst hkk
      obtain ⟨hd, hv, hm⟩ := hI.out
      obtain ⟨d0, d1, d2, d3, d4, d5, rfl⟩ := hd.six
      obtain ⟨c0, c1, c2, c3, c4, c5, c6⟩ := h1.cells
      obtain ⟨r0, r1, r2, r3, r4, r5, r6⟩ := WB.cells (a := 0) (b := 0) (c := 0) (d := 0) (e := 0) (f := 0) h0
      have fz := fun i => frozen_of_block h0.bh i
      have hwl : (wts l os).length = os.length := by unfold wts; rw [List.length_map]
      rw [List.take_of_length_le (by omega)] at hv
      have HD := Lib.hid hd; have HV := Lib.hid hv; have HM := Lib.hid hm; have HB := Lib.hid hb
      clear hI hd hv hm h0 h1 hb hwl
      go_wp2_with fail
      refine bodyPost_ret (v := wideV s [d0, d1, d2, d3, d4, d5]) (by simp [results, Try.results45, go_sem, wideV, u64s, r0, r1, r2, r3, r4, r5, r6]) rfl ⟨⟨_, _, rfl, HD.out, HV.out, HM.out⟩, ?_⟩
      have q : ∀ {V : World} (i : Nat) (u : Value), Below w.heap.size w V → Below w.heap.size w (V.setCell ⟨w.heap.size, i, none⟩ u) := fun i u h => h.setCell (by show w.heap.size ≤ w.heap.size; omega) u
      exact q _ _ (q _ _ (q _ _ (q _ _ (q _ _ (q _ _ (q _ _ HB.out))))))
end Go.Proofs.Ytobaodkcjjgkdaa
