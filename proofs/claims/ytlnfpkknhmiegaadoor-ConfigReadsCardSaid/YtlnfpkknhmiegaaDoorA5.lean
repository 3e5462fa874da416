/- The contracts of config.set. -/
import Derived.Test.YtlnfpkknhmiegaaDoorA4
import Derived.Deep.RegionHeld3
namespace Go.Proofs.YtlnfpkknhmiegaaDoor
open Go Go.RowKit

abbrev rowsV : Value := .agg #[.string sWindow, .int .i64 1, .int .i64 9223372036854775807, .string sEdges, .int .i64 1, .int .i64 16384, .string sVerts, .int .i64 2, .int .i64 4096, .string sDraws, .int .i64 0, .int .i64 16384]
theorem rx0 (w : World) : (Instr.index 77 rowsV (.int .i64 0)).run Tryd.prog w = .ok (.agg #[.string sWindow, .int .i64 1, .int .i64 9223372036854775807]) w := by kernel_rfl
theorem rx1 (w : World) : (Instr.index 77 rowsV (.int .i64 1)).run Tryd.prog w = .ok (.agg #[.string sEdges, .int .i64 1, .int .i64 16384]) w := by kernel_rfl
theorem rx2 (w : World) : (Instr.index 77 rowsV (.int .i64 2)).run Tryd.prog w = .ok (.agg #[.string sVerts, .int .i64 2, .int .i64 4096]) w := by kernel_rfl
theorem rx3 (w : World) : (Instr.index 77 rowsV (.int .i64 3)).run Tryd.prog w = .ok (.agg #[.string sDraws, .int .i64 0, .int .i64 16384]) w := by kernel_rfl
attribute [local go_sem] rx0 rx1 rx2 rx3

/-- strings.Cut at the sign '='. -/
theorem cut_any (s : List UInt8) (w : World) (hG : G w) (hs : s.length ≤ 4294967280) :
    Calls Tryd.prog 49 #[.string ⟨s.toArray⟩, .string ⟨#[61]⟩] w fun e w' => e = .returned (.tuple #[.string ⟨(Lib.cut s [61]).1.toArray⟩, .string ⟨(Lib.cut s [61]).2.1.toArray⟩, .bool (Lib.cut s [61]).2.2]) ∧ Below w.heap.size w w' := by
  obtain ⟨m, hm⟩ := hG.mxl
  exact (Tryd.strings_Cut ⟨s.toArray⟩ ⟨#[61]⟩ m w (by simp [ByteArray.size]; omega) hm).mono fun e w' ⟨he, n, hw⟩ => ⟨he, by subst hw; exact ⟨rfl, rfl, rfl, Nat.le_refl _, fun _ _ => rfl⟩⟩

/-- What Parse has read so far: the four numbers, and which of them a setting has given. -/
structure PS where
  a : Int
  b : Int
  c : Int
  d : Int
  p : Bool
  q : Bool
  r : Bool
  t : Bool

/-- The two arrays of Parse, in blocks bl and bs. -/
structure Arr (bl bs : Nat) (st : PS) (w : World) : Prop where
  lh : w.heap[bl]? = some (.cells #[.int .i64 st.a, .int .i64 st.b, .int .i64 st.c, .int .i64 st.d] 55 (0, 0))
  sh : w.heap[bs]? = some (.cells #[.bool st.p, .bool st.q, .bool st.r, .bool st.t] 57 (0, 0))
  ne : bl ≠ bs
theorem Arr.lt {bl bs : Nat} {st : PS} {w : World} (h : Arr bl bs st w) : bl < w.heap.size ∧ bs < w.heap.size := ⟨(Array.getElem?_eq_some_iff.1 h.lh).1, (Array.getElem?_eq_some_iff.1 h.sh).1⟩
theorem Arr.on {bl bs : Nat} {st : PS} {w w' : World} (h : Arr bl bs st w) (hb : Below w.heap.size w w') : Arr bl bs st w' := ⟨(hb.block _ h.lt.1).trans h.lh, (hb.block _ h.lt.2).trans h.sh, h.ne⟩
theorem Arr.alloc {bl bs : Nat} {st : PS} {w : World} (h : Arr bl bs st w) (o : Obj) : Arr bl bs st (w.alloc o) := h.on ((Below.refl _ _).alloc (Nat.le_refl _) _)
theorem Arr.drew {bl bs : Nat} {st : PS} {w : World} (h : Arr bl bs st w) : Arr bl bs st w.drew := h.on (Below.refl _ _).drew
theorem set_same {w : World} {n i : Nat} {cs : Array Value} {t : TypeId} {v : Value} (h : w.heap[n]? = some (.cells cs t (0, 0))) : (w.setCell ⟨n, i, none⟩ v).heap[n]? = some (.cells (cs.setIfInBounds i v) t (0, 0)) := by
  simp [World.setCell, Array.getElem?_modify, h]
theorem Arr.seen0 {bl bs : Nat} {st : PS} {w : World} (h : Arr bl bs st w) : Arr bl bs { st with p := true } (w.setCell ⟨bs, 0, none⟩ (.bool true)) := ⟨(Below.heap_setCell _ _ _ _ h.ne).trans h.lh, set_same h.sh, h.ne⟩
theorem Arr.val0 {bl bs : Nat} {st : PS} {w : World} (h : Arr bl bs st w) (n : Int) : Arr bl bs { st with a := n } (w.setCell ⟨bl, 0, none⟩ (.int .i64 n)) := ⟨set_same h.lh, (Below.heap_setCell _ _ _ _ h.ne.symm).trans h.sh, h.ne⟩
theorem Arr.seen1 {bl bs : Nat} {st : PS} {w : World} (h : Arr bl bs st w) : Arr bl bs { st with q := true } (w.setCell ⟨bs, 1, none⟩ (.bool true)) := ⟨(Below.heap_setCell _ _ _ _ h.ne).trans h.lh, set_same h.sh, h.ne⟩
theorem Arr.val1 {bl bs : Nat} {st : PS} {w : World} (h : Arr bl bs st w) (n : Int) : Arr bl bs { st with b := n } (w.setCell ⟨bl, 1, none⟩ (.int .i64 n)) := ⟨set_same h.lh, (Below.heap_setCell _ _ _ _ h.ne.symm).trans h.sh, h.ne⟩
theorem Arr.seen2 {bl bs : Nat} {st : PS} {w : World} (h : Arr bl bs st w) : Arr bl bs { st with r := true } (w.setCell ⟨bs, 2, none⟩ (.bool true)) := ⟨(Below.heap_setCell _ _ _ _ h.ne).trans h.lh, set_same h.sh, h.ne⟩
theorem Arr.val2 {bl bs : Nat} {st : PS} {w : World} (h : Arr bl bs st w) (n : Int) : Arr bl bs { st with c := n } (w.setCell ⟨bl, 2, none⟩ (.int .i64 n)) := ⟨set_same h.lh, (Below.heap_setCell _ _ _ _ h.ne.symm).trans h.sh, h.ne⟩
theorem Arr.seen3 {bl bs : Nat} {st : PS} {w : World} (h : Arr bl bs st w) : Arr bl bs { st with t := true } (w.setCell ⟨bs, 3, none⟩ (.bool true)) := ⟨(Below.heap_setCell _ _ _ _ h.ne).trans h.lh, set_same h.sh, h.ne⟩
theorem Arr.val3 {bl bs : Nat} {st : PS} {w : World} (h : Arr bl bs st w) (n : Int) : Arr bl bs { st with d := n } (w.setCell ⟨bl, 3, none⟩ (.int .i64 n)) := ⟨set_same h.lh, (Below.heap_setCell _ _ _ _ h.ne.symm).trans h.sh, h.ne⟩

theorem seen_at {bl bs : Nat} {st : PS} {w : World} (h : Arr bl bs st w) : w.cell? ⟨bs, 0, none⟩ = some (.bool st.p) ∧ w.cell? ⟨bs, 1, none⟩ = some (.bool st.q) ∧ w.cell? ⟨bs, 2, none⟩ = some (.bool st.r) ∧ w.cell? ⟨bs, 3, none⟩ = some (.bool st.t) :=
  ⟨cells_of_block h.sh 0, cells_of_block h.sh 1, cells_of_block h.sh 2, cells_of_block h.sh 3⟩
theorem vals_at {bl bs : Nat} {st : PS} {w : World} (h : Arr bl bs st w) : w.cell? ⟨bl, 0, none⟩ = some (.int .i64 st.a) ∧ w.cell? ⟨bl, 1, none⟩ = some (.int .i64 st.b) ∧ w.cell? ⟨bl, 2, none⟩ = some (.int .i64 st.c) ∧ w.cell? ⟨bl, 3, none⟩ = some (.int .i64 st.d) :=
  ⟨cells_of_block h.lh 0, cells_of_block h.lh 1, cells_of_block h.lh 2, cells_of_block h.lh 3⟩

set_option maxRecDepth 100000 in
set_option maxHeartbeats 1000000 in
theorem set_some0 (s v : List UInt8) (st : PS) (n : Int) (bl bs B : Nat) (w : World) (hG : G w) (hs : s.length ≤ 4294967280) (_ : 9 ≤ B) (hBw : B ≤ w.heap.size) (hbl : B ≤ bl) (hbs : B ≤ bs) (hA : Arr bl bs st w)
    (hc : Lib.cut s [61] = (sWindow.data.toList, v, true)) (hseen : st.p = false) (hv : numOf v = some n) (hvl : v.length ≤ 4294967280) :
    Calls Tryd.prog 36 #[.pointer (some ⟨bl, 0, none⟩), .pointer (some ⟨bs, 0, none⟩), .string ⟨s.toArray⟩] w fun e w' => e = .returned (.tuple #[]) ∧ Below B w w' ∧ Arr bl bs { st with p := true, a := n } w' ∧ (∀ k, k < w.heap.size → k ≠ bl → k ≠ bs → w'.heap[k]? = w.heap[k]?) := by
  have h1 := cut_any s w hG hs
  rw [hc] at h1
  have H1 := Lib.hid h1; clear h1 hc
  have HV := Lib.hid (fun w1 => number_some v n w1 hvl hv); clear hv hvl
  have HS := Lib.hid hseen
  have HA := Lib.hid hA; have HG := Lib.hid hG; have HW := Lib.hid hBw; have HB := Lib.hid hbl; have HBS := Lib.hid hbs
  clear hA hG hs hseen hBw hbl hbs
  go_enter Tryd.func36, Tryd.ntmps36
  go_wp2_with (go_at_call 49; refine (H1.out).mono ?_; rintro e w1 ⟨rfl, hb1⟩; refine Hid.out ?_)
  obtain ⟨n0, l0, m0, n1, l1, m1, n2, l2, m2, n3, l3, m3⟩ := (HG.out.on hb1).tab
  have hA1 := HA.out.on hb1
  obtain ⟨z0, z1⟩ := hA1.lt
  have z2 : bs < w1.heap.size + 1 := by omega
  have z3 : bs < w1.heap.size + 1 + 1 := by omega
  have z4 : bs < w1.heap.size + 1 + 1 + 1 := by omega
  have hk := (seen_at hA1).1
  rw [HS.out] at hk
  have hf := frozen_of_block hA1.sh 0
  have HA1 := Lib.hid hA1; clear hA1
  have HB1 := Lib.hid hb1; clear hb1
  refine Lib.hid ?_
  go_wp2
  refine wp_loop_rounds 5 ?_
  clear n0 l0 m0 n1 l1 m1 n2 l2 m2 n3 l3 m3
  rw [rounds_succ]; go_wp2
  go_region_held3 (fun _ => True) (trivial) (first | (go_at_call 50; refine (HV.out _).mono ?_; rintro e w2 ⟨rfl, hb2⟩; have HB2 := Lib.hid hb2; clear hb2 hk hf; have hA2 := (Arr.on (((HA1.out.seen0).alloc _).drew) HB2.out); have hk := (vals_at hA2).1; have hf := frozen_of_block hA2.lh 0; have z2 := hA2.lt.1; have HA2 := Lib.hid hA2; clear hA2 HA1))
  go_wp2
  refine bodyPost_ret (results_none rfl _ _ _) rfl ?_
  refine ⟨rfl, ?_, by simpa using HA2.out.val0 n, ?_⟩
  rotate_left
  · intro k hk e1 e2
    have hz := HB1.out.size
    refine (Below.heap_setCell _ _ _ _ e1).trans ((HB2.out.block k (by simp [World.setCell]; omega)).trans ?_)
    show (World.alloc _ _).heap[k]? = _
    refine (Below.heap_alloc _ _ _ (by simp [World.setCell]; omega)).trans ?_
    exact (Below.heap_setCell _ _ _ _ e2).trans (HB1.out.block k hk)
  refine Below.setCell ?_ HB.out _
  refine Below.trans ?_ (HB2.out.mono ?_)
  · refine Below.drew ?_
    refine Below.alloc ?_ ?_ _
    · exact (HB1.out.mono HW.out).setCell HBS.out _
    all_goals (have := HB1.out.size; have := HW.out; simp [World.setCell]; omega)
  · have := HB1.out.size; have := HW.out; simp [World.setCell]; omega

set_option maxRecDepth 100000 in
set_option maxHeartbeats 1000000 in
theorem set_some1 (s v : List UInt8) (st : PS) (n : Int) (bl bs B : Nat) (w : World) (hG : G w) (hs : s.length ≤ 4294967280) (_ : 9 ≤ B) (hBw : B ≤ w.heap.size) (hbl : B ≤ bl) (hbs : B ≤ bs) (hA : Arr bl bs st w)
    (hc : Lib.cut s [61] = (sEdges.data.toList, v, true)) (hseen : st.q = false) (hv : numOf v = some n) (hvl : v.length ≤ 4294967280) :
    Calls Tryd.prog 36 #[.pointer (some ⟨bl, 0, none⟩), .pointer (some ⟨bs, 0, none⟩), .string ⟨s.toArray⟩] w fun e w' => e = .returned (.tuple #[]) ∧ Below B w w' ∧ Arr bl bs { st with q := true, b := n } w' ∧ (∀ k, k < w.heap.size → k ≠ bl → k ≠ bs → w'.heap[k]? = w.heap[k]?) := by
  have h1 := cut_any s w hG hs
  rw [hc] at h1
  have H1 := Lib.hid h1; clear h1 hc
  have HV := Lib.hid (fun w1 => number_some v n w1 hvl hv); clear hv hvl
  have HS := Lib.hid hseen
  have HA := Lib.hid hA; have HG := Lib.hid hG; have HW := Lib.hid hBw; have HB := Lib.hid hbl; have HBS := Lib.hid hbs
  clear hA hG hs hseen hBw hbl hbs
  go_enter Tryd.func36, Tryd.ntmps36
  go_wp2_with (go_at_call 49; refine (H1.out).mono ?_; rintro e w1 ⟨rfl, hb1⟩; refine Hid.out ?_)
  obtain ⟨n0, l0, m0, n1, l1, m1, n2, l2, m2, n3, l3, m3⟩ := (HG.out.on hb1).tab
  have hA1 := HA.out.on hb1
  obtain ⟨z0, z1⟩ := hA1.lt
  have z2 : bs < w1.heap.size + 1 := by omega
  have z3 : bs < w1.heap.size + 1 + 1 := by omega
  have z4 : bs < w1.heap.size + 1 + 1 + 1 := by omega
  have hk := (seen_at hA1).2.1
  rw [HS.out] at hk
  have hf := frozen_of_block hA1.sh 1
  have HA1 := Lib.hid hA1; clear hA1
  have HB1 := Lib.hid hb1; clear hb1
  refine Lib.hid ?_
  go_wp2
  refine wp_loop_rounds 5 ?_
  clear n0 l0 m0 n1 l1 m1 n2 l2 m2 n3 l3 m3
  rw [rounds_succ]; go_wp2
  rw [rounds_succ]; go_wp2
  go_region_held3 (fun _ => True) (trivial) (first | (go_at_call 50; refine (HV.out _).mono ?_; rintro e w2 ⟨rfl, hb2⟩; have HB2 := Lib.hid hb2; clear hb2 hk hf; have hA2 := (Arr.on ((((HA1.out.seen1).alloc _).alloc _).drew) HB2.out); have hk := (vals_at hA2).2.1; have hf := frozen_of_block hA2.lh 1; have z2 := hA2.lt.1; have HA2 := Lib.hid hA2; clear hA2 HA1))
  go_wp2
  refine bodyPost_ret (results_none rfl _ _ _) rfl ?_
  refine ⟨rfl, ?_, by simpa using HA2.out.val1 n, ?_⟩
  rotate_left
  · intro k hk e1 e2
    have hz := HB1.out.size
    refine (Below.heap_setCell _ _ _ _ e1).trans ((HB2.out.block k (by simp [World.setCell]; omega)).trans ?_)
    show (World.alloc _ _).heap[k]? = _
    refine (Below.heap_alloc _ _ _ (by simp [World.setCell]; omega)).trans ?_
    refine (Below.heap_alloc _ _ _ (by simp [World.setCell]; omega)).trans ?_
    exact (Below.heap_setCell _ _ _ _ e2).trans (HB1.out.block k hk)
  refine Below.setCell ?_ HB.out _
  refine Below.trans ?_ (HB2.out.mono ?_)
  · refine Below.drew ?_
    refine Below.alloc ?_ ?_ _
    refine Below.alloc ?_ ?_ _
    · exact (HB1.out.mono HW.out).setCell HBS.out _
    all_goals (have := HB1.out.size; have := HW.out; simp [World.setCell]; omega)
  · have := HB1.out.size; have := HW.out; simp [World.setCell]; omega

set_option maxRecDepth 100000 in
set_option maxHeartbeats 1000000 in
theorem set_some2 (s v : List UInt8) (st : PS) (n : Int) (bl bs B : Nat) (w : World) (hG : G w) (hs : s.length ≤ 4294967280) (_ : 9 ≤ B) (hBw : B ≤ w.heap.size) (hbl : B ≤ bl) (hbs : B ≤ bs) (hA : Arr bl bs st w)
    (hc : Lib.cut s [61] = (sVerts.data.toList, v, true)) (hseen : st.r = false) (hv : numOf v = some n) (hvl : v.length ≤ 4294967280) :
    Calls Tryd.prog 36 #[.pointer (some ⟨bl, 0, none⟩), .pointer (some ⟨bs, 0, none⟩), .string ⟨s.toArray⟩] w fun e w' => e = .returned (.tuple #[]) ∧ Below B w w' ∧ Arr bl bs { st with r := true, c := n } w' ∧ (∀ k, k < w.heap.size → k ≠ bl → k ≠ bs → w'.heap[k]? = w.heap[k]?) := by
  have h1 := cut_any s w hG hs
  rw [hc] at h1
  have H1 := Lib.hid h1; clear h1 hc
  have HV := Lib.hid (fun w1 => number_some v n w1 hvl hv); clear hv hvl
  have HS := Lib.hid hseen
  have HA := Lib.hid hA; have HG := Lib.hid hG; have HW := Lib.hid hBw; have HB := Lib.hid hbl; have HBS := Lib.hid hbs
  clear hA hG hs hseen hBw hbl hbs
  go_enter Tryd.func36, Tryd.ntmps36
  go_wp2_with (go_at_call 49; refine (H1.out).mono ?_; rintro e w1 ⟨rfl, hb1⟩; refine Hid.out ?_)
  obtain ⟨n0, l0, m0, n1, l1, m1, n2, l2, m2, n3, l3, m3⟩ := (HG.out.on hb1).tab
  have hA1 := HA.out.on hb1
  obtain ⟨z0, z1⟩ := hA1.lt
  have z2 : bs < w1.heap.size + 1 := by omega
  have z3 : bs < w1.heap.size + 1 + 1 := by omega
  have z4 : bs < w1.heap.size + 1 + 1 + 1 := by omega
  have hk := (seen_at hA1).2.2.1
  rw [HS.out] at hk
  have hf := frozen_of_block hA1.sh 2
  have HA1 := Lib.hid hA1; clear hA1
  have HB1 := Lib.hid hb1; clear hb1
  refine Lib.hid ?_
  go_wp2
  refine wp_loop_rounds 5 ?_
  clear n0 l0 m0 n1 l1 m1 n2 l2 m2 n3 l3 m3
  rw [rounds_succ]; go_wp2
  rw [rounds_succ]; go_wp2
  rw [rounds_succ]; go_wp2
  go_region_held3 (fun _ => True) (trivial) (first | (go_at_call 50; refine (HV.out _).mono ?_; rintro e w2 ⟨rfl, hb2⟩; have HB2 := Lib.hid hb2; clear hb2 hk hf; have hA2 := (Arr.on (((((HA1.out.seen2).alloc _).alloc _).alloc _).drew) HB2.out); have hk := (vals_at hA2).2.2.1; have hf := frozen_of_block hA2.lh 2; have z2 := hA2.lt.1; have HA2 := Lib.hid hA2; clear hA2 HA1))
  go_wp2
  refine bodyPost_ret (results_none rfl _ _ _) rfl ?_
  refine ⟨rfl, ?_, by simpa using HA2.out.val2 n, ?_⟩
  rotate_left
  · intro k hk e1 e2
    have hz := HB1.out.size
    refine (Below.heap_setCell _ _ _ _ e1).trans ((HB2.out.block k (by simp [World.setCell]; omega)).trans ?_)
    show (World.alloc _ _).heap[k]? = _
    refine (Below.heap_alloc _ _ _ (by simp [World.setCell]; omega)).trans ?_
    refine (Below.heap_alloc _ _ _ (by simp [World.setCell]; omega)).trans ?_
    refine (Below.heap_alloc _ _ _ (by simp [World.setCell]; omega)).trans ?_
    exact (Below.heap_setCell _ _ _ _ e2).trans (HB1.out.block k hk)
  refine Below.setCell ?_ HB.out _
  refine Below.trans ?_ (HB2.out.mono ?_)
  · refine Below.drew ?_
    refine Below.alloc ?_ ?_ _
    refine Below.alloc ?_ ?_ _
    refine Below.alloc ?_ ?_ _
    · exact (HB1.out.mono HW.out).setCell HBS.out _
    all_goals (have := HB1.out.size; have := HW.out; simp [World.setCell]; omega)
  · have := HB1.out.size; have := HW.out; simp [World.setCell]; omega

set_option maxRecDepth 100000 in
set_option maxHeartbeats 1000000 in
theorem set_some3 (s v : List UInt8) (st : PS) (n : Int) (bl bs B : Nat) (w : World) (hG : G w) (hs : s.length ≤ 4294967280) (_ : 9 ≤ B) (hBw : B ≤ w.heap.size) (hbl : B ≤ bl) (hbs : B ≤ bs) (hA : Arr bl bs st w)
    (hc : Lib.cut s [61] = (sDraws.data.toList, v, true)) (hseen : st.t = false) (hv : numOf v = some n) (hvl : v.length ≤ 4294967280) :
    Calls Tryd.prog 36 #[.pointer (some ⟨bl, 0, none⟩), .pointer (some ⟨bs, 0, none⟩), .string ⟨s.toArray⟩] w fun e w' => e = .returned (.tuple #[]) ∧ Below B w w' ∧ Arr bl bs { st with t := true, d := n } w' ∧ (∀ k, k < w.heap.size → k ≠ bl → k ≠ bs → w'.heap[k]? = w.heap[k]?) := by
  have h1 := cut_any s w hG hs
  rw [hc] at h1
  have H1 := Lib.hid h1; clear h1 hc
  have HV := Lib.hid (fun w1 => number_some v n w1 hvl hv); clear hv hvl
  have HS := Lib.hid hseen
  have HA := Lib.hid hA; have HG := Lib.hid hG; have HW := Lib.hid hBw; have HB := Lib.hid hbl; have HBS := Lib.hid hbs
  clear hA hG hs hseen hBw hbl hbs
  go_enter Tryd.func36, Tryd.ntmps36
  go_wp2_with (go_at_call 49; refine (H1.out).mono ?_; rintro e w1 ⟨rfl, hb1⟩; refine Hid.out ?_)
  obtain ⟨n0, l0, m0, n1, l1, m1, n2, l2, m2, n3, l3, m3⟩ := (HG.out.on hb1).tab
  have hA1 := HA.out.on hb1
  obtain ⟨z0, z1⟩ := hA1.lt
  have z2 : bs < w1.heap.size + 1 := by omega
  have z3 : bs < w1.heap.size + 1 + 1 := by omega
  have z4 : bs < w1.heap.size + 1 + 1 + 1 := by omega
  have hk := (seen_at hA1).2.2.2
  rw [HS.out] at hk
  have hf := frozen_of_block hA1.sh 3
  have HA1 := Lib.hid hA1; clear hA1
  have HB1 := Lib.hid hb1; clear hb1
  refine Lib.hid ?_
  go_wp2
  refine wp_loop_rounds 5 ?_
  clear n0 l0 m0 n1 l1 m1 n2 l2 m2 n3 l3 m3
  rw [rounds_succ]; go_wp2
  rw [rounds_succ]; go_wp2
  rw [rounds_succ]; go_wp2
  rw [rounds_succ]; go_wp2
  go_region_held3 (fun _ => True) (trivial) (first | (go_at_call 50; refine (HV.out _).mono ?_; rintro e w2 ⟨rfl, hb2⟩; have HB2 := Lib.hid hb2; clear hb2 hk hf; have hA2 := (Arr.on ((((((HA1.out.seen3).alloc _).alloc _).alloc _).alloc _).drew) HB2.out); have hk := (vals_at hA2).2.2.2; have hf := frozen_of_block hA2.lh 3; have z2 := hA2.lt.1; have HA2 := Lib.hid hA2; clear hA2 HA1))
  go_wp2
  refine bodyPost_ret (results_none rfl _ _ _) rfl ?_
  refine ⟨rfl, ?_, by simpa using HA2.out.val3 n, ?_⟩
  rotate_left
  · intro k hk e1 e2
    have hz := HB1.out.size
    refine (Below.heap_setCell _ _ _ _ e1).trans ((HB2.out.block k (by simp [World.setCell]; omega)).trans ?_)
    show (World.alloc _ _).heap[k]? = _
    refine (Below.heap_alloc _ _ _ (by simp [World.setCell]; omega)).trans ?_
    refine (Below.heap_alloc _ _ _ (by simp [World.setCell]; omega)).trans ?_
    refine (Below.heap_alloc _ _ _ (by simp [World.setCell]; omega)).trans ?_
    refine (Below.heap_alloc _ _ _ (by simp [World.setCell]; omega)).trans ?_
    exact (Below.heap_setCell _ _ _ _ e2).trans (HB1.out.block k hk)
  refine Below.setCell ?_ HB.out _
  refine Below.trans ?_ (HB2.out.mono ?_)
  · refine Below.drew ?_
    refine Below.alloc ?_ ?_ _
    refine Below.alloc ?_ ?_ _
    refine Below.alloc ?_ ?_ _
    refine Below.alloc ?_ ?_ _
    · exact (HB1.out.mono HW.out).setCell HBS.out _
    all_goals (have := HB1.out.size; have := HW.out; simp [World.setCell]; omega)
  · have := HB1.out.size; have := HW.out; simp [World.setCell]; omega

end Go.Proofs.YtlnfpkknhmiegaaDoor
