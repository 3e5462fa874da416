/- The contracts of config.set where it panics. -/
import Derived.Test.YtlnfpkknhmiegaaDoorA5
namespace Go.Proofs.YtlnfpkknhmiegaaDoor
open Go Go.RowKit
attribute [local go_sem] rx0 rx1 rx2 rx3

set_option maxRecDepth 100000 in
set_option maxHeartbeats 1000000 in
theorem set_num0 (s v : List UInt8) (st : PS) (bl bs B : Nat) (w : World) (hG : G w) (hs : s.length ≤ 4294967280) (hB : 9 ≤ B) (hBw : B ≤ w.heap.size) (hbl : B ≤ bl) (hbs : B ≤ bs) (hA : Arr bl bs st w)
    (hc : Lib.cut s [61] = (sWindow.data.toList, v, true)) (hseen : st.p = false) (hv : numOf v = none) (hvl : v.length ≤ 4294967280) :
    Calls Tryd.prog 36 #[.pointer (some ⟨bl, 0, none⟩), .pointer (some ⟨bs, 0, none⟩), .string ⟨s.toArray⟩] w fun e w' => e = .panicked formErr ∧ Below B w w' := by
  have h1 := cut_any s w hG hs
  rw [hc] at h1
  have H1 := Lib.hid h1; clear h1 hc
  have HV := Lib.hid (fun w1 (hG1 : G w1) => number_none v w1 hG1 hvl hv); clear hv hvl
  have HS := Lib.hid hseen; clear hseen
  have HA := Lib.hid hA; have HG := Lib.hid hG; have HW := Lib.hid hBw; have HB := Lib.hid hbl; have HBS := Lib.hid hbs; have H9 := Lib.hid hB
  clear hA hG hB hs hBw hbl hbs
  go_enter Tryd.func36, Tryd.ntmps36
  go_wp2_with (go_at_call 49; refine (H1.out).mono ?_; rintro e w1 ⟨rfl, hb1⟩; refine Hid.out ?_)
  obtain ⟨n0, l0, m0, n1, l1, m1, n2, l2, m2, n3, l3, m3⟩ := (HG.out.on hb1).tab
  have hA1 := HA.out.on hb1
  obtain ⟨z0, z1⟩ := hA1.lt
  have z2 : bs < w1.heap.size + 1 := by omega
  have z3 : bs < w1.heap.size + 1 + 1 := by omega
  have z4 : bs < w1.heap.size + 1 + 1 + 1 := by omega
  have hk := (seen_at hA1).1
  rw [HS.out] at hk
  have hf := frozen_of_block hA1.sh 0
  have HB1 := Lib.hid hb1
  have hw1 := hb1.size
  have hX : ∀ W, Below B w W → G W := fun W h => HG.out.below H9.out h
  have HX := Lib.hid hX
  clear hA1 hb1 hX
  refine Lib.hid ?_
  go_wp2
  refine wp_loop_rounds 5 ?_
  clear n0 l0 m0 n1 l1 m1 n2 l2 m2 n3 l3 m3
  rw [rounds_succ]; go_wp2
  have hy : Below B w (((w1.setCell ⟨bs, 0, none⟩ (.bool true)).alloc (.cells #[.string sWindow, .int .i64 1, .int .i64 9223372036854775807] 76)).drew) := by
    refine Below.drew ?_
    refine Below.alloc ?_ ?_ _
    · exact (HB1.out.mono HW.out).setCell HBS.out _
    all_goals (have := HW.out; simp [World.setCell]; omega)
  have HY := Lib.hid hy; clear hy hw1
  refine wp_region_any (by kernel_rfl) ?_
  change wpAny _ _ _ _ _ _ _ (World.drew _)
  refine wpAny_take (i := 0) (v := ?v0) rfl (by kernel_rfl) (by kernel_rfl) (by kernel_rfl) (fun _ _ _ h => h) (Or.inl ⟨by rfl, ?h0⟩) ?_
  case h0 => intro w; go_simp; first | done | with_reducible rfl
  refine wpAny_take (i := 1) (v := ?v1) rfl (by kernel_rfl) (by kernel_rfl) (by kernel_rfl) (fun _ _ _ h => h) (Or.inl ⟨by rfl, ?h1⟩) ?_
  case h1 => intro w; go_simp; first | done | with_reducible rfl
  refine wpAny_take (i := 2) (v := ?v2) rfl (by kernel_rfl) (by kernel_rfl) (by kernel_rfl) (fun _ _ _ h => h) (Or.inl ⟨by rfl, ?h2⟩) ?_
  case h2 => intro w; go_simp; first | done | with_reducible rfl
  refine wpAny_take (i := 4) (v := ?v4) rfl (by kernel_rfl) (by kernel_rfl) (by kernel_rfl) (fun _ _ _ h => h) (Or.inl ⟨by rfl, ?h4⟩) ?_
  case h4 => intro w; go_simp; first | done | with_reducible rfl
  refine wpAny_ready (rs := [3]) (by kernel_rfl) (by simp) ?_
  refine AllReady.cons rfl (fun K hK => ?_) AllReady.nil
  go_simp
  refine (HV.out _ (HX.out _ HY.out)).mono ?_
  rintro e w2 ⟨rfl, hb2⟩
  exact ⟨rfl, rfl, HY.out.trans (hb2.mono (Nat.le_trans HW.out HY.out.size))⟩

set_option maxRecDepth 100000 in
set_option maxHeartbeats 1000000 in
theorem set_num1 (s v : List UInt8) (st : PS) (bl bs B : Nat) (w : World) (hG : G w) (hs : s.length ≤ 4294967280) (hB : 9 ≤ B) (hBw : B ≤ w.heap.size) (hbl : B ≤ bl) (hbs : B ≤ bs) (hA : Arr bl bs st w)
    (hc : Lib.cut s [61] = (sEdges.data.toList, v, true)) (hseen : st.q = false) (hv : numOf v = none) (hvl : v.length ≤ 4294967280) :
    Calls Tryd.prog 36 #[.pointer (some ⟨bl, 0, none⟩), .pointer (some ⟨bs, 0, none⟩), .string ⟨s.toArray⟩] w fun e w' => e = .panicked formErr ∧ Below B w w' := by
  have h1 := cut_any s w hG hs
  rw [hc] at h1
  have H1 := Lib.hid h1; clear h1 hc
  have HV := Lib.hid (fun w1 (hG1 : G w1) => number_none v w1 hG1 hvl hv); clear hv hvl
  have HS := Lib.hid hseen; clear hseen
  have HA := Lib.hid hA; have HG := Lib.hid hG; have HW := Lib.hid hBw; have HB := Lib.hid hbl; have HBS := Lib.hid hbs; have H9 := Lib.hid hB
  clear hA hG hB hs hBw hbl hbs
  go_enter Tryd.func36, Tryd.ntmps36
  go_wp2_with (go_at_call 49; refine (H1.out).mono ?_; rintro e w1 ⟨rfl, hb1⟩; refine Hid.out ?_)
  obtain ⟨n0, l0, m0, n1, l1, m1, n2, l2, m2, n3, l3, m3⟩ := (HG.out.on hb1).tab
  have hA1 := HA.out.on hb1
  obtain ⟨z0, z1⟩ := hA1.lt
  have z2 : bs < w1.heap.size + 1 := by omega
  have z3 : bs < w1.heap.size + 1 + 1 := by omega
  have z4 : bs < w1.heap.size + 1 + 1 + 1 := by omega
  have hk := (seen_at hA1).2.1
  rw [HS.out] at hk
  have hf := frozen_of_block hA1.sh 1
  have HB1 := Lib.hid hb1
  have hw1 := hb1.size
  have hX : ∀ W, Below B w W → G W := fun W h => HG.out.below H9.out h
  have HX := Lib.hid hX
  clear hA1 hb1 hX
  refine Lib.hid ?_
  go_wp2
  refine wp_loop_rounds 5 ?_
  clear n0 l0 m0 n1 l1 m1 n2 l2 m2 n3 l3 m3
  rw [rounds_succ]; go_wp2
  rw [rounds_succ]; go_wp2
  have hy : Below B w ((((w1.setCell ⟨bs, 1, none⟩ (.bool true)).alloc (.cells #[.string sWindow, .int .i64 1, .int .i64 9223372036854775807] 76)).alloc (.cells #[.string sEdges, .int .i64 1, .int .i64 16384] 76)).drew) := by
    refine Below.drew ?_
    refine Below.alloc ?_ ?_ _
    refine Below.alloc ?_ ?_ _
    · exact (HB1.out.mono HW.out).setCell HBS.out _
    all_goals (have := HW.out; simp [World.setCell]; omega)
  have HY := Lib.hid hy; clear hy hw1
  refine wp_region_any (by kernel_rfl) ?_
  change wpAny _ _ _ _ _ _ _ (World.drew _)
  refine wpAny_take (i := 0) (v := ?v0) rfl (by kernel_rfl) (by kernel_rfl) (by kernel_rfl) (fun _ _ _ h => h) (Or.inl ⟨by rfl, ?h0⟩) ?_
  case h0 => intro w; go_simp; first | done | with_reducible rfl
  refine wpAny_take (i := 1) (v := ?v1) rfl (by kernel_rfl) (by kernel_rfl) (by kernel_rfl) (fun _ _ _ h => h) (Or.inl ⟨by rfl, ?h1⟩) ?_
  case h1 => intro w; go_simp; first | done | with_reducible rfl
  refine wpAny_take (i := 2) (v := ?v2) rfl (by kernel_rfl) (by kernel_rfl) (by kernel_rfl) (fun _ _ _ h => h) (Or.inl ⟨by rfl, ?h2⟩) ?_
  case h2 => intro w; go_simp; first | done | with_reducible rfl
  refine wpAny_take (i := 4) (v := ?v4) rfl (by kernel_rfl) (by kernel_rfl) (by kernel_rfl) (fun _ _ _ h => h) (Or.inl ⟨by rfl, ?h4⟩) ?_
  case h4 => intro w; go_simp; first | done | with_reducible rfl
  refine wpAny_ready (rs := [3]) (by kernel_rfl) (by simp) ?_
  refine AllReady.cons rfl (fun K hK => ?_) AllReady.nil
  go_simp
  refine (HV.out _ (HX.out _ HY.out)).mono ?_
  rintro e w2 ⟨rfl, hb2⟩
  exact ⟨rfl, rfl, HY.out.trans (hb2.mono (Nat.le_trans HW.out HY.out.size))⟩

set_option maxRecDepth 100000 in
set_option maxHeartbeats 1000000 in
theorem set_num2 (s v : List UInt8) (st : PS) (bl bs B : Nat) (w : World) (hG : G w) (hs : s.length ≤ 4294967280) (hB : 9 ≤ B) (hBw : B ≤ w.heap.size) (hbl : B ≤ bl) (hbs : B ≤ bs) (hA : Arr bl bs st w)
    (hc : Lib.cut s [61] = (sVerts.data.toList, v, true)) (hseen : st.r = false) (hv : numOf v = none) (hvl : v.length ≤ 4294967280) :
    Calls Tryd.prog 36 #[.pointer (some ⟨bl, 0, none⟩), .pointer (some ⟨bs, 0, none⟩), .string ⟨s.toArray⟩] w fun e w' => e = .panicked formErr ∧ Below B w w' := by
  have h1 := cut_any s w hG hs
  rw [hc] at h1
  have H1 := Lib.hid h1; clear h1 hc
  have HV := Lib.hid (fun w1 (hG1 : G w1) => number_none v w1 hG1 hvl hv); clear hv hvl
  have HS := Lib.hid hseen; clear hseen
  have HA := Lib.hid hA; have HG := Lib.hid hG; have HW := Lib.hid hBw; have HB := Lib.hid hbl; have HBS := Lib.hid hbs; have H9 := Lib.hid hB
  clear hA hG hB hs hBw hbl hbs
  go_enter Tryd.func36, Tryd.ntmps36
  go_wp2_with (go_at_call 49; refine (H1.out).mono ?_; rintro e w1 ⟨rfl, hb1⟩; refine Hid.out ?_)
  obtain ⟨n0, l0, m0, n1, l1, m1, n2, l2, m2, n3, l3, m3⟩ := (HG.out.on hb1).tab
  have hA1 := HA.out.on hb1
  obtain ⟨z0, z1⟩ := hA1.lt
  have z2 : bs < w1.heap.size + 1 := by omega
  have z3 : bs < w1.heap.size + 1 + 1 := by omega
  have z4 : bs < w1.heap.size + 1 + 1 + 1 := by omega
  have hk := (seen_at hA1).2.2.1
  rw [HS.out] at hk
  have hf := frozen_of_block hA1.sh 2
  have HB1 := Lib.hid hb1
  have hw1 := hb1.size
  have hX : ∀ W, Below B w W → G W := fun W h => HG.out.below H9.out h
  have HX := Lib.hid hX
  clear hA1 hb1 hX
  refine Lib.hid ?_
  go_wp2
  refine wp_loop_rounds 5 ?_
  clear n0 l0 m0 n1 l1 m1 n2 l2 m2 n3 l3 m3
  rw [rounds_succ]; go_wp2
  rw [rounds_succ]; go_wp2
  rw [rounds_succ]; go_wp2
  have hy : Below B w (((((w1.setCell ⟨bs, 2, none⟩ (.bool true)).alloc (.cells #[.string sWindow, .int .i64 1, .int .i64 9223372036854775807] 76)).alloc (.cells #[.string sEdges, .int .i64 1, .int .i64 16384] 76)).alloc (.cells #[.string sVerts, .int .i64 2, .int .i64 4096] 76)).drew) := by
    refine Below.drew ?_
    refine Below.alloc ?_ ?_ _
    refine Below.alloc ?_ ?_ _
    refine Below.alloc ?_ ?_ _
    · exact (HB1.out.mono HW.out).setCell HBS.out _
    all_goals (have := HW.out; simp [World.setCell]; omega)
  have HY := Lib.hid hy; clear hy hw1
  refine wp_region_any (by kernel_rfl) ?_
  change wpAny _ _ _ _ _ _ _ (World.drew _)
  refine wpAny_take (i := 0) (v := ?v0) rfl (by kernel_rfl) (by kernel_rfl) (by kernel_rfl) (fun _ _ _ h => h) (Or.inl ⟨by rfl, ?h0⟩) ?_
  case h0 => intro w; go_simp; first | done | with_reducible rfl
  refine wpAny_take (i := 1) (v := ?v1) rfl (by kernel_rfl) (by kernel_rfl) (by kernel_rfl) (fun _ _ _ h => h) (Or.inl ⟨by rfl, ?h1⟩) ?_
  case h1 => intro w; go_simp; first | done | with_reducible rfl
  refine wpAny_take (i := 2) (v := ?v2) rfl (by kernel_rfl) (by kernel_rfl) (by kernel_rfl) (fun _ _ _ h => h) (Or.inl ⟨by rfl, ?h2⟩) ?_
  case h2 => intro w; go_simp; first | done | with_reducible rfl
  refine wpAny_take (i := 4) (v := ?v4) rfl (by kernel_rfl) (by kernel_rfl) (by kernel_rfl) (fun _ _ _ h => h) (Or.inl ⟨by rfl, ?h4⟩) ?_
  case h4 => intro w; go_simp; first | done | with_reducible rfl
  refine wpAny_ready (rs := [3]) (by kernel_rfl) (by simp) ?_
  refine AllReady.cons rfl (fun K hK => ?_) AllReady.nil
  go_simp
  refine (HV.out _ (HX.out _ HY.out)).mono ?_
  rintro e w2 ⟨rfl, hb2⟩
  exact ⟨rfl, rfl, HY.out.trans (hb2.mono (Nat.le_trans HW.out HY.out.size))⟩

set_option maxRecDepth 100000 in
set_option maxHeartbeats 1000000 in
theorem set_num3 (s v : List UInt8) (st : PS) (bl bs B : Nat) (w : World) (hG : G w) (hs : s.length ≤ 4294967280) (hB : 9 ≤ B) (hBw : B ≤ w.heap.size) (hbl : B ≤ bl) (hbs : B ≤ bs) (hA : Arr bl bs st w)
    (hc : Lib.cut s [61] = (sDraws.data.toList, v, true)) (hseen : st.t = false) (hv : numOf v = none) (hvl : v.length ≤ 4294967280) :
    Calls Tryd.prog 36 #[.pointer (some ⟨bl, 0, none⟩), .pointer (some ⟨bs, 0, none⟩), .string ⟨s.toArray⟩] w fun e w' => e = .panicked formErr ∧ Below B w w' := by
  have h1 := cut_any s w hG hs
  rw [hc] at h1
  have H1 := Lib.hid h1; clear h1 hc
  have HV := Lib.hid (fun w1 (hG1 : G w1) => number_none v w1 hG1 hvl hv); clear hv hvl
  have HS := Lib.hid hseen; clear hseen
  have HA := Lib.hid hA; have HG := Lib.hid hG; have HW := Lib.hid hBw; have HB := Lib.hid hbl; have HBS := Lib.hid hbs; have H9 := Lib.hid hB
  clear hA hG hB hs hBw hbl hbs
  go_enter Tryd.func36, Tryd.ntmps36
  go_wp2_with (go_at_call 49; refine (H1.out).mono ?_; rintro e w1 ⟨rfl, hb1⟩; refine Hid.out ?_)
  obtain ⟨n0, l0, m0, n1, l1, m1, n2, l2, m2, n3, l3, m3⟩ := (HG.out.on hb1).tab
  have hA1 := HA.out.on hb1
  obtain ⟨z0, z1⟩ := hA1.lt
  have z2 : bs < w1.heap.size + 1 := by omega
  have z3 : bs < w1.heap.size + 1 + 1 := by omega
  have z4 : bs < w1.heap.size + 1 + 1 + 1 := by omega
  have hk := (seen_at hA1).2.2.2
  rw [HS.out] at hk
  have hf := frozen_of_block hA1.sh 3
  have HB1 := Lib.hid hb1
  have hw1 := hb1.size
  have hX : ∀ W, Below B w W → G W := fun W h => HG.out.below H9.out h
  have HX := Lib.hid hX
  clear hA1 hb1 hX
  refine Lib.hid ?_
  go_wp2
  refine wp_loop_rounds 5 ?_
  clear n0 l0 m0 n1 l1 m1 n2 l2 m2 n3 l3 m3
  rw [rounds_succ]; go_wp2
  rw [rounds_succ]; go_wp2
  rw [rounds_succ]; go_wp2
  rw [rounds_succ]; go_wp2
  have hy : Below B w ((((((w1.setCell ⟨bs, 3, none⟩ (.bool true)).alloc (.cells #[.string sWindow, .int .i64 1, .int .i64 9223372036854775807] 76)).alloc (.cells #[.string sEdges, .int .i64 1, .int .i64 16384] 76)).alloc (.cells #[.string sVerts, .int .i64 2, .int .i64 4096] 76)).alloc (.cells #[.string sDraws, .int .i64 0, .int .i64 16384] 76)).drew) := by
    refine Below.drew ?_
    refine Below.alloc ?_ ?_ _
    refine Below.alloc ?_ ?_ _
    refine Below.alloc ?_ ?_ _
    refine Below.alloc ?_ ?_ _
    · exact (HB1.out.mono HW.out).setCell HBS.out _
    all_goals (have := HW.out; simp [World.setCell]; omega)
  have HY := Lib.hid hy; clear hy hw1
  refine wp_region_any (by kernel_rfl) ?_
  change wpAny _ _ _ _ _ _ _ (World.drew _)
  refine wpAny_take (i := 0) (v := ?v0) rfl (by kernel_rfl) (by kernel_rfl) (by kernel_rfl) (fun _ _ _ h => h) (Or.inl ⟨by rfl, ?h0⟩) ?_
  case h0 => intro w; go_simp; first | done | with_reducible rfl
  refine wpAny_take (i := 1) (v := ?v1) rfl (by kernel_rfl) (by kernel_rfl) (by kernel_rfl) (fun _ _ _ h => h) (Or.inl ⟨by rfl, ?h1⟩) ?_
  case h1 => intro w; go_simp; first | done | with_reducible rfl
  refine wpAny_take (i := 2) (v := ?v2) rfl (by kernel_rfl) (by kernel_rfl) (by kernel_rfl) (fun _ _ _ h => h) (Or.inl ⟨by rfl, ?h2⟩) ?_
  case h2 => intro w; go_simp; first | done | with_reducible rfl
  refine wpAny_take (i := 4) (v := ?v4) rfl (by kernel_rfl) (by kernel_rfl) (by kernel_rfl) (fun _ _ _ h => h) (Or.inl ⟨by rfl, ?h4⟩) ?_
  case h4 => intro w; go_simp; first | done | with_reducible rfl
  refine wpAny_ready (rs := [3]) (by kernel_rfl) (by simp) ?_
  refine AllReady.cons rfl (fun K hK => ?_) AllReady.nil
  go_simp
  refine (HV.out _ (HX.out _ HY.out)).mono ?_
  rintro e w2 ⟨rfl, hb2⟩
  exact ⟨rfl, rfl, HY.out.trans (hb2.mono (Nat.le_trans HW.out HY.out.size))⟩

end Go.Proofs.YtlnfpkknhmiegaaDoor
