/- The contracts of config.set where no field fits. -/
import Derived.Test.YtlnfpkknhmiegaaDoorA6
namespace Go.Proofs.YtlnfpkknhmiegaaDoor
open Go Go.RowKit
attribute [local go_sem] rx0 rx1 rx2 rx3

set_option maxRecDepth 100000 in
set_option maxHeartbeats 1000000 in
theorem set_nosign (s nm v : List UInt8) (st : PS) (bl bs B : Nat) (w : World) (hG : G w) (hs : s.length ≤ 4294967280) (hBw : B ≤ w.heap.size) (hA : Arr bl bs st w)
    (hc : Lib.cut s [61] = (nm, v, false)) :
    Calls Tryd.prog 36 #[.pointer (some ⟨bl, 0, none⟩), .pointer (some ⟨bs, 0, none⟩), .string ⟨s.toArray⟩] w fun e w' => e = .panicked formErr ∧ Below B w w' := by
  have h1 := cut_any s w hG hs
  rw [hc] at h1
  have H1 := Lib.hid h1; clear h1 hc
  have HA := Lib.hid hA; have HG := Lib.hid hG; have HW := Lib.hid hBw
  clear hA hG hs hBw
  go_enter Tryd.func36, Tryd.ntmps36
  go_wp2_with (go_at_call 49; refine (H1.out).mono ?_; rintro e w1 ⟨rfl, hb1⟩; refine Hid.out ?_)
  obtain ⟨n0, l0, m0, n1, l1, m1, n2, l2, m2, n3, l3, m3⟩ := (HG.out.on hb1).tab
  have HB1 := Lib.hid (hb1.mono HW.out)
  have hw1 : B ≤ w1.heap.size := Nat.le_trans HW.out hb1.size
  clear hb1
  refine Lib.hid ?_
  go_wp2
  refine wp_loop_rounds 5 ?_
  clear n0 l0 m0 n1 l1 m1 n2 l2 m2 n3 l3 m3
  rw [rounds_succ]; go_wp2
  rw [rounds_succ]; go_wp2
  rw [rounds_succ]; go_wp2
  rw [rounds_succ]; go_wp2
  rw [rounds_succ]; go_wp2
  refine ⟨rfl, rfl, ?_⟩
  repeat (refine Below.alloc ?_ (by first | omega | (simp; omega)) _)
  exact HB1.out

set_option maxRecDepth 100000 in
set_option maxHeartbeats 1000000 in
theorem set_twice0 (s _nm v : List UInt8) (st : PS) (bl bs B : Nat) (w : World) (hG : G w) (hs : s.length ≤ 4294967280) (hBw : B ≤ w.heap.size) (hA : Arr bl bs st w)
    (hc : Lib.cut s [61] = (sWindow.data.toList, v, true)) (hseen : st.p = true) :
    Calls Tryd.prog 36 #[.pointer (some ⟨bl, 0, none⟩), .pointer (some ⟨bs, 0, none⟩), .string ⟨s.toArray⟩] w fun e w' => e = .panicked formErr ∧ Below B w w' := by
  have HS := Lib.hid hseen; clear hseen
  have h1 := cut_any s w hG hs
  rw [hc] at h1
  have H1 := Lib.hid h1; clear h1 hc
  have HA := Lib.hid hA; have HG := Lib.hid hG; have HW := Lib.hid hBw
  clear hA hG hs hBw
  go_enter Tryd.func36, Tryd.ntmps36
  go_wp2_with (go_at_call 49; refine (H1.out).mono ?_; rintro e w1 ⟨rfl, hb1⟩; refine Hid.out ?_)
  obtain ⟨n0, l0, m0, n1, l1, m1, n2, l2, m2, n3, l3, m3⟩ := (HG.out.on hb1).tab
  have hA1 := HA.out.on hb1
  obtain ⟨z0, z1⟩ := hA1.lt
  have z2 : bs < w1.heap.size + 1 := by omega
  have z3 : bs < w1.heap.size + 1 + 1 := by omega
  have z4 : bs < w1.heap.size + 1 + 1 + 1 := by omega
  have hk := (seen_at hA1).1
  rw [HS.out] at hk
  clear hA1
  have HB1 := Lib.hid (hb1.mono HW.out)
  have hw1 : B ≤ w1.heap.size := Nat.le_trans HW.out hb1.size
  clear hb1
  refine Lib.hid ?_
  go_wp2
  refine wp_loop_rounds 5 ?_
  clear n0 l0 m0 n1 l1 m1 n2 l2 m2 n3 l3 m3
  rw [rounds_succ]; go_wp2
  rw [rounds_succ]; go_wp2
  rw [rounds_succ]; go_wp2
  rw [rounds_succ]; go_wp2
  rw [rounds_succ]; go_wp2
  refine ⟨rfl, rfl, ?_⟩
  repeat (refine Below.alloc ?_ (by first | omega | (simp; omega)) _)
  exact HB1.out

set_option maxRecDepth 100000 in
set_option maxHeartbeats 1000000 in
theorem set_twice1 (s _nm v : List UInt8) (st : PS) (bl bs B : Nat) (w : World) (hG : G w) (hs : s.length ≤ 4294967280) (hBw : B ≤ w.heap.size) (hA : Arr bl bs st w)
    (hc : Lib.cut s [61] = (sEdges.data.toList, v, true)) (hseen : st.q = true) :
    Calls Tryd.prog 36 #[.pointer (some ⟨bl, 0, none⟩), .pointer (some ⟨bs, 0, none⟩), .string ⟨s.toArray⟩] w fun e w' => e = .panicked formErr ∧ Below B w w' := by
  have HS := Lib.hid hseen; clear hseen
  have h1 := cut_any s w hG hs
  rw [hc] at h1
  have H1 := Lib.hid h1; clear h1 hc
  have HA := Lib.hid hA; have HG := Lib.hid hG; have HW := Lib.hid hBw
  clear hA hG hs hBw
  go_enter Tryd.func36, Tryd.ntmps36
  go_wp2_with (go_at_call 49; refine (H1.out).mono ?_; rintro e w1 ⟨rfl, hb1⟩; refine Hid.out ?_)
  obtain ⟨n0, l0, m0, n1, l1, m1, n2, l2, m2, n3, l3, m3⟩ := (HG.out.on hb1).tab
  have hA1 := HA.out.on hb1
  obtain ⟨z0, z1⟩ := hA1.lt
  have z2 : bs < w1.heap.size + 1 := by omega
  have z3 : bs < w1.heap.size + 1 + 1 := by omega
  have z4 : bs < w1.heap.size + 1 + 1 + 1 := by omega
  have hk := (seen_at hA1).2.1
  rw [HS.out] at hk
  clear hA1
  have HB1 := Lib.hid (hb1.mono HW.out)
  have hw1 : B ≤ w1.heap.size := Nat.le_trans HW.out hb1.size
  clear hb1
  refine Lib.hid ?_
  go_wp2
  refine wp_loop_rounds 5 ?_
  clear n0 l0 m0 n1 l1 m1 n2 l2 m2 n3 l3 m3
  rw [rounds_succ]; go_wp2
  rw [rounds_succ]; go_wp2
  rw [rounds_succ]; go_wp2
  rw [rounds_succ]; go_wp2
  rw [rounds_succ]; go_wp2
  refine ⟨rfl, rfl, ?_⟩
  repeat (refine Below.alloc ?_ (by first | omega | (simp; omega)) _)
  exact HB1.out

set_option maxRecDepth 100000 in
set_option maxHeartbeats 1000000 in
theorem set_twice2 (s _nm v : List UInt8) (st : PS) (bl bs B : Nat) (w : World) (hG : G w) (hs : s.length ≤ 4294967280) (hBw : B ≤ w.heap.size) (hA : Arr bl bs st w)
    (hc : Lib.cut s [61] = (sVerts.data.toList, v, true)) (hseen : st.r = true) :
    Calls Tryd.prog 36 #[.pointer (some ⟨bl, 0, none⟩), .pointer (some ⟨bs, 0, none⟩), .string ⟨s.toArray⟩] w fun e w' => e = .panicked formErr ∧ Below B w w' := by
  have HS := Lib.hid hseen; clear hseen
  have h1 := cut_any s w hG hs
  rw [hc] at h1
  have H1 := Lib.hid h1; clear h1 hc
  have HA := Lib.hid hA; have HG := Lib.hid hG; have HW := Lib.hid hBw
  clear hA hG hs hBw
  go_enter Tryd.func36, Tryd.ntmps36
  go_wp2_with (go_at_call 49; refine (H1.out).mono ?_; rintro e w1 ⟨rfl, hb1⟩; refine Hid.out ?_)
  obtain ⟨n0, l0, m0, n1, l1, m1, n2, l2, m2, n3, l3, m3⟩ := (HG.out.on hb1).tab
  have hA1 := HA.out.on hb1
  obtain ⟨z0, z1⟩ := hA1.lt
  have z2 : bs < w1.heap.size + 1 := by omega
  have z3 : bs < w1.heap.size + 1 + 1 := by omega
  have z4 : bs < w1.heap.size + 1 + 1 + 1 := by omega
  have hk := (seen_at hA1).2.2.1
  rw [HS.out] at hk
  clear hA1
  have HB1 := Lib.hid (hb1.mono HW.out)
  have hw1 : B ≤ w1.heap.size := Nat.le_trans HW.out hb1.size
  clear hb1
  refine Lib.hid ?_
  go_wp2
  refine wp_loop_rounds 5 ?_
  clear n0 l0 m0 n1 l1 m1 n2 l2 m2 n3 l3 m3
  rw [rounds_succ]; go_wp2
  rw [rounds_succ]; go_wp2
  rw [rounds_succ]; go_wp2
  rw [rounds_succ]; go_wp2
  rw [rounds_succ]; go_wp2
  refine ⟨rfl, rfl, ?_⟩
  repeat (refine Below.alloc ?_ (by first | omega | (simp; omega)) _)
  exact HB1.out

set_option maxRecDepth 100000 in
set_option maxHeartbeats 1000000 in
theorem set_twice3 (s _nm v : List UInt8) (st : PS) (bl bs B : Nat) (w : World) (hG : G w) (hs : s.length ≤ 4294967280) (hBw : B ≤ w.heap.size) (hA : Arr bl bs st w)
    (hc : Lib.cut s [61] = (sDraws.data.toList, v, true)) (hseen : st.t = true) :
    Calls Tryd.prog 36 #[.pointer (some ⟨bl, 0, none⟩), .pointer (some ⟨bs, 0, none⟩), .string ⟨s.toArray⟩] w fun e w' => e = .panicked formErr ∧ Below B w w' := by
  have HS := Lib.hid hseen; clear hseen
  have h1 := cut_any s w hG hs
  rw [hc] at h1
  have H1 := Lib.hid h1; clear h1 hc
  have HA := Lib.hid hA; have HG := Lib.hid hG; have HW := Lib.hid hBw
  clear hA hG hs hBw
  go_enter Tryd.func36, Tryd.ntmps36
  go_wp2_with (go_at_call 49; refine (H1.out).mono ?_; rintro e w1 ⟨rfl, hb1⟩; refine Hid.out ?_)
  obtain ⟨n0, l0, m0, n1, l1, m1, n2, l2, m2, n3, l3, m3⟩ := (HG.out.on hb1).tab
  have hA1 := HA.out.on hb1
  obtain ⟨z0, z1⟩ := hA1.lt
  have z2 : bs < w1.heap.size + 1 := by omega
  have z3 : bs < w1.heap.size + 1 + 1 := by omega
  have z4 : bs < w1.heap.size + 1 + 1 + 1 := by omega
  have hk := (seen_at hA1).2.2.2
  rw [HS.out] at hk
  clear hA1
  have HB1 := Lib.hid (hb1.mono HW.out)
  have hw1 : B ≤ w1.heap.size := Nat.le_trans HW.out hb1.size
  clear hb1
  refine Lib.hid ?_
  go_wp2
  refine wp_loop_rounds 5 ?_
  clear n0 l0 m0 n1 l1 m1 n2 l2 m2 n3 l3 m3
  rw [rounds_succ]; go_wp2
  rw [rounds_succ]; go_wp2
  rw [rounds_succ]; go_wp2
  rw [rounds_succ]; go_wp2
  rw [rounds_succ]; go_wp2
  refine ⟨rfl, rfl, ?_⟩
  repeat (refine Below.alloc ?_ (by first | omega | (simp; omega)) _)
  exact HB1.out

set_option maxRecDepth 100000 in
set_option maxHeartbeats 1000000 in
theorem set_other (s nm v : List UInt8) (st : PS) (bl bs B : Nat) (w : World) (hG : G w) (hs : s.length ≤ 4294967280) (hBw : B ≤ w.heap.size) (hA : Arr bl bs st w)
    (hc : Lib.cut s [61] = (nm, v, true)) (h0 : ¬ ([119, 105, 110, 100, 111, 119] : List UInt8) = nm) (h1' : ¬ ([101, 100, 103, 101, 115] : List UInt8) = nm) (h2 : ¬ ([118, 101, 114, 116, 115] : List UInt8) = nm) (h3 : ¬ ([100, 114, 97, 119, 115] : List UInt8) = nm) :
    Calls Tryd.prog 36 #[.pointer (some ⟨bl, 0, none⟩), .pointer (some ⟨bs, 0, none⟩), .string ⟨s.toArray⟩] w fun e w' => e = .panicked formErr ∧ Below B w w' := by
  have h1 := cut_any s w hG hs
  rw [hc] at h1
  have H1 := Lib.hid h1; clear h1 hc
  have HA := Lib.hid hA; have HG := Lib.hid hG; have HW := Lib.hid hBw
  clear hA hG hs hBw
  go_enter Tryd.func36, Tryd.ntmps36
  go_wp2_with (go_at_call 49; refine (H1.out).mono ?_; rintro e w1 ⟨rfl, hb1⟩; refine Hid.out ?_)
  obtain ⟨n0, l0, m0, n1, l1, m1, n2, l2, m2, n3, l3, m3⟩ := (HG.out.on hb1).tab
  have HB1 := Lib.hid (hb1.mono HW.out)
  have hw1 : B ≤ w1.heap.size := Nat.le_trans HW.out hb1.size
  clear hb1
  refine Lib.hid ?_
  go_wp2
  refine wp_loop_rounds 5 ?_
  clear n0 l0 m0 n1 l1 m1 n2 l2 m2 n3 l3 m3
  rw [rounds_succ]; go_wp2
  rw [rounds_succ]; go_wp2
  rw [rounds_succ]; go_wp2
  rw [rounds_succ]; go_wp2
  rw [rounds_succ]; go_wp2
  refine ⟨rfl, rfl, ?_⟩
  repeat (refine Below.alloc ?_ (by first | omega | (simp; omega)) _)
  exact HB1.out

end Go.Proofs.YtlnfpkknhmiegaaDoor
