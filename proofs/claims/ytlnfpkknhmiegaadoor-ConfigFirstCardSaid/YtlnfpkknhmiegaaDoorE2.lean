/- The walk of ConfigFirst. -/
import Derived.Test.YtlnfpkknhmiegaaDoorE1
import Derived.Deep.DeepCutAuto
namespace Go.Proofs.YtlnfpkknhmiegaaDoor
open Go Go.RowKit

set_option maxRecDepth 100000 in
set_option maxHeartbeats 4000000 in
theorem first_any (a b c d bits n : Int) (w : World) (hG : G w) (ha : 0 ≤ a ∧ a ≤ 18446744073709551615) (hb : 0 ≤ b ∧ b ≤ 65535) (hc : 0 ≤ c ∧ c ≤ 65535) (hd : 0 ≤ d ∧ d ≤ 65535) (hn : -9223372036854775808 ≤ n ∧ n ≤ 9223372036854775807) :
    Calls Tryd.prog 7 #[.int .u64 a, .int .u16 b, .int .u16 c, .int .u16 d, .int .u8 bits, .int .i64 n] w fun e w' => e = .returned (.bool true) ∧ Below w.heap.size w w' := by
  have HG : Hid (At w w) := Lib.hid ⟨hG, Below.refl _ _⟩
  clear hG
  go_enter Tryd.func7, Tryd.ntmps7
  go_wp2_with (go_at_call 15; refine (drawn_any _ _ _ _ _ ha hb hc hd).mono ?_; rintro e w1 ⟨rfl, hb⟩; refine Hid.out ?_)
  have H1 := Lib.hid (HG.out.on hb)
  have hv := dr_valid a b c d
  generalize dr0 a = x at *
  generalize dr1 b = y at *
  generalize dr2 c = z at *
  generalize dr3 d = t at *
  have HV := Lib.hid hv
  clear hb hv HG
  refine Lib.hid ?_
  go_upto_if 29 with fail
  go_cut [14] (fun s wx => ∃ (D : Int) (v : World), At w v ∧ v.heap.size = w1.heap.size ∧ wx = (v.alloc (.cells #[.int .i64 x, .int .i64 y, .int .i64 z, .int .i64 D] 24)).alloc (.cells #[.string sWindow, .string sEdges, .string sVerts, .string sDraws] 44) ∧ s = .string (fieldOf x y z D))
  case first =>
    go_wp2
    · go_region
      all_goals go_wp2
      all_goals go_meet
      all_goals refine ⟨_, w1.drew, H1.out.drew, rfl, rfl, ?_⟩
      all_goals (have hv := HV.out; unfold Valid at hv; unfold fieldOf; repeat' split)
      all_goals first | rfl | (exfalso; omega)
    all_goals go_meet
    all_goals exact ⟨t, w1, H1.out, rfl, rfl, by rw [fieldOf_valid HV.out]⟩
  case rest =>
  obtain ⟨D, v2, hv, hs, rfl, rfl⟩ := hcut
  rw [← hs]
  have H2 := Lib.hid hv
  clear hv hs H1
  go_upto_if 37 with fail
  go_cut [14] (fun s wx => ∃ (C D : Int) (v : World), At w v ∧ v.heap.size = v2.heap.size ∧ wx = (v.alloc (.cells #[.int .i64 x, .int .i64 y, .int .i64 C, .int .i64 D] 24)).alloc (.cells #[.string sWindow, .string sEdges, .string sVerts, .string sDraws] 44) ∧ s = .string (fieldOf x y C D))
  case first =>
    go_wp2
    · go_region
      all_goals go_wp2
      all_goals go_meet
      all_goals refine ⟨_, D, v2.drew, H2.out.drew, rfl, rfl, ?_⟩
      all_goals (have hv := HV.out; unfold Valid at hv; unfold fieldOf; repeat' split)
      all_goals first | rfl | (exfalso; omega)
    all_goals go_meet
    all_goals exact ⟨z, D, v2, H2.out, rfl, rfl, rfl⟩
  case rest =>
  obtain ⟨C, D, v3, hv, hs, rfl, rfl⟩ := hcut
  rw [← hs]
  have H3 := Lib.hid hv
  clear hv hs H2
  go_upto_if 45 with fail
  go_cut [14] (fun s wx => ∃ (B C D : Int) (v : World), At w v ∧ v.heap.size = v3.heap.size ∧ wx = (v.alloc (.cells #[.int .i64 x, .int .i64 B, .int .i64 C, .int .i64 D] 24)).alloc (.cells #[.string sWindow, .string sEdges, .string sVerts, .string sDraws] 44) ∧ s = .string (fieldOf x B C D))
  case first =>
    go_wp2
    · go_region
      all_goals go_wp2
      all_goals go_meet
      all_goals refine ⟨_, C, D, v3.drew, H3.out.drew, rfl, rfl, ?_⟩
      all_goals (have hv := HV.out; unfold Valid at hv; unfold fieldOf; repeat' split)
      all_goals first | rfl | (exfalso; omega)
    all_goals go_meet
    all_goals exact ⟨y, C, D, v3, H3.out, rfl, rfl, rfl⟩
  case rest =>
  obtain ⟨B, C, D, v4, hv, hs, rfl, rfl⟩ := hcut
  rw [← hs]
  have H4 := Lib.hid hv
  clear hv hs H3
  go_upto_if 53 with fail
  go_cut [14] (fun s wx => ∃ (A B C D : Int) (v : World), At w v ∧ v.heap.size = v4.heap.size ∧ wx = (v.alloc (.cells #[.int .i64 A, .int .i64 B, .int .i64 C, .int .i64 D] 24)).alloc (.cells #[.string sWindow, .string sEdges, .string sVerts, .string sDraws] 44) ∧ s = .string (fieldOf A B C D))
  case first =>
    go_wp2
    · go_region
      all_goals go_wp2
      all_goals go_meet
      all_goals refine ⟨_, B, C, D, v4.drew, H4.out.drew, rfl, rfl, ?_⟩
      all_goals (have hv := HV.out; unfold Valid at hv; unfold fieldOf; repeat' split)
      all_goals first | rfl | (exfalso; omega)
    all_goals go_meet
    all_goals exact ⟨x, B, C, D, v4, H4.out, rfl, rfl, rfl⟩
  case rest =>
  obtain ⟨A, B, C, D, v, hv, hs, rfl, rfl⟩ := hcut
  rw [← hs]
  have H5 := Lib.hid hv
  clear hv hs H4
  have H6 := Lib.hid ((H5.out.alloc (.cells #[.int .i64 A, .int .i64 B, .int .i64 C, .int .i64 D] 24)).alloc (.cells #[.string sWindow, .string sEdges, .string sVerts, .string sDraws] 44))
  have B6 := Lib.hid ((Box.new v A B C D).alloc (.cells #[.string sWindow, .string sEdges, .string sVerts, .string sDraws] 44))
  generalize (v.alloc (.cells #[.int .i64 A, .int .i64 B, .int .i64 C, .int .i64 D] 24)).alloc (.cells #[.string sWindow, .string sEdges, .string sVerts, .string sDraws] 44) = W at *
  generalize v.heap.size = m at *
  clear H5 HV ha hb hc hd hn
  obtain ⟨c0, c1, c2, c3⟩ := B6.out.cells
  by_cases hv : Valid A B C D
  · have hf := fieldOf_valid hv
    rw [hf]
    have HV := Lib.hid hv
    clear hv
    go_wp2_with (go_at_call 16; refine (text_ok _ _ _ _ _ H6.out.g HV.out).mono ?_; rintro e w7 ⟨rfl, hb7⟩; refine Hid.out ?_)
    have H7 := Lib.hid (H6.out.on hb7)
    have B7 := Lib.hid (B6.out.on hb7)
    clear c0 c1 c2 c3
    obtain ⟨c0, c1, c2, c3⟩ := B7.out.cells
    clear hb7 H6 B6
    refine Lib.hid ?_
    go_wp2_with (go_at_call 24; refine (put_ok _ _ _ _ _ H7.out.g HV.out).mono ?_; rintro e w8 ⟨g, rfl, _, hb8, _⟩; refine Hid.out ?_)
    have H8 := Lib.hid (H7.out.on hb8)
    have B8 := Lib.hid (B7.out.on hb8)
    clear c0 c1 c2 c3
    obtain ⟨c0, c1, c2, c3⟩ := B8.out.cells
    clear hb8 H7 B7
    refine Lib.hid ?_
    go_wp2_with (first
      | (go_at_call 23; refine (field_any _ _ _ _ _ H8.out.g.tab).mono ?_; rintro e w9 ⟨rfl, hb9⟩; refine Hid.out ?_)
      | (go_at_call 18; refine (check_ok _ _ _ _ _ H8.out.g.tab HV.out).mono ?_; rintro e w9 ⟨rfl, hb9⟩; refine Hid.out ?_))
    have H9 := Lib.hid (H8.out.on hb9)
    have B9 := Lib.hid (B8.out.on hb9)
    clear c0 c1 c2 c3
    obtain ⟨c0, c1, c2, c3⟩ := B9.out.cells
    clear hb9 H8 B8
    refine Lib.hid ?_
    go_wp2_with (first | (go_at_call 18; refine (check_ok _ _ _ _ _ H9.out.g.tab HV.out).mono ?_; rintro e w10 ⟨rfl, hb10⟩; refine Hid.out ?_))
    have H10 := Lib.hid (H9.out.on hb10)
    clear hb10 H9 B9 c0 c1 c2 c3
    refine Lib.hid ?_
    go_wp2_with (first | (go_at_call 12; refine (works_any _ H10.out.g).mono ?_; rintro e w11 ⟨rfl, hb11⟩; have H11 := Lib.hid (H10.out.on hb11); clear hb11))
    go_ret
    exact ⟨rfl, H11.out.fr⟩
  · have HV := Lib.hid hv
    have hne := fieldOf_bad hv
    generalize hf : fieldOf A B C D = s at *
    clear hv
    go_wp2_with (go_at_call 16; refine (text_bad _ _ _ _ _ H6.out.g HV.out).mono ?_; rintro e w7 ⟨rfl, hb7⟩; refine Hid.out ?_)
    have H7 := Lib.hid (H6.out.on hb7)
    have B7 := Lib.hid (B6.out.on hb7)
    clear c0 c1 c2 c3
    obtain ⟨c0, c1, c2, c3⟩ := B7.out.cells
    clear hb7 H6 B6
    refine Lib.hid ?_
    go_wp2_with (go_at_call 24; refine (put_bad _ _ _ _ _ H7.out.g HV.out).mono ?_; rintro e w8 ⟨rfl, hb8⟩; refine Hid.out ?_)
    have H8 := Lib.hid (H7.out.on hb8)
    have B8 := Lib.hid (B7.out.on hb8)
    clear c0 c1 c2 c3
    obtain ⟨c0, c1, c2, c3⟩ := B8.out.cells
    clear hb8 H7 B7
    refine Lib.hid ?_
    go_wp2_with (first
      | (go_at_call 23; refine (field_any _ _ _ _ _ H8.out.g.tab).mono ?_; rintro e w9 ⟨rfl, hb9⟩; refine Hid.out ?_)
      | (go_at_call 18; refine (check_bad _ _ _ _ _ H8.out.g.tab HV.out).mono ?_; rintro e w9 ⟨rfl, hb9⟩; refine Hid.out ?_))
    have H9 := Lib.hid (H8.out.on hb9)
    have B9 := Lib.hid (B8.out.on hb9)
    clear c0 c1 c2 c3
    obtain ⟨c0, c1, c2, c3⟩ := B9.out.cells
    clear hb9 H8 B8
    refine Lib.hid ?_
    go_wp2_with (first | (go_at_call 18; refine (check_bad _ _ _ _ _ H9.out.g.tab HV.out).mono ?_; rintro e w10 ⟨rfl, hb10⟩; refine Hid.out ?_))
    have H10 := Lib.hid (H9.out.on hb10)
    clear hb10 H9 B9 c0 c1 c2 c3
    refine Lib.hid ?_
    go_wp2_with (first | (go_at_call 12; refine (works_any _ H10.out.g).mono ?_; rintro e w11 ⟨rfl, hb11⟩; have H11 := Lib.hid (H10.out.on hb11); clear hb11))
    go_ret
    exact ⟨rfl, H11.out.fr⟩
end Go.Proofs.YtlnfpkknhmiegaaDoor
