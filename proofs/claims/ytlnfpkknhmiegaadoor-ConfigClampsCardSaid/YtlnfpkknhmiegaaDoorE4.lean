/- The walk of ConfigClamps. -/
import Derived.Test.YtlnfpkknhmiegaaDoorE3
import Derived.Deep.DeepCutAuto
import Derived.Deep.RegionHeld3
namespace Go.Proofs.YtlnfpkknhmiegaaDoor
open Go Go.RowKit

theorem two_cells {m n : Nat} {a b c d A B C D : Int} {W w' : World} (h1 : Box m a b c d W) (h2 : Box n A B C D W) (hb : Below W.heap.size W w') :
    Below W.heap.size W w' ∧ w'.cell? ⟨m, 0, none⟩ = some (.int .i64 a) ∧ w'.cell? ⟨m, 1, none⟩ = some (.int .i64 b) ∧ w'.cell? ⟨m, 2, none⟩ = some (.int .i64 c) ∧ w'.cell? ⟨m, 3, none⟩ = some (.int .i64 d) ∧ w'.cell? ⟨n, 0, none⟩ = some (.int .i64 A) ∧ w'.cell? ⟨n, 1, none⟩ = some (.int .i64 B) ∧ w'.cell? ⟨n, 2, none⟩ = some (.int .i64 C) ∧ w'.cell? ⟨n, 3, none⟩ = some (.int .i64 D) :=
  ⟨hb, (h1.on hb).cells.1, (h1.on hb).cells.2.1, (h1.on hb).cells.2.2.1, (h1.on hb).cells.2.2.2, (h2.on hb).cells⟩

theorem field_is (a b c d : Int) (w : World) (hT : Tab w) {nm : ByteArray} (h : fieldOf a b c d = nm) :
    Calls Tryd.prog 23 #[quad a b c d] w fun e w' => e = .returned (.string nm) ∧ Below w.heap.size w w' := h ▸ field_any a b c d w hT
theorem nx0 (w : World) : (Instr.index 44 (.agg #[.string sWindow, .string sEdges, .string sVerts, .string sDraws]) (.int .i64 0)).run Tryd.prog w = .ok (.string sWindow) w := by kernel_rfl
theorem nx1 (w : World) : (Instr.index 44 (.agg #[.string sWindow, .string sEdges, .string sVerts, .string sDraws]) (.int .i64 1)).run Tryd.prog w = .ok (.string sEdges) w := by kernel_rfl
theorem nx2 (w : World) : (Instr.index 44 (.agg #[.string sWindow, .string sEdges, .string sVerts, .string sDraws]) (.int .i64 2)).run Tryd.prog w = .ok (.string sVerts) w := by kernel_rfl
theorem nx3 (w : World) : (Instr.index 44 (.agg #[.string sWindow, .string sEdges, .string sVerts, .string sDraws]) (.int .i64 3)).run Tryd.prog w = .ok (.string sDraws) w := by kernel_rfl
attribute [local go_sem ↓] eq24 ne24
attribute [local go_sem] same4_self nx0 nx1 nx2 nx3
theorem three_cells {x y n : Nat} {a0 a1 a2 a3 b0 b1 b2 b3 A B C D : Int} {V w' : World} (h1 : Box x a0 a1 a2 a3 V) (h2 : Box y b0 b1 b2 b3 V) (h3 : Box n A B C D V) (hb : Below V.heap.size V w') :
    Below V.heap.size V w' ∧ w'.cell? ⟨x, 0, none⟩ = some (.int .i64 a0) ∧ w'.cell? ⟨x, 1, none⟩ = some (.int .i64 a1) ∧ w'.cell? ⟨x, 2, none⟩ = some (.int .i64 a2) ∧ w'.cell? ⟨x, 3, none⟩ = some (.int .i64 a3) ∧ w'.cell? ⟨y, 0, none⟩ = some (.int .i64 b0) ∧ w'.cell? ⟨y, 1, none⟩ = some (.int .i64 b1) ∧ w'.cell? ⟨y, 2, none⟩ = some (.int .i64 b2) ∧ w'.cell? ⟨y, 3, none⟩ = some (.int .i64 b3) ∧ w'.cell? ⟨n, 0, none⟩ = some (.int .i64 A) ∧ w'.cell? ⟨n, 1, none⟩ = some (.int .i64 B) ∧ w'.cell? ⟨n, 2, none⟩ = some (.int .i64 C) ∧ w'.cell? ⟨n, 3, none⟩ = some (.int .i64 D) :=
  ⟨hb, (h1.on hb).cells.1, (h1.on hb).cells.2.1, (h1.on hb).cells.2.2.1, (h1.on hb).cells.2.2.2, (h2.on hb).cells.1, (h2.on hb).cells.2.1, (h2.on hb).cells.2.2.1, (h2.on hb).cells.2.2.2, (h3.on hb).cells⟩

set_option maxRecDepth 100000 in
set_option maxHeartbeats 4000000 in
theorem clamps_any (a b c d : Int) (w : World) (hG : G w) (ha : -9223372036854775808 ≤ a ∧ a ≤ 9223372036854775807) (hb : -9223372036854775808 ≤ b ∧ b ≤ 9223372036854775807) (hc : -9223372036854775808 ≤ c ∧ c ≤ 9223372036854775807) (hd : -9223372036854775808 ≤ d ∧ d ≤ 9223372036854775807) :
    Calls Tryd.prog 6 #[quad a b c d] w fun e w' => e = .returned (.bool true) ∧ Below w.heap.size w w' := by
  have HG : Hid (At w w) := Lib.hid ⟨hG, Below.refl _ _⟩
  have HV := Lib.hid (cl_valid a b c d)
  clear hG
  go_enter Tryd.func6, Tryd.ntmps6
  go_wp2_with (go_at_call 21; refine (clamp_cl _ _ _ _ _ ((HG.out.alloc _).g.tab)).mono ?_; rintro e w1 ⟨rfl, hb1⟩; refine Hid.out ?_)
  have H1 := Lib.hid ((HG.out.alloc (.cells #[.int .i64 a, .int .i64 b, .int .i64 c, .int .i64 d] 24)).on hb1)
  have B1 := Lib.hid ((Box.new w a b c d).on hb1)
  have H2 := Lib.hid (H1.out.alloc (.cells #[.int .i64 (cl 1 9223372036854775807 a), .int .i64 (cl 1 16384 b), .int .i64 (cl 2 4096 c), .int .i64 (cl 0 16384 d)] 24))
  have B2 := Lib.hid (B1.out.alloc (.cells #[.int .i64 (cl 1 9223372036854775807 a), .int .i64 (cl 1 16384 b), .int .i64 (cl 2 4096 c), .int .i64 (cl 0 16384 d)] 24))
  have D2 := Lib.hid (Box.new w1 (cl 1 9223372036854775807 a) (cl 1 16384 b) (cl 2 4096 c) (cl 0 16384 d))
  have N0 := Lib.hid (near0 a _ _ _ HV.out)
  have N1 := Lib.hid (near1 b _ _ _ HV.out)
  have N2 := Lib.hid (near2 c _ _ _ HV.out)
  have N3 := Lib.hid (near3 d _ _ _ HV.out)
  have hq := clamp_tells a b c d
  generalize cl 1 9223372036854775807 a = A at *
  generalize cl 1 16384 b = B at *
  generalize cl 2 4096 c = C at *
  generalize cl 0 16384 d = D at *
  clear hb1 H1 B1 HG
  refine Lib.hid ?_
  go_upto_region 2 with fail
  generalize hW : w1.alloc (.cells #[.int .i64 A, .int .i64 B, .int .i64 C, .int .i64 D] 24) = W at *
  generalize w.heap.size = m at *
  generalize w1.heap.size = n at *
  obtain ⟨a0, a1, a2, a3⟩ := B2.out.cells
  obtain ⟨b0, b1, b2, b3⟩ := D2.out.cells
  have hbd : Below W.heap.size W W.drew := (Below.refl _ _).drew
  clear hW
  go_cut [26] (fun s wx => s = .bool false ∧ Below W.heap.size W wx)
  case first =>
    rcases hq with ⟨hq, hk⟩ | ⟨hq, hk⟩
    all_goals (
      go_region_held3 (fun w' => Below W.heap.size W w' ∧ w'.cell? ⟨m, 0, none⟩ = some (.int .i64 a) ∧ w'.cell? ⟨m, 1, none⟩ = some (.int .i64 b) ∧ w'.cell? ⟨m, 2, none⟩ = some (.int .i64 c) ∧ w'.cell? ⟨m, 3, none⟩ = some (.int .i64 d) ∧ w'.cell? ⟨n, 0, none⟩ = some (.int .i64 A) ∧ w'.cell? ⟨n, 1, none⟩ = some (.int .i64 B) ∧ w'.cell? ⟨n, 2, none⟩ = some (.int .i64 C) ∧ w'.cell? ⟨n, 3, none⟩ = some (.int .i64 D))
          (first | exact two_cells B2.out D2.out (Below.refl _ _).drew | exact two_cells B2.out D2.out (Below.refl _ _) | exact two_cells B2.out D2.out ‹_›)
          (first
            | (go_at_call 21; refine (clamp_valid _ _ _ _ _ (H2.out.g.on ‹Below W.heap.size W _›).tab HV.out).mono ?_; rintro e w7 ⟨rfl, hb7⟩; have hc7 := (‹Below W.heap.size W _›).trans (hb7.mono (‹Below W.heap.size W _›).size); clear hb7)
            | (go_at_call 18; refine (check_ok _ _ _ _ _ (H2.out.g.on ‹Below W.heap.size W _›).tab HV.out).mono ?_; rintro e w7 ⟨rfl, hb7⟩; have hc7 := (‹Below W.heap.size W _›).trans (hb7.mono (‹Below W.heap.size W _›).size); clear hb7)
            | (go_at_call 18; refine (check_any _ _ _ _ _ (H2.out.g.on ‹Below W.heap.size W _›).tab).mono ?_; rintro e w7 ⟨rfl, hb7⟩; have hc7 := (‹Below W.heap.size W _›).trans (hb7.mono (‹Below W.heap.size W _›).size); clear hb7)))
    all_goals (go_wp2_with fail; go_meet; exact ⟨rfl, ‹_›⟩)
  case rest =>
  obtain ⟨rfl, hbc⟩ := hcut
  have H3 := Lib.hid (H2.out.on hbc)
  have B3 := Lib.hid (B2.out.on hbc)
  have D3 := Lib.hid (D2.out.on hbc)
  clear hbc hbd H2 B2 D2 a0 a1 a2 a3 b0 b1 b2 b3 hq
  go_wp2_with fail
  go_loopw [27] (fun i wr => ∃ k : Nat, k ≤ 4 ∧ i = .int .i64 k ∧ At w wr ∧ Box m a b c d wr ∧ Box n A B C D wr) (fun i _ => 4 - (intOf i).toNat)
  case atStart =>
    exact ⟨0, by omega, rfl, H3.out, B3.out, D3.out⟩
  case round =>
    obtain ⟨k, hk, rfl, hA, hB, hD⟩ := hrel
    have H4 := Lib.hid hA
    have B4 := Lib.hid hB
    have D4 := Lib.hid hD
    obtain ⟨a0, a1, a2, a3⟩ := hB.cells
    obtain ⟨b0, b1, b2, b3⟩ := hD.cells
    clear hA hB hD H3 B3 D3
    by_cases h4 : k = 4
    · subst h4
      go_wp2_with (go_at_call 12; refine (works_any _ H4.out.g).mono ?_; rintro e w11 ⟨rfl, hb11⟩; have H11 := Lib.hid (H4.out.on hb11); clear hb11)
      go_ret
      exact ⟨rfl, H11.out.fr⟩
    · have hk4 : k = 0 ∨ k = 1 ∨ k = 2 ∨ k = 3 := by omega
      clear hk h4
      have hmlt := B4.out.lt
      have hnlt := D4.out.lt
      go_upto_region 7 with fail
      go_cut [5, 6] (fun s5 s6 wx => ∃ x y, s5 = .pointer (some ⟨x, 0, none⟩) ∧ s6 = .pointer (some ⟨y, 0, none⟩) ∧ x ≠ y ∧ wr.heap.size ≤ x ∧ wr.heap.size ≤ y ∧ Below wr.heap.size wr wx ∧ Box x A B C D wx ∧ Box y A B C D wx)
      case first =>
        go_region
        all_goals go_wp2_with fail
        all_goals go_meet
        · exact ⟨_, _, rfl, rfl, by omega, by omega, by omega, (two_new A B C D wr).1, (two_new A B C D wr).2.1, (two_new A B C D wr).2.2⟩
        · exact ⟨_, _, rfl, rfl, by omega, by omega, by omega, (two_new A B C D wr).1, (two_new A B C D wr).2.2, (two_new A B C D wr).2.1⟩
      case rest =>
        obtain ⟨x, y, rfl, rfl, hxy, hx, hy, hbw, hbx, hby⟩ := hcut
        clear a0 a1 a2 a3 b0 b1 b2 b3
        obtain ⟨a0, a1, a2, a3⟩ := (B4.out.on hbw).cells
        obtain ⟨b0, b1, b2, b3⟩ := (D4.out.on hbw).cells
        obtain ⟨x0, x1, x2, x3⟩ := hbx.cells
        have HBW := Lib.hid hbw; have HX := Lib.hid hbx; have HY := Lib.hid hby
        clear hbw hbx hby
        obtain rfl | rfl | rfl | rfl := hk4
        · have hf := HX.out.frozen 0
          go_wp2_with (go_at_call 22; refine (step_any A a _ (by have := HV.out; unfold Valid at this; omega) ha).mono ?_; rintro e w8 ⟨rfl, hb8⟩; refine Hid.out ?_)
          have HB5 := Lib.hid ((HBW.out.setCell (p := ⟨x, 0, none⟩) hx (.int .i64 a)).trans (hb8.mono (HBW.out.setCell (p := ⟨x, 0, none⟩) hx (.int .i64 a)).size))
          have X5 := Lib.hid ((HX.out.set0 a).on hb8)
          have Y5 := Lib.hid ((HY.out.setOther (Ne.symm hxy) 0 (.int .i64 a)).on hb8)
          have hf5 := Y5.out.frozen 0
          clear a0 a1 a2 a3 b0 b1 b2 b3 x0 x1 x2 x3 hb8 HBW HX HY hf
          obtain ⟨y0, y1, y2, y3⟩ := Y5.out.cells
          refine Lib.hid ?_
          go_upto_region 21 with fail
          have HB6 := Lib.hid (HB5.out.setCell (p := ⟨y, 0, none⟩) hy (.int .i64 (stp A a)))
          have X6 := Lib.hid (X5.out.setOther hxy 0 (.int .i64 (stp A a)))
          have Y6 := Lib.hid (Y5.out.set0 (stp A a))
          clear y0 y1 y2 y3 HB5 X5 Y5 hf5
          generalize w8.setCell ⟨y, 0, none⟩ (.int .i64 (stp A a)) = V at *
          have hT := N0.out
          generalize (stp A a) = s at *
          have H6 := Lib.hid (H4.out.on HB6.out)
          have D6 := Lib.hid (D4.out.on HB6.out)
          unfold Tells at hT
          go_cut [92] (fun s wx => s = .bool false ∧ Below V.heap.size V wx)
          case first =>
            obtain ⟨x0, x1, x2, x3⟩ := X6.out.cells
            obtain ⟨y0, y1, y2, y3⟩ := Y6.out.cells
            obtain ⟨b0, b1, b2, b3⟩ := D6.out.cells
            have hbd : Below V.heap.size V V.drew := (Below.refl _ _).drew
            rcases hT with ⟨q1, t1, q2, t2⟩ | ⟨q1, t1, q2, t2, f1⟩
            all_goals
              go_region_held3 (fun w' => Below V.heap.size V w' ∧ w'.cell? ⟨x, 0, none⟩ = some (.int .i64 a) ∧ w'.cell? ⟨x, 1, none⟩ = some (.int .i64 B) ∧ w'.cell? ⟨x, 2, none⟩ = some (.int .i64 C) ∧ w'.cell? ⟨x, 3, none⟩ = some (.int .i64 D) ∧ w'.cell? ⟨y, 0, none⟩ = some (.int .i64 s) ∧ w'.cell? ⟨y, 1, none⟩ = some (.int .i64 B) ∧ w'.cell? ⟨y, 2, none⟩ = some (.int .i64 C) ∧ w'.cell? ⟨y, 3, none⟩ = some (.int .i64 D) ∧ w'.cell? ⟨n, 0, none⟩ = some (.int .i64 A) ∧ w'.cell? ⟨n, 1, none⟩ = some (.int .i64 B) ∧ w'.cell? ⟨n, 2, none⟩ = some (.int .i64 C) ∧ w'.cell? ⟨n, 3, none⟩ = some (.int .i64 D))
                (first | exact three_cells X6.out Y6.out D6.out (Below.refl _ _).drew | exact three_cells X6.out Y6.out D6.out (Below.refl _ _) | exact three_cells X6.out Y6.out D6.out ‹_›)
                (first
                  | (go_at_call 18; refine (check_any _ _ _ _ _ (H6.out.g.on ‹Below V.heap.size V _›).tab).mono ?_; rintro e w7 ⟨rfl, hb7⟩; have hc7 := (‹Below V.heap.size V _›).trans (hb7.mono (‹Below V.heap.size V _›).size); clear hb7))
            all_goals (go_wp2_with fail; go_meet; exact ⟨rfl, ‹_›⟩)
          obtain ⟨rfl, hcut⟩ := hcut
          have HB7 := Lib.hid (HB6.out.trans (hcut.mono HB6.out.size))
          have H7 := Lib.hid (H6.out.on hcut)
          have X7 := Lib.hid (X6.out.on hcut)
          have Y7 := Lib.hid (Y6.out.on hcut)
          have D7 := Lib.hid (D6.out.on hcut)
          clear hcut HB6 H6 X6 Y6 D6
          go_upto_region 23 with fail
          go_cut [103] (fun s wx => s = .bool false ∧ Below wc.heap.size wc wx)
          case first =>
            obtain ⟨x0, x1, x2, x3⟩ := X7.out.cells
            obtain ⟨y0, y1, y2, y3⟩ := Y7.out.cells
            obtain ⟨b0, b1, b2, b3⟩ := D7.out.cells
            have hbd : Below wc.heap.size wc wc.drew := (Below.refl _ _).drew
            rcases hT with ⟨q1, t1, q2, t2⟩ | ⟨q1, t1, q2, t2, f1⟩
            · go_region
              all_goals (go_wp2_with fail; go_meet; exact ⟨rfl, hbd⟩)
            · go_region_held3 (fun w' => Below wc.heap.size wc w' ∧ w'.cell? ⟨x, 0, none⟩ = some (.int .i64 a) ∧ w'.cell? ⟨x, 1, none⟩ = some (.int .i64 B) ∧ w'.cell? ⟨x, 2, none⟩ = some (.int .i64 C) ∧ w'.cell? ⟨x, 3, none⟩ = some (.int .i64 D) ∧ w'.cell? ⟨y, 0, none⟩ = some (.int .i64 s) ∧ w'.cell? ⟨y, 1, none⟩ = some (.int .i64 B) ∧ w'.cell? ⟨y, 2, none⟩ = some (.int .i64 C) ∧ w'.cell? ⟨y, 3, none⟩ = some (.int .i64 D) ∧ w'.cell? ⟨n, 0, none⟩ = some (.int .i64 A) ∧ w'.cell? ⟨n, 1, none⟩ = some (.int .i64 B) ∧ w'.cell? ⟨n, 2, none⟩ = some (.int .i64 C) ∧ w'.cell? ⟨n, 3, none⟩ = some (.int .i64 D))
                (first | exact three_cells X7.out Y7.out D7.out (Below.refl _ _).drew | exact three_cells X7.out Y7.out D7.out (Below.refl _ _) | exact three_cells X7.out Y7.out D7.out ‹_›)
                (first
                  | (go_at_call 23; refine (field_is _ _ _ _ _ (H7.out.g.on ‹Below wc.heap.size wc _›).tab f1).mono ?_; rintro e w7 ⟨rfl, hb7⟩; have hc7 := (‹Below wc.heap.size wc _›).trans (hb7.mono (‹Below wc.heap.size wc _›).size); clear hb7))
              all_goals (go_wp2_with fail; go_meet; exact ⟨rfl, ‹_›⟩)
          obtain ⟨rfl, hcut⟩ := hcut
          have H8 := Lib.hid (H7.out.on hcut)
          have HB8 := Lib.hid (HB7.out.trans (hcut.mono HB7.out.size))
          have B8 := Lib.hid (B4.out.on HB8.out)
          have D8 := Lib.hid (D4.out.on HB8.out)
          clear hcut
          go_wp2_with fail
          go_roundw
          case rel => exact ⟨1, by omega, by go_num, H8.out, B8.out, D8.out⟩
          case measure => simp [intOf]
        · have hf := HX.out.frozen 1
          go_wp2_with (go_at_call 22; refine (step_any B b _ (by have := HV.out; unfold Valid at this; omega) hb).mono ?_; rintro e w8 ⟨rfl, hb8⟩; refine Hid.out ?_)
          have HB5 := Lib.hid ((HBW.out.setCell (p := ⟨x, 1, none⟩) hx (.int .i64 b)).trans (hb8.mono (HBW.out.setCell (p := ⟨x, 1, none⟩) hx (.int .i64 b)).size))
          have X5 := Lib.hid ((HX.out.set1 b).on hb8)
          have Y5 := Lib.hid ((HY.out.setOther (Ne.symm hxy) 1 (.int .i64 b)).on hb8)
          have hf5 := Y5.out.frozen 1
          clear a0 a1 a2 a3 b0 b1 b2 b3 x0 x1 x2 x3 hb8 HBW HX HY hf
          obtain ⟨y0, y1, y2, y3⟩ := Y5.out.cells
          refine Lib.hid ?_
          go_upto_region 21 with fail
          have HB6 := Lib.hid (HB5.out.setCell (p := ⟨y, 1, none⟩) hy (.int .i64 (stp B b)))
          have X6 := Lib.hid (X5.out.setOther hxy 1 (.int .i64 (stp B b)))
          have Y6 := Lib.hid (Y5.out.set1 (stp B b))
          clear y0 y1 y2 y3 HB5 X5 Y5 hf5
          generalize w8.setCell ⟨y, 1, none⟩ (.int .i64 (stp B b)) = V at *
          have hT := N1.out
          generalize (stp B b) = s at *
          have H6 := Lib.hid (H4.out.on HB6.out)
          have D6 := Lib.hid (D4.out.on HB6.out)
          unfold Tells at hT
          go_cut [92] (fun s wx => s = .bool false ∧ Below V.heap.size V wx)
          case first =>
            obtain ⟨x0, x1, x2, x3⟩ := X6.out.cells
            obtain ⟨y0, y1, y2, y3⟩ := Y6.out.cells
            obtain ⟨b0, b1, b2, b3⟩ := D6.out.cells
            have hbd : Below V.heap.size V V.drew := (Below.refl _ _).drew
            rcases hT with ⟨q1, t1, q2, t2⟩ | ⟨q1, t1, q2, t2, f1⟩
            all_goals
              go_region_held3 (fun w' => Below V.heap.size V w' ∧ w'.cell? ⟨x, 0, none⟩ = some (.int .i64 A) ∧ w'.cell? ⟨x, 1, none⟩ = some (.int .i64 b) ∧ w'.cell? ⟨x, 2, none⟩ = some (.int .i64 C) ∧ w'.cell? ⟨x, 3, none⟩ = some (.int .i64 D) ∧ w'.cell? ⟨y, 0, none⟩ = some (.int .i64 A) ∧ w'.cell? ⟨y, 1, none⟩ = some (.int .i64 s) ∧ w'.cell? ⟨y, 2, none⟩ = some (.int .i64 C) ∧ w'.cell? ⟨y, 3, none⟩ = some (.int .i64 D) ∧ w'.cell? ⟨n, 0, none⟩ = some (.int .i64 A) ∧ w'.cell? ⟨n, 1, none⟩ = some (.int .i64 B) ∧ w'.cell? ⟨n, 2, none⟩ = some (.int .i64 C) ∧ w'.cell? ⟨n, 3, none⟩ = some (.int .i64 D))
                (first | exact three_cells X6.out Y6.out D6.out (Below.refl _ _).drew | exact three_cells X6.out Y6.out D6.out (Below.refl _ _) | exact three_cells X6.out Y6.out D6.out ‹_›)
                (first
                  | (go_at_call 18; refine (check_any _ _ _ _ _ (H6.out.g.on ‹Below V.heap.size V _›).tab).mono ?_; rintro e w7 ⟨rfl, hb7⟩; have hc7 := (‹Below V.heap.size V _›).trans (hb7.mono (‹Below V.heap.size V _›).size); clear hb7))
            all_goals (go_wp2_with fail; go_meet; exact ⟨rfl, ‹_›⟩)
          obtain ⟨rfl, hcut⟩ := hcut
          have HB7 := Lib.hid (HB6.out.trans (hcut.mono HB6.out.size))
          have H7 := Lib.hid (H6.out.on hcut)
          have X7 := Lib.hid (X6.out.on hcut)
          have Y7 := Lib.hid (Y6.out.on hcut)
          have D7 := Lib.hid (D6.out.on hcut)
          clear hcut HB6 H6 X6 Y6 D6
          go_upto_region 23 with fail
          go_cut [103] (fun s wx => s = .bool false ∧ Below wc.heap.size wc wx)
          case first =>
            obtain ⟨x0, x1, x2, x3⟩ := X7.out.cells
            obtain ⟨y0, y1, y2, y3⟩ := Y7.out.cells
            obtain ⟨b0, b1, b2, b3⟩ := D7.out.cells
            have hbd : Below wc.heap.size wc wc.drew := (Below.refl _ _).drew
            rcases hT with ⟨q1, t1, q2, t2⟩ | ⟨q1, t1, q2, t2, f1⟩
            · go_region
              all_goals (go_wp2_with fail; go_meet; exact ⟨rfl, hbd⟩)
            · go_region_held3 (fun w' => Below wc.heap.size wc w' ∧ w'.cell? ⟨x, 0, none⟩ = some (.int .i64 A) ∧ w'.cell? ⟨x, 1, none⟩ = some (.int .i64 b) ∧ w'.cell? ⟨x, 2, none⟩ = some (.int .i64 C) ∧ w'.cell? ⟨x, 3, none⟩ = some (.int .i64 D) ∧ w'.cell? ⟨y, 0, none⟩ = some (.int .i64 A) ∧ w'.cell? ⟨y, 1, none⟩ = some (.int .i64 s) ∧ w'.cell? ⟨y, 2, none⟩ = some (.int .i64 C) ∧ w'.cell? ⟨y, 3, none⟩ = some (.int .i64 D) ∧ w'.cell? ⟨n, 0, none⟩ = some (.int .i64 A) ∧ w'.cell? ⟨n, 1, none⟩ = some (.int .i64 B) ∧ w'.cell? ⟨n, 2, none⟩ = some (.int .i64 C) ∧ w'.cell? ⟨n, 3, none⟩ = some (.int .i64 D))
                (first | exact three_cells X7.out Y7.out D7.out (Below.refl _ _).drew | exact three_cells X7.out Y7.out D7.out (Below.refl _ _) | exact three_cells X7.out Y7.out D7.out ‹_›)
                (first
                  | (go_at_call 23; refine (field_is _ _ _ _ _ (H7.out.g.on ‹Below wc.heap.size wc _›).tab f1).mono ?_; rintro e w7 ⟨rfl, hb7⟩; have hc7 := (‹Below wc.heap.size wc _›).trans (hb7.mono (‹Below wc.heap.size wc _›).size); clear hb7))
              all_goals (go_wp2_with fail; go_meet; exact ⟨rfl, ‹_›⟩)
          obtain ⟨rfl, hcut⟩ := hcut
          have H8 := Lib.hid (H7.out.on hcut)
          have HB8 := Lib.hid (HB7.out.trans (hcut.mono HB7.out.size))
          have B8 := Lib.hid (B4.out.on HB8.out)
          have D8 := Lib.hid (D4.out.on HB8.out)
          clear hcut
          go_wp2_with fail
          go_roundw
          case rel => exact ⟨2, by omega, by go_num, H8.out, B8.out, D8.out⟩
          case measure => simp [intOf]
        · have hf := HX.out.frozen 2
          go_wp2_with (go_at_call 22; refine (step_any C c _ (by have := HV.out; unfold Valid at this; omega) hc).mono ?_; rintro e w8 ⟨rfl, hb8⟩; refine Hid.out ?_)
          have HB5 := Lib.hid ((HBW.out.setCell (p := ⟨x, 2, none⟩) hx (.int .i64 c)).trans (hb8.mono (HBW.out.setCell (p := ⟨x, 2, none⟩) hx (.int .i64 c)).size))
          have X5 := Lib.hid ((HX.out.set2 c).on hb8)
          have Y5 := Lib.hid ((HY.out.setOther (Ne.symm hxy) 2 (.int .i64 c)).on hb8)
          have hf5 := Y5.out.frozen 2
          clear a0 a1 a2 a3 b0 b1 b2 b3 x0 x1 x2 x3 hb8 HBW HX HY hf
          obtain ⟨y0, y1, y2, y3⟩ := Y5.out.cells
          refine Lib.hid ?_
          go_upto_region 21 with fail
          have HB6 := Lib.hid (HB5.out.setCell (p := ⟨y, 2, none⟩) hy (.int .i64 (stp C c)))
          have X6 := Lib.hid (X5.out.setOther hxy 2 (.int .i64 (stp C c)))
          have Y6 := Lib.hid (Y5.out.set2 (stp C c))
          clear y0 y1 y2 y3 HB5 X5 Y5 hf5
          generalize w8.setCell ⟨y, 2, none⟩ (.int .i64 (stp C c)) = V at *
          have hT := N2.out
          generalize (stp C c) = s at *
          have H6 := Lib.hid (H4.out.on HB6.out)
          have D6 := Lib.hid (D4.out.on HB6.out)
          unfold Tells at hT
          go_cut [92] (fun s wx => s = .bool false ∧ Below V.heap.size V wx)
          case first =>
            obtain ⟨x0, x1, x2, x3⟩ := X6.out.cells
            obtain ⟨y0, y1, y2, y3⟩ := Y6.out.cells
            obtain ⟨b0, b1, b2, b3⟩ := D6.out.cells
            have hbd : Below V.heap.size V V.drew := (Below.refl _ _).drew
            rcases hT with ⟨q1, t1, q2, t2⟩ | ⟨q1, t1, q2, t2, f1⟩
            all_goals
              go_region_held3 (fun w' => Below V.heap.size V w' ∧ w'.cell? ⟨x, 0, none⟩ = some (.int .i64 A) ∧ w'.cell? ⟨x, 1, none⟩ = some (.int .i64 B) ∧ w'.cell? ⟨x, 2, none⟩ = some (.int .i64 c) ∧ w'.cell? ⟨x, 3, none⟩ = some (.int .i64 D) ∧ w'.cell? ⟨y, 0, none⟩ = some (.int .i64 A) ∧ w'.cell? ⟨y, 1, none⟩ = some (.int .i64 B) ∧ w'.cell? ⟨y, 2, none⟩ = some (.int .i64 s) ∧ w'.cell? ⟨y, 3, none⟩ = some (.int .i64 D) ∧ w'.cell? ⟨n, 0, none⟩ = some (.int .i64 A) ∧ w'.cell? ⟨n, 1, none⟩ = some (.int .i64 B) ∧ w'.cell? ⟨n, 2, none⟩ = some (.int .i64 C) ∧ w'.cell? ⟨n, 3, none⟩ = some (.int .i64 D))
                (first | exact three_cells X6.out Y6.out D6.out (Below.refl _ _).drew | exact three_cells X6.out Y6.out D6.out (Below.refl _ _) | exact three_cells X6.out Y6.out D6.out ‹_›)
                (first
                  | (go_at_call 18; refine (check_any _ _ _ _ _ (H6.out.g.on ‹Below V.heap.size V _›).tab).mono ?_; rintro e w7 ⟨rfl, hb7⟩; have hc7 := (‹Below V.heap.size V _›).trans (hb7.mono (‹Below V.heap.size V _›).size); clear hb7))
            all_goals (go_wp2_with fail; go_meet; exact ⟨rfl, ‹_›⟩)
          obtain ⟨rfl, hcut⟩ := hcut
          have HB7 := Lib.hid (HB6.out.trans (hcut.mono HB6.out.size))
          have H7 := Lib.hid (H6.out.on hcut)
          have X7 := Lib.hid (X6.out.on hcut)
          have Y7 := Lib.hid (Y6.out.on hcut)
          have D7 := Lib.hid (D6.out.on hcut)
          clear hcut HB6 H6 X6 Y6 D6
          go_upto_region 23 with fail
          go_cut [103] (fun s wx => s = .bool false ∧ Below wc.heap.size wc wx)
          case first =>
            obtain ⟨x0, x1, x2, x3⟩ := X7.out.cells
            obtain ⟨y0, y1, y2, y3⟩ := Y7.out.cells
            obtain ⟨b0, b1, b2, b3⟩ := D7.out.cells
            have hbd : Below wc.heap.size wc wc.drew := (Below.refl _ _).drew
            rcases hT with ⟨q1, t1, q2, t2⟩ | ⟨q1, t1, q2, t2, f1⟩
            · go_region
              all_goals (go_wp2_with fail; go_meet; exact ⟨rfl, hbd⟩)
            · go_region_held3 (fun w' => Below wc.heap.size wc w' ∧ w'.cell? ⟨x, 0, none⟩ = some (.int .i64 A) ∧ w'.cell? ⟨x, 1, none⟩ = some (.int .i64 B) ∧ w'.cell? ⟨x, 2, none⟩ = some (.int .i64 c) ∧ w'.cell? ⟨x, 3, none⟩ = some (.int .i64 D) ∧ w'.cell? ⟨y, 0, none⟩ = some (.int .i64 A) ∧ w'.cell? ⟨y, 1, none⟩ = some (.int .i64 B) ∧ w'.cell? ⟨y, 2, none⟩ = some (.int .i64 s) ∧ w'.cell? ⟨y, 3, none⟩ = some (.int .i64 D) ∧ w'.cell? ⟨n, 0, none⟩ = some (.int .i64 A) ∧ w'.cell? ⟨n, 1, none⟩ = some (.int .i64 B) ∧ w'.cell? ⟨n, 2, none⟩ = some (.int .i64 C) ∧ w'.cell? ⟨n, 3, none⟩ = some (.int .i64 D))
                (first | exact three_cells X7.out Y7.out D7.out (Below.refl _ _).drew | exact three_cells X7.out Y7.out D7.out (Below.refl _ _) | exact three_cells X7.out Y7.out D7.out ‹_›)
                (first
                  | (go_at_call 23; refine (field_is _ _ _ _ _ (H7.out.g.on ‹Below wc.heap.size wc _›).tab f1).mono ?_; rintro e w7 ⟨rfl, hb7⟩; have hc7 := (‹Below wc.heap.size wc _›).trans (hb7.mono (‹Below wc.heap.size wc _›).size); clear hb7))
              all_goals (go_wp2_with fail; go_meet; exact ⟨rfl, ‹_›⟩)
          obtain ⟨rfl, hcut⟩ := hcut
          have H8 := Lib.hid (H7.out.on hcut)
          have HB8 := Lib.hid (HB7.out.trans (hcut.mono HB7.out.size))
          have B8 := Lib.hid (B4.out.on HB8.out)
          have D8 := Lib.hid (D4.out.on HB8.out)
          clear hcut
          go_wp2_with fail
          go_roundw
          case rel => exact ⟨3, by omega, by go_num, H8.out, B8.out, D8.out⟩
          case measure => simp [intOf]
        · have hf := HX.out.frozen 3
          go_wp2_with (go_at_call 22; refine (step_any D d _ (by have := HV.out; unfold Valid at this; omega) hd).mono ?_; rintro e w8 ⟨rfl, hb8⟩; refine Hid.out ?_)
          have HB5 := Lib.hid ((HBW.out.setCell (p := ⟨x, 3, none⟩) hx (.int .i64 d)).trans (hb8.mono (HBW.out.setCell (p := ⟨x, 3, none⟩) hx (.int .i64 d)).size))
          have X5 := Lib.hid ((HX.out.set3 d).on hb8)
          have Y5 := Lib.hid ((HY.out.setOther (Ne.symm hxy) 3 (.int .i64 d)).on hb8)
          have hf5 := Y5.out.frozen 3
          clear a0 a1 a2 a3 b0 b1 b2 b3 x0 x1 x2 x3 hb8 HBW HX HY hf
          obtain ⟨y0, y1, y2, y3⟩ := Y5.out.cells
          refine Lib.hid ?_
          go_upto_region 21 with fail
          have HB6 := Lib.hid (HB5.out.setCell (p := ⟨y, 3, none⟩) hy (.int .i64 (stp D d)))
          have X6 := Lib.hid (X5.out.setOther hxy 3 (.int .i64 (stp D d)))
          have Y6 := Lib.hid (Y5.out.set3 (stp D d))
          clear y0 y1 y2 y3 HB5 X5 Y5 hf5
          generalize w8.setCell ⟨y, 3, none⟩ (.int .i64 (stp D d)) = V at *
          have hT := N3.out
          generalize (stp D d) = s at *
          have H6 := Lib.hid (H4.out.on HB6.out)
          have D6 := Lib.hid (D4.out.on HB6.out)
          unfold Tells at hT
          go_cut [92] (fun s wx => s = .bool false ∧ Below V.heap.size V wx)
          case first =>
            obtain ⟨x0, x1, x2, x3⟩ := X6.out.cells
            obtain ⟨y0, y1, y2, y3⟩ := Y6.out.cells
            obtain ⟨b0, b1, b2, b3⟩ := D6.out.cells
            have hbd : Below V.heap.size V V.drew := (Below.refl _ _).drew
            rcases hT with ⟨q1, t1, q2, t2⟩ | ⟨q1, t1, q2, t2, f1⟩
            all_goals
              go_region_held3 (fun w' => Below V.heap.size V w' ∧ w'.cell? ⟨x, 0, none⟩ = some (.int .i64 A) ∧ w'.cell? ⟨x, 1, none⟩ = some (.int .i64 B) ∧ w'.cell? ⟨x, 2, none⟩ = some (.int .i64 C) ∧ w'.cell? ⟨x, 3, none⟩ = some (.int .i64 d) ∧ w'.cell? ⟨y, 0, none⟩ = some (.int .i64 A) ∧ w'.cell? ⟨y, 1, none⟩ = some (.int .i64 B) ∧ w'.cell? ⟨y, 2, none⟩ = some (.int .i64 C) ∧ w'.cell? ⟨y, 3, none⟩ = some (.int .i64 s) ∧ w'.cell? ⟨n, 0, none⟩ = some (.int .i64 A) ∧ w'.cell? ⟨n, 1, none⟩ = some (.int .i64 B) ∧ w'.cell? ⟨n, 2, none⟩ = some (.int .i64 C) ∧ w'.cell? ⟨n, 3, none⟩ = some (.int .i64 D))
                (first | exact three_cells X6.out Y6.out D6.out (Below.refl _ _).drew | exact three_cells X6.out Y6.out D6.out (Below.refl _ _) | exact three_cells X6.out Y6.out D6.out ‹_›)
                (first
                  | (go_at_call 18; refine (check_any _ _ _ _ _ (H6.out.g.on ‹Below V.heap.size V _›).tab).mono ?_; rintro e w7 ⟨rfl, hb7⟩; have hc7 := (‹Below V.heap.size V _›).trans (hb7.mono (‹Below V.heap.size V _›).size); clear hb7))
            all_goals (go_wp2_with fail; go_meet; exact ⟨rfl, ‹_›⟩)
          obtain ⟨rfl, hcut⟩ := hcut
          have HB7 := Lib.hid (HB6.out.trans (hcut.mono HB6.out.size))
          have H7 := Lib.hid (H6.out.on hcut)
          have X7 := Lib.hid (X6.out.on hcut)
          have Y7 := Lib.hid (Y6.out.on hcut)
          have D7 := Lib.hid (D6.out.on hcut)
          clear hcut HB6 H6 X6 Y6 D6
          go_upto_region 23 with fail
          go_cut [103] (fun s wx => s = .bool false ∧ Below wc.heap.size wc wx)
          case first =>
            obtain ⟨x0, x1, x2, x3⟩ := X7.out.cells
            obtain ⟨y0, y1, y2, y3⟩ := Y7.out.cells
            obtain ⟨b0, b1, b2, b3⟩ := D7.out.cells
            have hbd : Below wc.heap.size wc wc.drew := (Below.refl _ _).drew
            rcases hT with ⟨q1, t1, q2, t2⟩ | ⟨q1, t1, q2, t2, f1⟩
            · go_region
              all_goals (go_wp2_with fail; go_meet; exact ⟨rfl, hbd⟩)
            · go_region_held3 (fun w' => Below wc.heap.size wc w' ∧ w'.cell? ⟨x, 0, none⟩ = some (.int .i64 A) ∧ w'.cell? ⟨x, 1, none⟩ = some (.int .i64 B) ∧ w'.cell? ⟨x, 2, none⟩ = some (.int .i64 C) ∧ w'.cell? ⟨x, 3, none⟩ = some (.int .i64 d) ∧ w'.cell? ⟨y, 0, none⟩ = some (.int .i64 A) ∧ w'.cell? ⟨y, 1, none⟩ = some (.int .i64 B) ∧ w'.cell? ⟨y, 2, none⟩ = some (.int .i64 C) ∧ w'.cell? ⟨y, 3, none⟩ = some (.int .i64 s) ∧ w'.cell? ⟨n, 0, none⟩ = some (.int .i64 A) ∧ w'.cell? ⟨n, 1, none⟩ = some (.int .i64 B) ∧ w'.cell? ⟨n, 2, none⟩ = some (.int .i64 C) ∧ w'.cell? ⟨n, 3, none⟩ = some (.int .i64 D))
                (first | exact three_cells X7.out Y7.out D7.out (Below.refl _ _).drew | exact three_cells X7.out Y7.out D7.out (Below.refl _ _) | exact three_cells X7.out Y7.out D7.out ‹_›)
                (first
                  | (go_at_call 23; refine (field_is _ _ _ _ _ (H7.out.g.on ‹Below wc.heap.size wc _›).tab f1).mono ?_; rintro e w7 ⟨rfl, hb7⟩; have hc7 := (‹Below wc.heap.size wc _›).trans (hb7.mono (‹Below wc.heap.size wc _›).size); clear hb7))
              all_goals (go_wp2_with fail; go_meet; exact ⟨rfl, ‹_›⟩)
          obtain ⟨rfl, hcut⟩ := hcut
          have H8 := Lib.hid (H7.out.on hcut)
          have HB8 := Lib.hid (HB7.out.trans (hcut.mono HB7.out.size))
          have B8 := Lib.hid (B4.out.on HB8.out)
          have D8 := Lib.hid (D4.out.on HB8.out)
          clear hcut
          go_wp2_with fail
          go_roundw
          case rel => exact ⟨4, by omega, by go_num, H8.out, B8.out, D8.out⟩
          case measure => simp [intOf]
end Go.Proofs.YtlnfpkknhmiegaaDoor
