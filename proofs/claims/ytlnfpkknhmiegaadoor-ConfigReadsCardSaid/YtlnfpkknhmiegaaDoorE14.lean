/- The reference's Fields, Rows and Clamp. -/
import Derived.Test.YtlnfpkknhmiegaaDoorE5
namespace Go.Proofs.YtlnfpkknhmiegaaDoor
open Go Go.RowKit

theorem rfields_any (a b c d : Int) (w : World) :
    Calls Tryd.prog 38 #[quad a b c d] w fun e w' => ∃ g, e = .returned (.slice (some ⟨g, 0, none⟩) 4 4) ∧ w.heap.size ≤ g ∧ Below w.heap.size w w' ∧ L4 g a b c d w' := by
  go_enter Tryd.func38, Tryd.ntmps38
  go_wp2
  go_ret
  exact ⟨_, rfl, by omega, ((Below.refl _ _).alloc (Nat.le_refl _) _).alloc (by simp) _, ⟨block_new _ _ _ (by simp)⟩⟩

abbrev rowCells : Array Value := #[.string sWindow, .int .i64 1, .int .i64 9223372036854775807, .string sEdges, .int .i64 1, .int .i64 16384, .string sVerts, .int .i64 2, .int .i64 4096, .string sDraws, .int .i64 0, .int .i64 16384]
theorem rrows_any (w : World) :
    Calls Tryd.prog 47 #[] w fun e w' => ∃ g, e = .returned (.slice (some ⟨g, 0, none⟩) 4 4) ∧ w.heap.size ≤ g ∧ Below w.heap.size w w' ∧ w'.heap[g]? = some (.cells rowCells 85 (0, 0)) := by
  go_enter Tryd.func47, Tryd.ntmps47
  go_wp2
  go_ret
  exact ⟨_, rfl, Nat.le_refl _, (Below.refl _ _).alloc (Nat.le_refl _) _, block_new _ _ _ rfl⟩

/-- The first k fields clamped. -/
def sel (k i : Nat) (x y : Int) : Int := if i < k then y else x
set_option maxRecDepth 100000 in
set_option maxHeartbeats 4000000 in
theorem rclamp_any (a b c d : Int) (w : World) :
    Calls Tryd.prog 32 #[quad a b c d] w fun e w' => e = .returned (quad (cl 1 9223372036854775807 a) (cl 1 16384 b) (cl 2 4096 c) (cl 0 16384 d)) ∧ Below w.heap.size w w' := by
  go_enter Tryd.func32, Tryd.ntmps32
  go_wp2_with (go_at_call 38; refine (rfields_any _ _ _ _ _).mono ?_; rintro e w1 ⟨g, rfl, hg, hb1, hL⟩; refine Hid.out ?_)
  have hs0 : w.heap.size + 2 ≤ g := by simpa using hg
  have HB1 := Lib.hid (show Below w.heap.size w w1 from (((Below.refl _ _).alloc (Nat.le_refl _) _).alloc (by simp) _).trans (hb1.mono (by simp; omega)))
  have R1 : Hid (Box (w.heap.size + 1) 0 0 0 0 w1) := Lib.hid (Box.on ⟨block_new _ _ _ (by simp)⟩ hb1)
  have HL1 := Lib.hid hL
  have hgl := (Array.getElem?_eq_some_iff.1 hL.bh).1
  clear hb1 hL hg
  refine Lib.hid ?_
  go_wp2_with (go_at_call 47; refine (rrows_any _).mono ?_; rintro e w2 ⟨r, rfl, hr, hb2, hR⟩; refine Hid.out ?_)
  have HB2 := Lib.hid (HB1.out.trans (hb2.mono HB1.out.size))
  have R2 := Lib.hid (R1.out.on hb2)
  have HL2 : Hid (L4 g a b c d w2) := Lib.hid ⟨(hb2.block _ hgl).trans HL1.out.bh⟩
  have hgr : g ≠ r := by omega
  have HR := Lib.hid hR
  clear hb2 hR HB1 R1 HL1
  refine Lib.hid ?_
  go_wp2_with fail
  go_loopw [5] (fun i wr => ∃ k : Nat, i = .int .i64 k ∧ ((k = 0 ∧ L4 g a b c d wr) ∨ (k = 1 ∧ L4 g (cl 1 9223372036854775807 a) b c d wr) ∨ (k = 2 ∧ L4 g (cl 1 9223372036854775807 a) (cl 1 16384 b) c d wr) ∨ (k = 3 ∧ L4 g (cl 1 9223372036854775807 a) (cl 1 16384 b) (cl 2 4096 c) d wr) ∨ (k = 4 ∧ L4 g (cl 1 9223372036854775807 a) (cl 1 16384 b) (cl 2 4096 c) (cl 0 16384 d) wr)) ∧ wr.heap[r]? = some (.cells rowCells 85 (0, 0)) ∧ Box (w.heap.size + 1) 0 0 0 0 wr ∧ Below w.heap.size w wr) (fun i _ => 4 - (intOf i).toNat)
  case atStart => exact ⟨0, rfl, .inl ⟨rfl, HL2.out⟩, HR.out, R2.out, HB2.out⟩
  case round =>
    obtain ⟨k, rfl, hL, hR, hX, hB⟩ := hrel
    have HRR := Lib.hid hR; have HX := Lib.hid hX; have HB := Lib.hid hB
    obtain ⟨r0, r1, r2, r3, r4, r5, r6, r7, r8, r9, r10, r11⟩ : wr.cell? ⟨r, 0, none⟩ = some (.string sWindow) ∧ wr.cell? ⟨r, 1, none⟩ = some (.int .i64 1) ∧ wr.cell? ⟨r, 2, none⟩ = some (.int .i64 9223372036854775807) ∧ wr.cell? ⟨r, 3, none⟩ = some (.string sEdges) ∧ wr.cell? ⟨r, 4, none⟩ = some (.int .i64 1) ∧ wr.cell? ⟨r, 5, none⟩ = some (.int .i64 16384) ∧ wr.cell? ⟨r, 6, none⟩ = some (.string sVerts) ∧ wr.cell? ⟨r, 7, none⟩ = some (.int .i64 2) ∧ wr.cell? ⟨r, 8, none⟩ = some (.int .i64 4096) ∧ wr.cell? ⟨r, 9, none⟩ = some (.string sDraws) ∧ wr.cell? ⟨r, 10, none⟩ = some (.int .i64 0) ∧ wr.cell? ⟨r, 11, none⟩ = some (.int .i64 16384) := ⟨cells_of_block hR 0, cells_of_block hR 1, cells_of_block hR 2, cells_of_block hR 3, cells_of_block hR 4, cells_of_block hR 5, cells_of_block hR 6, cells_of_block hR 7, cells_of_block hR 8, cells_of_block hR 9, cells_of_block hR 10, cells_of_block hR 11⟩
    clear hR hX hB HR R2 HB2 HL2
    rcases hL with ⟨rfl, hL⟩ | ⟨rfl, hL⟩ | ⟨rfl, hL⟩ | ⟨rfl, hL⟩ | ⟨rfl, hL⟩
    · obtain ⟨hlt, c0, c1, c2, c3⟩ := quad_at hL.bh
      have hf := frozen_of_block hL.bh 0
      have HL := Lib.hid hL
      clear hL
      by_cases h0 : a < 1
      · have e : cl 1 9223372036854775807 a = 1 := by unfold cl mx mn; (repeat' split) <;> omega
        have E := Lib.hid e
        clear e
        go_wp2; go_region; go_wp2; go_region; go_wp2
        go_roundw
        case rel => exact ⟨1, by go_num, .inr (.inl ⟨rfl, ⟨(set_same HL.out.bh).trans (by rw [E.out]; rfl)⟩⟩), (Below.heap_setCell _ _ _ _ (Ne.symm hgr)).trans HRR.out, ⟨(HX.out.setOther (x := g) (by omega) _ _).bh⟩, (HB.out.setCell (by show w.heap.size ≤ g; omega) _).drew.drew⟩
        case measure => simp [intOf]
      · by_cases h1 : 9223372036854775807 < a
        · have e : cl 1 9223372036854775807 a = 9223372036854775807 := by unfold cl mx mn; (repeat' split) <;> omega
          have E := Lib.hid e
          clear e
          go_wp2; go_region; go_wp2; go_region; go_wp2
          go_roundw
          case rel => exact ⟨1, by go_num, .inr (.inl ⟨rfl, ⟨(set_same HL.out.bh).trans (by rw [E.out]; rfl)⟩⟩), (Below.heap_setCell _ _ _ _ (Ne.symm hgr)).trans HRR.out, ⟨(HX.out.setOther (x := g) (by omega) _ _).bh⟩, (HB.out.setCell (by show w.heap.size ≤ g; omega) _).drew.drew⟩
          case measure => simp [intOf]
        · have e : cl 1 9223372036854775807 a = a := cl_eq (by omega) (by omega)
          have E := Lib.hid e
          clear e
          go_wp2; go_region; go_wp2; go_region; go_wp2
          go_roundw
          case rel => exact ⟨1, by go_num, .inr (.inl ⟨rfl, ⟨HL.out.bh.trans (by rw [E.out])⟩⟩), HRR.out, ⟨HX.out.bh⟩, HB.out.drew.drew⟩
          case measure => simp [intOf]
    · obtain ⟨hlt, c0, c1, c2, c3⟩ := quad_at hL.bh
      have hf := frozen_of_block hL.bh 1
      have HL := Lib.hid hL
      clear hL
      generalize cl 1 9223372036854775807 a = v0 at *
      by_cases h0 : b < 1
      · have e : cl 1 16384 b = 1 := by unfold cl mx mn; (repeat' split) <;> omega
        have E := Lib.hid e
        clear e
        go_wp2; go_region; go_wp2; go_region; go_wp2
        go_roundw
        case rel => exact ⟨2, by go_num, .inr (.inr (.inl ⟨rfl, ⟨(set_same HL.out.bh).trans (by rw [E.out]; rfl)⟩⟩)), (Below.heap_setCell _ _ _ _ (Ne.symm hgr)).trans HRR.out, ⟨(HX.out.setOther (x := g) (by omega) _ _).bh⟩, (HB.out.setCell (by show w.heap.size ≤ g; omega) _).drew.drew⟩
        case measure => simp [intOf]
      · by_cases h1 : 16384 < b
        · have e : cl 1 16384 b = 16384 := by unfold cl mx mn; (repeat' split) <;> omega
          have E := Lib.hid e
          clear e
          go_wp2; go_region; go_wp2; go_region; go_wp2
          go_roundw
          case rel => exact ⟨2, by go_num, .inr (.inr (.inl ⟨rfl, ⟨(set_same HL.out.bh).trans (by rw [E.out]; rfl)⟩⟩)), (Below.heap_setCell _ _ _ _ (Ne.symm hgr)).trans HRR.out, ⟨(HX.out.setOther (x := g) (by omega) _ _).bh⟩, (HB.out.setCell (by show w.heap.size ≤ g; omega) _).drew.drew⟩
          case measure => simp [intOf]
        · have e : cl 1 16384 b = b := cl_eq (by omega) (by omega)
          have E := Lib.hid e
          clear e
          go_wp2; go_region; go_wp2; go_region; go_wp2
          go_roundw
          case rel => exact ⟨2, by go_num, .inr (.inr (.inl ⟨rfl, ⟨HL.out.bh.trans (by rw [E.out])⟩⟩)), HRR.out, ⟨HX.out.bh⟩, HB.out.drew.drew⟩
          case measure => simp [intOf]
    · obtain ⟨hlt, c0, c1, c2, c3⟩ := quad_at hL.bh
      have hf := frozen_of_block hL.bh 2
      have HL := Lib.hid hL
      clear hL
      generalize cl 1 9223372036854775807 a = v0 at *
      generalize cl 1 16384 b = v1 at *
      by_cases h0 : c < 2
      · have e : cl 2 4096 c = 2 := by unfold cl mx mn; (repeat' split) <;> omega
        have E := Lib.hid e
        clear e
        go_wp2; go_region; go_wp2; go_region; go_wp2
        go_roundw
        case rel => exact ⟨3, by go_num, .inr (.inr (.inr (.inl ⟨rfl, ⟨(set_same HL.out.bh).trans (by rw [E.out]; rfl)⟩⟩))), (Below.heap_setCell _ _ _ _ (Ne.symm hgr)).trans HRR.out, ⟨(HX.out.setOther (x := g) (by omega) _ _).bh⟩, (HB.out.setCell (by show w.heap.size ≤ g; omega) _).drew.drew⟩
        case measure => simp [intOf]
      · by_cases h1 : 4096 < c
        · have e : cl 2 4096 c = 4096 := by unfold cl mx mn; (repeat' split) <;> omega
          have E := Lib.hid e
          clear e
          go_wp2; go_region; go_wp2; go_region; go_wp2
          go_roundw
          case rel => exact ⟨3, by go_num, .inr (.inr (.inr (.inl ⟨rfl, ⟨(set_same HL.out.bh).trans (by rw [E.out]; rfl)⟩⟩))), (Below.heap_setCell _ _ _ _ (Ne.symm hgr)).trans HRR.out, ⟨(HX.out.setOther (x := g) (by omega) _ _).bh⟩, (HB.out.setCell (by show w.heap.size ≤ g; omega) _).drew.drew⟩
          case measure => simp [intOf]
        · have e : cl 2 4096 c = c := cl_eq (by omega) (by omega)
          have E := Lib.hid e
          clear e
          go_wp2; go_region; go_wp2; go_region; go_wp2
          go_roundw
          case rel => exact ⟨3, by go_num, .inr (.inr (.inr (.inl ⟨rfl, ⟨HL.out.bh.trans (by rw [E.out])⟩⟩))), HRR.out, ⟨HX.out.bh⟩, HB.out.drew.drew⟩
          case measure => simp [intOf]
    · obtain ⟨hlt, c0, c1, c2, c3⟩ := quad_at hL.bh
      have hf := frozen_of_block hL.bh 3
      have HL := Lib.hid hL
      clear hL
      generalize cl 1 9223372036854775807 a = v0 at *
      generalize cl 1 16384 b = v1 at *
      generalize cl 2 4096 c = v2 at *
      by_cases h0 : d < 0
      · have e : cl 0 16384 d = 0 := by unfold cl mx mn; (repeat' split) <;> omega
        have E := Lib.hid e
        clear e
        go_wp2; go_region; go_wp2; go_region; go_wp2
        go_roundw
        case rel => exact ⟨4, by go_num, .inr (.inr (.inr (.inr (⟨rfl, ⟨(set_same HL.out.bh).trans (by rw [E.out]; rfl)⟩⟩)))), (Below.heap_setCell _ _ _ _ (Ne.symm hgr)).trans HRR.out, ⟨(HX.out.setOther (x := g) (by omega) _ _).bh⟩, (HB.out.setCell (by show w.heap.size ≤ g; omega) _).drew.drew⟩
        case measure => simp [intOf]
      · by_cases h1 : 16384 < d
        · have e : cl 0 16384 d = 16384 := by unfold cl mx mn; (repeat' split) <;> omega
          have E := Lib.hid e
          clear e
          go_wp2; go_region; go_wp2; go_region; go_wp2
          go_roundw
          case rel => exact ⟨4, by go_num, .inr (.inr (.inr (.inr (⟨rfl, ⟨(set_same HL.out.bh).trans (by rw [E.out]; rfl)⟩⟩)))), (Below.heap_setCell _ _ _ _ (Ne.symm hgr)).trans HRR.out, ⟨(HX.out.setOther (x := g) (by omega) _ _).bh⟩, (HB.out.setCell (by show w.heap.size ≤ g; omega) _).drew.drew⟩
          case measure => simp [intOf]
        · have e : cl 0 16384 d = d := cl_eq (by omega) (by omega)
          have E := Lib.hid e
          clear e
          go_wp2; go_region; go_wp2; go_region; go_wp2
          go_roundw
          case rel => exact ⟨4, by go_num, .inr (.inr (.inr (.inr (⟨rfl, ⟨HL.out.bh.trans (by rw [E.out])⟩⟩)))), HRR.out, ⟨HX.out.bh⟩, HB.out.drew.drew⟩
          case measure => simp [intOf]
    · have HL := Lib.hid hL
      clear hL
      generalize hA : cl 1 9223372036854775807 a = A at *
      generalize hB' : cl 1 16384 b = B at *
      generalize hC : cl 2 4096 c = C at *
      generalize hD : cl 0 16384 d = D at *
      have HA := Lib.hid hA; have HB' := Lib.hid hB'; have HC := Lib.hid hC; have HD := Lib.hid hD
      clear hA hB' hC hD
      go_wp2_with (go_at_call 41; refine (rmade_any _ _ _ _ _ _ HL.out).mono ?_; rintro e w3 ⟨rfl, hb3⟩; refine Hid.out ?_)
      have HB3 := Lib.hid (HB.out.trans (hb3.mono HB.out.size))
      have HX3 := Lib.hid (HX.out.on hb3)
      clear hb3 HB HX HL HRR
      obtain ⟨x0, x1, x2, x3⟩ := HX3.out.cells
      have hlx := HX3.out.lt
      have f0 := HX3.out.frozen 0
      have f1 := HX3.out.frozen 1
      have f2 := HX3.out.frozen 2
      have f3 := HX3.out.frozen 3
      refine Lib.hid ?_
      go_wp2
      refine bodyPost_ret (v := quad A B C D) (by simp [results, Tryd.results32, go_sem, x0, x1, x2, x3]) rfl ⟨by rw [HA.out, HB'.out, HC.out, HD.out], ?_⟩
      exact below_quad HB3.out (by omega) _ _ _ _
end Go.Proofs.YtlnfpkknhmiegaaDoor
