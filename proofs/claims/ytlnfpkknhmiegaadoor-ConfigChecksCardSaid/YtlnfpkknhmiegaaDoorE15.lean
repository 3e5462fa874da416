/- The reference's Text. -/
import Derived.Test.YtlnfpkknhmiegaaDoorE13
import Derived.Test.YtlnfpkknhmiegaaDoorE14
import Derived.Deep.RegionHeld3
import Derived.Lib.ItoaLen
namespace Go.Proofs.YtlnfpkknhmiegaaDoor
open Go Go.RowKit

set_option maxRecDepth 100000 in
set_option maxHeartbeats 4000000 in
theorem rtext_bad (a b c d : Int) (w : World) (hv : ¬ Valid a b c d) :
    Calls Tryd.prog 28 #[quad a b c d] w fun e w' => e = .returned (.tuple #[.string ⟨#[]⟩, .int .i64 2]) ∧ Below w.heap.size w w' := by
  have hk := chk_bad hv
  clear hv
  go_enter Tryd.func28, Tryd.ntmps28
  go_wp2_with (go_at_call 30; refine (rcheck_any _ _ _ _ _).mono ?_; rintro e w1 ⟨rfl, hb⟩; have HB := Lib.hid hb; clear hb)
  go_ret2
  exact ⟨rfl, ((Below.refl _ _).alloc (Nat.le_refl _) _).trans (HB.out.mono (by simp))⟩

/-- Where the writing of a text stands: the rows, the values, and what was there when the call began. -/
structure Tx (w0 : World) (r g : Nat) (a b c d : Int) (w : World) : Prop where
  tb : w.heap[r]? = some (.cells rowCells 85 (0, 0))
  l4 : L4 g a b c d w
  fr : Below w0.heap.size w0 w
theorem Tx.on {w0 : World} {r g : Nat} {a b c d : Int} {w w' : World} (h : Tx w0 r g a b c d w) (hb : Below w.heap.size w w') : Tx w0 r g a b c d w' :=
  ⟨(hb.block _ (Array.getElem?_eq_some_iff.1 h.tb).1).trans h.tb, ⟨(hb.block _ (Array.getElem?_eq_some_iff.1 h.l4.bh).1).trans h.l4.bh⟩, h.fr.trans (hb.mono h.fr.size)⟩
theorem Tx.drew {w0 : World} {r g : Nat} {a b c d : Int} {w : World} (h : Tx w0 r g a b c d w) : Tx w0 r g a b c d w.drew := h.on (Below.refl _ _).drew
theorem Tx.c0 {w0 : World} {r g : Nat} {a b c d : Int} {w : World} (h : Tx w0 r g a b c d w) : w.cell? ⟨r, 0, none⟩ = some (.string sWindow) ∧ w.cell? ⟨g, 0, none⟩ = some (.int .i64 a) := ⟨cells_of_block h.tb 0, cells_of_block h.l4.bh 0⟩
theorem Tx.c1 {w0 : World} {r g : Nat} {a b c d : Int} {w : World} (h : Tx w0 r g a b c d w) : w.cell? ⟨r, 3, none⟩ = some (.string sEdges) ∧ w.cell? ⟨g, 1, none⟩ = some (.int .i64 b) := ⟨cells_of_block h.tb 3, cells_of_block h.l4.bh 1⟩
theorem Tx.c2 {w0 : World} {r g : Nat} {a b c d : Int} {w : World} (h : Tx w0 r g a b c d w) : w.cell? ⟨r, 6, none⟩ = some (.string sVerts) ∧ w.cell? ⟨g, 2, none⟩ = some (.int .i64 c) := ⟨cells_of_block h.tb 6, cells_of_block h.l4.bh 2⟩
theorem Tx.c3 {w0 : World} {r g : Nat} {a b c d : Int} {w : World} (h : Tx w0 r g a b c d w) : w.cell? ⟨r, 9, none⟩ = some (.string sDraws) ∧ w.cell? ⟨g, 3, none⟩ = some (.int .i64 d) := ⟨cells_of_block h.tb 9, cells_of_block h.l4.bh 3⟩

/-- The digits of a number in a text. -/
def DigOf (n : Int) (D : ByteArray) : Prop := D = ⟨(Lib.itoa n).toArray⟩
theorem dig_tx {w0 : World} {r g : Nat} {a b c d : Int} {n : Int} {D : ByteArray} (hD : DigOf n D) (h0 : 0 ≤ n) (h1 : n ≤ 9223372036854775807) (w : World) (h : Tx w0 r g a b c d w) :
    Calls Tryd.prog 48 #[.int .i64 n] w fun e w' => e = .returned (.string D) ∧ Tx w0 r g a b c d w' := by
  unfold DigOf at hD
  subst hD
  exact (rdigits_any n w h0 h1).mono fun _ _ ⟨he, hb⟩ => ⟨he, h.on hb⟩
theorem dig_size {n : Int} (h0 : 0 ≤ n) (h1 : n ≤ 9223372036854775807) : ∃ D, DigOf n D ∧ D.size ≤ 30 := by
  refine ⟨_, rfl, ?_⟩
  have := Lib.itoa_length_le n (by omega) h1
  simp [ByteArray.size]; omega
noncomputable def addR (a b : ByteArray) (W : World) := (Op.stringOp .add a b).run Tryd.prog W
theorem addR_is (a b : ByteArray) (W : World) : (Op.stringOp .add a b).run Tryd.prog W = addR a b W := rfl
theorem cat_ex (x y : ByteArray) (n m : Nat) (hx : x.size ≤ n) (hy : y.size ≤ m) (h : n + m ≤ 1000) :
    ∃ z, z = x ++ y ∧ z.size ≤ n + m ∧ ∀ W : World, addR x y W = .ok (.string z) W :=
  ⟨_, rfl, by rw [ByteArray.size_append]; omega, fun W => run_string_add_sum W x y (by omega)⟩
abbrev sEq : ByteArray := ⟨#[61]⟩
abbrev sSp : ByteArray := ⟨#[32]⟩

attribute [local go_sem ↓] addR_is

set_option maxRecDepth 100000 in
set_option maxHeartbeats 8000000 in
theorem rtext_ok (a b c d : Int) (w : World) (hv : Valid a b c d) :
    Calls Tryd.prog 28 #[quad a b c d] w fun e w' => e = .returned (.tuple #[.string ⟨(textL a b c d).toArray⟩, .int .i64 0]) ∧ Below w.heap.size w w' := by
  have hk := chk_ok hv
  obtain ⟨a0, a1, b0, b1, c0, c1, d0, d1⟩ := hv
  obtain ⟨DA, hDA, sA⟩ := dig_size (n := a) (by omega) (by omega)
  obtain ⟨DB, hDB, sB⟩ := dig_size (n := b) (by omega) (by omega)
  obtain ⟨DC, hDC, sC⟩ := dig_size (n := c) (by omega) (by omega)
  obtain ⟨DD, hDD, sD⟩ := dig_size (n := d) (by omega) (by omega)
  obtain ⟨R0, f0, t0, p0⟩ := cat_ex ⟨#[]⟩ sWindow 0 6 (by decide) (by decide) (by decide)
  obtain ⟨R1, f1, t1, p1⟩ := cat_ex R0 sEq 6 1 t0 (by decide) (by decide)
  obtain ⟨T0, e0, s0, q0⟩ := cat_ex R1 DA 7 30 t1 sA (by decide)
  obtain ⟨T1, e1, s1, q1⟩ := cat_ex T0 sSp 37 1 s0 (by decide) (by decide)
  obtain ⟨T2, e2, s2, q2⟩ := cat_ex T1 sEdges 38 6 s1 (by decide) (by decide)
  obtain ⟨T3, e3, s3, q3⟩ := cat_ex T2 sEq 44 1 s2 (by decide) (by decide)
  obtain ⟨T4, e4, s4, q4⟩ := cat_ex T3 DB 45 30 s3 sB (by decide)
  obtain ⟨T5, e5, s5, q5⟩ := cat_ex T4 sSp 75 1 s4 (by decide) (by decide)
  obtain ⟨T6, e6, s6, q6⟩ := cat_ex T5 sVerts 76 5 s5 (by decide) (by decide)
  obtain ⟨T7, e7, s7, q7⟩ := cat_ex T6 sEq 81 1 s6 (by decide) (by decide)
  obtain ⟨T8, e8, s8, q8⟩ := cat_ex T7 DC 82 30 s7 sC (by decide)
  obtain ⟨T9, e9, s9, q9⟩ := cat_ex T8 sSp 112 1 s8 (by decide) (by decide)
  obtain ⟨U0, e10, s10, q10⟩ := cat_ex T9 sDraws 113 5 s9 (by decide) (by decide)
  obtain ⟨U1, e11, s11, q11⟩ := cat_ex U0 sEq 118 1 s10 (by decide) (by decide)
  obtain ⟨U2, e12, s12, q12⟩ := cat_ex U1 DD 119 30 s11 sD (by decide)
  have hT : U2 = ⟨(textL a b c d).toArray⟩ := by
    subst e12; subst e11; subst e10; subst e9; subst e8; subst e7; subst e6; subst e5; subst e4; subst e3; subst e2; subst e1; subst e0; subst f1; subst f0
    unfold DigOf at hDA hDB hDC hDD
    subst hDA hDB hDC hDD
    apply ByteArray.ext
    simp [textL, pre0, pre1, pre2, pre3]
  have HT := Lib.hid hT
  have HA := Lib.hid hDA; have HB := Lib.hid hDB; have HC := Lib.hid hDC; have HD := Lib.hid hDD
  clear hDA hDB hDC hDD hT f0 f1 t0 t1 e0 e1 e2 e3 e4 e5 e6 e7 e8 e9 e10 e11 e12 s0 s1 s2 s3 s4 s5 s6 s7 s8 s9 s10 s11 s12 sA sB sC sD
  go_enter Tryd.func28, Tryd.ntmps28
  go_wp2_with (go_at_call 30; refine (rcheck_any _ _ _ _ _).mono ?_; rintro e w1 ⟨rfl, hb⟩; refine Hid.out ?_)
  have HB1 := Lib.hid (show Below w.heap.size w w1 from ((Below.refl _ _).alloc (Nat.le_refl _) _).trans (hb.mono (by simp)))
  have C1 := Lib.hid ((Box.new w a b c d).on hb)
  obtain ⟨x0, x1, x2, x3⟩ := C1.out.cells
  clear hb
  refine Lib.hid ?_
  go_wp2_with (go_at_call 38; refine (rfields_any _ _ _ _ _).mono ?_; rintro e w2 ⟨g, rfl, hg, hb2, hL⟩; refine Hid.out ?_)
  have HB2 := Lib.hid (HB1.out.trans (hb2.mono HB1.out.size))
  have HL2 := Lib.hid hL
  have hgl := (Array.getElem?_eq_some_iff.1 hL.bh).1
  clear hb2 hL hg x0 x1 x2 x3 C1 HB1
  refine Lib.hid ?_
  go_wp2_with (go_at_call 47; refine (rrows_any _).mono ?_; rintro e w3 ⟨r, rfl, hr, hb3, hR⟩; refine Hid.out ?_)
  have X : Tx w r g a b c d w3 := ⟨hR, ⟨(hb3.block _ hgl).trans HL2.out.bh⟩, HB2.out.trans (hb3.mono HB2.out.size)⟩
  clear hb3 hR hgl HL2 HB2 hr hk
  refine Lib.hid ?_
  go_wp2_with fail
  refine wp_loop_rounds 5 ?_
  rw [rounds_succ]
  go_wp2_with fail
  go_region_held3 (fun W => W.cell? ⟨r, 0, none⟩ = some (.string sWindow) ∧ W.cell? ⟨g, 0, none⟩ = some (.int .i64 a)) (first | exact X.drew.c0 | exact Tx.c0 (by assumption))
    (first | (go_at_call 48; refine (dig_tx HA.out ?_ ?_ _ X.drew).mono ?_; omega; omega; rintro e w4 ⟨rfl, X0⟩))
  clear X
  go_wp2_with fail
  rw [rounds_succ]
  go_wp2_with fail
  go_region_held3 (fun W => W.cell? ⟨r, 3, none⟩ = some (.string sEdges) ∧ W.cell? ⟨g, 1, none⟩ = some (.int .i64 b)) (first | exact X0.drew.c1 | exact Tx.c1 (by assumption))
    (first | (go_at_call 48; refine (dig_tx HB.out ?_ ?_ _ X0.drew).mono ?_; omega; omega; rintro e w4 ⟨rfl, X1⟩))
  clear X0
  go_wp2_with fail
  rw [rounds_succ]
  go_wp2_with fail
  go_region_held3 (fun W => W.cell? ⟨r, 6, none⟩ = some (.string sVerts) ∧ W.cell? ⟨g, 2, none⟩ = some (.int .i64 c)) (first | exact X1.drew.c2 | exact Tx.c2 (by assumption))
    (first | (go_at_call 48; refine (dig_tx HC.out ?_ ?_ _ X1.drew).mono ?_; omega; omega; rintro e w4 ⟨rfl, X2⟩))
  clear X1
  go_wp2_with fail
  rw [rounds_succ]
  go_wp2_with fail
  go_region_held3 (fun W => W.cell? ⟨r, 9, none⟩ = some (.string sDraws) ∧ W.cell? ⟨g, 3, none⟩ = some (.int .i64 d)) (first | exact X2.drew.c3 | exact Tx.c3 (by assumption))
    (first | (go_at_call 48; refine (dig_tx HD.out ?_ ?_ _ X2.drew).mono ?_; omega; omega; rintro e w4 ⟨rfl, X3⟩))
  clear X2
  go_wp2_with fail
  rw [rounds_succ]
  go_wp2_with fail
  go_ret2
  exact ⟨by rw [HT.out]; simp, X3.fr⟩
end Go.Proofs.YtlnfpkknhmiegaaDoor
