/- Contracts of config's small functions: fields, made, Default. -/
import Derived.Test.YtlnfpkknhmiegaaDoorProg
import Derived.WalkKit
import Derived.WalkSpells
import Derived.WalkLawsBesides
import Derived.Handy
import Derived.Lib.Hide
namespace Go.Proofs.YtlnfpkknhmiegaaDoor
open Go Go.RowKit

/-- The four numbers of a configuration, or of an array of four numbers, as one value. -/
abbrev quad (a b c d : Int) : Value := .agg #[.int .i64 a, .int .i64 b, .int .i64 c, .int .i64 d]

theorem ix0 (a b c d : Int) (w : World) : (Instr.index 55 (quad a b c d) (.int .i64 0)).run Tryd.prog w = .ok (.int .i64 a) w := by kernel_rfl
theorem ix1 (a b c d : Int) (w : World) : (Instr.index 55 (quad a b c d) (.int .i64 1)).run Tryd.prog w = .ok (.int .i64 b) w := by kernel_rfl
theorem ix2 (a b c d : Int) (w : World) : (Instr.index 55 (quad a b c d) (.int .i64 2)).run Tryd.prog w = .ok (.int .i64 c) w := by kernel_rfl
theorem ix3 (a b c d : Int) (w : World) : (Instr.index 55 (quad a b c d) (.int .i64 3)).run Tryd.prog w = .ok (.int .i64 d) w := by kernel_rfl
attribute [local go_sem] ix0 ix1 ix2 ix3

theorem bcell {W w1 : World} (hb : Below W.heap.size W w1) : (∀ b o, b < W.heap.size → w1.cell? ⟨b, o, none⟩ = W.cell? ⟨b, o, none⟩) ∧ (∀ b o, b < W.heap.size → w1.frozen? ⟨b, o, none⟩ = W.frozen? ⟨b, o, none⟩) :=
  ⟨fun b o h => hb.cell (p := ⟨b, o, none⟩) h, fun b o h => hb.frozen (p := ⟨b, o, none⟩) h⟩

set_option maxHeartbeats 400000 in
theorem fields_any (a b c d : Int) (w : World) :
    Calls Tryd.prog 35 #[quad a b c d] w fun e w' => e = .returned (quad a b c d) ∧ Below w.heap.size w w' := by
  go_enter Tryd.func35, Tryd.ntmps35
  go_wp2
  exact bodyPost_ret (v := quad a b c d) (by simp [results, Tryd.results35, go_sem]) rfl ⟨rfl, ((Below.refl _ _).alloc (Nat.le_refl _) _).alloc (by simp) _⟩

set_option maxHeartbeats 400000 in
theorem made_any (a b c d : Int) (w : World) :
    Calls Tryd.prog 37 #[quad a b c d] w fun e w' => e = .returned (quad a b c d) ∧ Below w.heap.size w w' := by
  go_enter Tryd.func37, Tryd.ntmps37
  go_wp2
  exact bodyPost_ret (v := quad a b c d) (by simp [results, Tryd.results37, go_sem]) rfl ⟨rfl, ((Below.refl _ _).alloc (Nat.le_refl _) _).alloc (by simp) _⟩

set_option maxHeartbeats 400000 in
theorem default_any (w : World) :
    Calls Tryd.prog 19 #[] w fun e w' => e = .returned (quad 60 1024 1024 1024) ∧ Below w.heap.size w w' := by
  go_enter Tryd.func19, Tryd.ntmps19
  go_wp2
  exact bodyPost_ret (v := quad 60 1024 1024 1024) (by simp [results, Tryd.results19, go_sem]) rfl ⟨rfl, (Below.refl _ _).alloc (Nat.le_refl _) _⟩

abbrev sWindow : ByteArray := ⟨#[119, 105, 110, 100, 111, 119]⟩
abbrev sEdges : ByteArray := ⟨#[101, 100, 103, 101, 115]⟩
abbrev sVerts : ByteArray := ⟨#[118, 101, 114, 116, 115]⟩
abbrev sDraws : ByteArray := ⟨#[100, 114, 97, 119, 115]⟩

/-- The table of config's fields as it lies in memory. -/
structure Tab (w : World) : Prop where
  n0 : w.cell? ⟨0, 0, none⟩ = some (.string sWindow)
  l0 : w.cell? ⟨0, 1, none⟩ = some (.int .i64 1)
  m0 : w.cell? ⟨0, 2, none⟩ = some (.int .i64 9223372036854775807)
  n1 : w.cell? ⟨0, 3, none⟩ = some (.string sEdges)
  l1 : w.cell? ⟨0, 4, none⟩ = some (.int .i64 1)
  m1 : w.cell? ⟨0, 5, none⟩ = some (.int .i64 16384)
  n2 : w.cell? ⟨0, 6, none⟩ = some (.string sVerts)
  l2 : w.cell? ⟨0, 7, none⟩ = some (.int .i64 2)
  m2 : w.cell? ⟨0, 8, none⟩ = some (.int .i64 4096)
  n3 : w.cell? ⟨0, 9, none⟩ = some (.string sDraws)
  l3 : w.cell? ⟨0, 10, none⟩ = some (.int .i64 0)
  m3 : w.cell? ⟨0, 11, none⟩ = some (.int .i64 16384)

theorem Tab.pos {w : World} (h : Tab w) : 0 < w.heap.size := World.block_lt_of_cell? w _ h.n0

theorem Tab.below {w w' : World} (h : Tab w) {B : Nat} (hB : 0 < B) (hb : Below B w w') : Tab w' := by
  have e : ∀ o, w'.cell? ⟨0, o, none⟩ = w.cell? ⟨0, o, none⟩ := fun o => hb.cell (p := ⟨0, o, none⟩) hB
  exact ⟨(e _).trans h.n0, (e _).trans h.l0, (e _).trans h.m0, (e _).trans h.n1, (e _).trans h.l1, (e _).trans h.m1, (e _).trans h.n2, (e _).trans h.l2, (e _).trans h.m2, (e _).trans h.n3, (e _).trans h.l3, (e _).trans h.m3⟩

/-- The first field that is not valid. -/
def fieldOf (a b c d : Int) : ByteArray :=
  if a < 1 ∨ 9223372036854775807 < a then sWindow else if b < 1 ∨ 16384 < b then sEdges else if c < 2 ∨ 4096 < c then sVerts else if d < 0 ∨ 16384 < d then sDraws else ⟨#[]⟩

set_option maxRecDepth 100000 in
set_option maxHeartbeats 1000000 in
theorem field_any (a b c d : Int) (w : World) (hT : Tab w) :
    Calls Tryd.prog 23 #[quad a b c d] w fun e w' => e = .returned (.string (fieldOf a b c d)) ∧ Below w.heap.size w w' := by
  have hp := hT.pos
  have HT := Lib.hid hT; clear hT
  go_enter Tryd.func23, Tryd.ntmps23
  go_wp2_with (go_at_call 35; refine (fields_any _ _ _ _ _).mono ?_; rintro e w1 ⟨rfl, hb⟩; refine Hid.out ?_)
  have hb1 : Below w.heap.size w w1 := ((Below.refl _ _).alloc (Nat.le_refl _) _).trans (hb.mono (by simp))
  have HB1 := Lib.hid hb1
  obtain ⟨n0, l0, m0, n1, l1, m1, n2, l2, m2, n3, l3, m3⟩ := HT.out.below hp hb1
  clear hb hb1 hp
  refine Lib.hid ?_
  go_wp2
  go_rounds 5
  all_goals go_ret
  all_goals exact ⟨congrArg (fun s => Ending.returned (.string s)) (by unfold fieldOf; (repeat' split) <;> first | rfl | omega), HB1.out⟩

def Valid (a b c d : Int) : Prop := 1 ≤ a ∧ a ≤ 9223372036854775807 ∧ 1 ≤ b ∧ b ≤ 16384 ∧ 2 ≤ c ∧ c ≤ 4096 ∧ 0 ≤ d ∧ d ≤ 16384
theorem fieldOf_valid {a b c d : Int} (h : Valid a b c d) : fieldOf a b c d = ⟨#[]⟩ := by
  unfold Valid at h; unfold fieldOf; (repeat' split) <;> first | rfl | omega
theorem fieldOf_bad {a b c d : Int} (h : ¬ Valid a b c d) : (!(fieldOf a b c d).toList.isEmpty) = true := by
  unfold Valid at h; unfold fieldOf; (repeat' split) <;> first | omega | decide +kernel

set_option maxHeartbeats 400000 in
theorem check_ok (a b c d : Int) (w : World) (hT : Tab w) (hv : Valid a b c d) :
    Calls Tryd.prog 18 #[quad a b c d] w fun e w' => e = .returned (.int .i64 0) ∧ Below w.heap.size w w' := by
  have hf := field_any a b c d (w.alloc (.cells #[.int .i64 a, .int .i64 b, .int .i64 c, .int .i64 d] 24)) (hT.below hT.pos ((Below.refl _ _).alloc (Nat.le_refl _) _))
  rw [fieldOf_valid hv] at hf
  have HF := Lib.hid hf; clear hf hT hv
  go_enter Tryd.func18, Tryd.ntmps18
  go_wp2_with (go_at_call 23; refine (HF.out).mono ?_; rintro e w1 ⟨rfl, hb⟩; have HB := Lib.hid hb; clear hb)
  go_ret
  exact ⟨rfl, ((Below.refl _ _).alloc (Nat.le_refl _) _).trans (HB.out.mono (by simp))⟩
set_option maxHeartbeats 400000 in
theorem check_bad (a b c d : Int) (w : World) (hT : Tab w) (hv : ¬ Valid a b c d) :
    Calls Tryd.prog 18 #[quad a b c d] w fun e w' => e = .returned (.int .i64 2) ∧ Below w.heap.size w w' := by
  have hf := field_any a b c d (w.alloc (.cells #[.int .i64 a, .int .i64 b, .int .i64 c, .int .i64 d] 24)) (hT.below hT.pos ((Below.refl _ _).alloc (Nat.le_refl _) _))
  have hne := fieldOf_bad hv
  generalize fieldOf a b c d = s at hf hne
  have HF := Lib.hid hf; clear hf hT hv
  go_enter Tryd.func18, Tryd.ntmps18
  go_wp2_with (go_at_call 23; refine (HF.out).mono ?_; rintro e w1 ⟨rfl, hb⟩; have HB := Lib.hid hb; clear hb)
  go_ret
  exact ⟨rfl, ((Below.refl _ _).alloc (Nat.le_refl _) _).trans (HB.out.mono (by simp))⟩
end Go.Proofs.YtlnfpkknhmiegaaDoor
