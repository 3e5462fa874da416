/- The deferred closure of config.Parse. -/
import Derived.Test.YtlnfpkknhmiegaaDoorA8
import Derived.Defers
import Derived.Recover
import Derived.Laws.Pointers
namespace Go.Proofs.YtlnfpkknhmiegaaDoor
open Go Go.RowKit

/-- What the closure makes of the two results where it has caught a panic. -/
def caught (w : World) (n m : Nat) : World :=
  ((((w.setCell ⟨n, 0, none⟩ (.int .i64 0)).setCell ⟨n, 1, none⟩ (.int .i64 0)).setCell ⟨n, 2, none⟩ (.int .i64 0)).setCell ⟨n, 3, none⟩ (.int .i64 0)).setCell ⟨m, 0, none⟩ (.int .i64 15)

set_option maxRecDepth 100000 in
theorem catch_some (n m : Nat) (a b c d x : Int) (u : TypeId) (pv : Value) (older : List PanicEntry) (w : World) (h1 : w.heap[n]? = some (.cells #[.int .i64 a, .int .i64 b, .int .i64 c, .int .i64 d] 24 (0, 0))) (h2 : w.heap[m]? = some (.cells #[.int .i64 x] 25 (0, 0))) (hne : n ≠ m) :
    CallsD Tryd.prog 34 #[.pointer (some ⟨n, 0, none⟩), .pointer (some ⟨m, 0, none⟩)] (.panicking ({ v := .iface u pv, recovered := false } :: older)) w fun e u' w' =>
      e = .returned (.tuple #[]) ∧ u' = .panicking ({ v := .iface u pv, recovered := true } :: older) ∧ w' = caught w n m := by
  obtain ⟨z1, c0, c1, c2, c3⟩ := quad_at h1
  have f0 := frozen_of_block h1 0
  have f1 := frozen_of_block h1 1
  have f2 := frozen_of_block h1 2
  have f3 := frozen_of_block h1 3
  have k0 := cells_of_block h2 0
  have kf := frozen_of_block h2 0
  simp at k0
  refine callsD_of_wpS Tryd.func34 rfl fun c₀ cs hu => ?_
  apply wpS_seq
  apply wpS_region
  simp [wpOpsS, go_sem, recoverD, hu, Tryd.ntmps34, Exit.thenS]
  rw [show (#[Value.pointer (some ⟨n, 0, none⟩), Value.pointer (some ⟨m, 0, none⟩)] ++ ((Array.replicate 5 undef).setIfInBounds 1 (Value.iface u pv)).setIfInBounds 0 (Value.iface u pv) : Array Value) = #[Value.pointer (some ⟨n, 0, none⟩), Value.pointer (some ⟨m, 0, none⟩), .iface u pv, .iface u pv, undef, undef, undef] from rfl]
  refine wpS_of_wp ?_
  go_wp2
  simp [bodyPostS, results, Tryd.results34, caught]

set_option maxRecDepth 100000 in
theorem catch_idle (n m : Nat) (w : World) :
    CallsD Tryd.prog 34 #[.pointer (some ⟨n, 0, none⟩), .pointer (some ⟨m, 0, none⟩)] .returning w fun e u' w' => e = .returned (.tuple #[]) ∧ u' = .returning ∧ w' = w := by
  refine callsD_of_wpS Tryd.func34 rfl fun c₀ cs hu => ?_
  apply wpS_seq
  apply wpS_region
  simp [wpOpsS, go_sem, recoverD, hu, Tryd.ntmps34, Exit.thenS]
  rw [show (#[Value.pointer (some ⟨n, 0, none⟩), Value.pointer (some ⟨m, 0, none⟩)] ++ ((Array.replicate 5 undef).setIfInBounds 1 Value.nilIface).setIfInBounds 0 Value.nilIface : Array Value) = #[Value.pointer (some ⟨n, 0, none⟩), Value.pointer (some ⟨m, 0, none⟩), .nilIface, .nilIface, undef, undef, undef] from rfl]
  refine wpS_of_wp ?_
  go_wp2
  cases c₀
  simp_all [bodyPostS, results, Tryd.results34]

/-- Reading one setting after the other. -/
def PS.run : PS → List (List UInt8) → Option PS
  | st, [] => some st
  | st, x :: xs => match st.step x with
    | none => none
    | some st2 => st2.run xs
def PS.start : PS := ⟨60, 1024, 1024, 1024, false, false, false, false⟩
/-- What config.Parse reads; none: it is no text of settings. -/
def parsed (s : List UInt8) : Option PS := if s = [] then some PS.start else PS.start.run (spl 32 s)

theorem run_append (xs ys : List (List UInt8)) : ∀ st : PS, st.run (xs ++ ys) = (st.run xs).bind fun st2 => st2.run ys := by
  induction xs with
  | nil => intro st; rfl
  | cons x xs ih =>
    intro st
    simp only [List.cons_append, PS.run]
    cases st.step x with
    | none => rfl
    | some st2 => exact ih st2

/-- strings.Split at a space: the new row of strings. -/
theorem split_any (s : List UInt8) (w : World) (hG : G w) (hs : s.length ≤ 4294967280) :
    Calls Tryd.prog 20 #[.string ⟨s.toArray⟩, .string ⟨#[32]⟩] w fun e w' => e = .returned (.slice (some ⟨w.heap.size, 0, none⟩) (spl 32 s).length (spl 32 s).length) ∧ w' = w.alloc (.cells ((spl 32 s).map fun x => Value.string ⟨x.toArray⟩).toArray 9) := by
  obtain ⟨m, hm⟩ := hG.mxl
  refine (Tryd.strings_Split ⟨s.toArray⟩ ⟨#[32]⟩ m w (by simp [ByteArray.size]; omega) hm (by decide)).mono fun e w' ⟨he, hw⟩ => ?_
  have h1 : Lib.countB ⟨s.toArray⟩ ⟨#[32]⟩ + 1 = (spl 32 s).length := (spl_count 32 _ s (Nat.le_refl _)).symm
  have h2 := Lib.splitB_data ⟨#[32]⟩ 0 (Lib.countB ⟨s.toArray⟩ ⟨#[32]⟩) ⟨s.toArray⟩
  have h3 : Lib.splitK (⟨#[32]⟩ : ByteArray).data.toList 0 (Lib.countB ⟨s.toArray⟩ ⟨#[32]⟩) (⟨s.toArray⟩ : ByteArray).data.toList = spl 32 s := split_eq 32 _ s (Nat.le_refl _)
  rw [h3] at h2
  rw [h1] at he
  refine ⟨he, ?_⟩
  rw [hw, ← h2, List.map_map]
  rfl

theorem set_quad {w : World} {n : Nat} {t : TypeId} {x0 x1 x2 x3 : Value} (h : w.heap[n]? = some (.cells #[x0, x1, x2, x3] t (0, 0))) (a b c d : Int) :
    ((((w.setCell ⟨n, 0, none⟩ (.int .i64 a)).setCell ⟨n, 1, none⟩ (.int .i64 b)).setCell ⟨n, 2, none⟩ (.int .i64 c)).setCell ⟨n, 3, none⟩ (.int .i64 d)).heap[n]? = some (.cells #[.int .i64 a, .int .i64 b, .int .i64 c, .int .i64 d] t (0, 0)) := by
  rw [set_same (set_same (set_same (set_same h)))]
  rfl
theorem below_quad {W w : World} {B n : Nat} (h : Below B W w) (hB : B ≤ n) (a b c d : Value) : Below B W ((((w.setCell ⟨n, 0, none⟩ a).setCell ⟨n, 1, none⟩ b).setCell ⟨n, 2, none⟩ c).setCell ⟨n, 3, none⟩ d) :=
  (((h.setCell hB _).setCell hB _).setCell hB _).setCell hB _
theorem other_quad {w : World} {n k : Nat} (h : k ≠ n) (a b c d : Value) : ((((w.setCell ⟨n, 0, none⟩ a).setCell ⟨n, 1, none⟩ b).setCell ⟨n, 2, none⟩ c).setCell ⟨n, 3, none⟩ d).heap[k]? = w.heap[k]? :=
  ((((Below.heap_setCell _ ⟨n, 3, none⟩ _ k h).trans (Below.heap_setCell _ ⟨n, 2, none⟩ _ k h)).trans (Below.heap_setCell _ ⟨n, 1, none⟩ _ k h)).trans (Below.heap_setCell _ ⟨n, 0, none⟩ _ k h))

/-- The results' two variables, in blocks n and n + 1. -/
structure Res (n : Nat) (a b c d x : Int) (w : World) : Prop where
  lh : w.heap[n]? = some (.cells #[.int .i64 a, .int .i64 b, .int .i64 c, .int .i64 d] 24 (0, 0))
  xh : w.heap[n + 1]? = some (.cells #[.int .i64 x] 25 (0, 0))
theorem Res.lt {n : Nat} {a b c d x : Int} {w : World} (h : Res n a b c d x w) : n < w.heap.size ∧ n + 1 < w.heap.size := ⟨(Array.getElem?_eq_some_iff.1 h.lh).1, (Array.getElem?_eq_some_iff.1 h.xh).1⟩
theorem Res.on {n : Nat} {a b c d x : Int} {w w' : World} {B : Nat} (h : Res n a b c d x w) (hB : n + 1 < B) (hb : Below B w w') : Res n a b c d x w' := ⟨(hb.block _ (by omega)).trans h.lh, (hb.block _ hB).trans h.xh⟩
theorem Res.put {n : Nat} {a b c d x : Int} {w : World} (h : Res n a b c d x w) (a' b' c' d' : Int) : Res n a' b' c' d' x ((((w.setCell ⟨n, 0, none⟩ (.int .i64 a')).setCell ⟨n, 1, none⟩ (.int .i64 b')).setCell ⟨n, 2, none⟩ (.int .i64 c')).setCell ⟨n, 3, none⟩ (.int .i64 d')) :=
  ⟨set_quad h.lh _ _ _ _, (other_quad (by omega) _ _ _ _).trans h.xh⟩
theorem Res.err {n : Nat} {a b c d x : Int} {w : World} (h : Res n a b c d x w) (x' : Int) : Res n a b c d x' (w.setCell ⟨n + 1, 0, none⟩ (.int .i64 x')) :=
  ⟨(Below.heap_setCell _ _ _ _ (by show n ≠ n + 1; omega)).trans h.lh, by rw [set_same h.xh]; rfl⟩
/-- The facts on the results' cells that the walk uses. -/
theorem Res.cells {n : Nat} {a b c d x : Int} {w : World} (h : Res n a b c d x w) :
    (w.cell? ⟨n, 0, none⟩ = some (.int .i64 a) ∧ w.cell? ⟨n, 1, none⟩ = some (.int .i64 b) ∧ w.cell? ⟨n, 2, none⟩ = some (.int .i64 c) ∧ w.cell? ⟨n, 3, none⟩ = some (.int .i64 d) ∧ w.cell? ⟨n + 1, 0, none⟩ = some (.int .i64 x)) ∧
    (w.frozen? ⟨n, 0, none⟩ = false ∧ w.frozen? ⟨n, 1, none⟩ = false ∧ w.frozen? ⟨n, 2, none⟩ = false ∧ w.frozen? ⟨n, 3, none⟩ = false ∧ w.frozen? ⟨n + 1, 0, none⟩ = false) :=
  ⟨⟨cells_of_block h.lh 0, cells_of_block h.lh 1, cells_of_block h.lh 2, cells_of_block h.lh 3, cells_of_block h.xh 0⟩, frozen_of_block h.lh 0, frozen_of_block h.lh 1, frozen_of_block h.lh 2, frozen_of_block h.lh 3, frozen_of_block h.xh 0⟩
end Go.Proofs.YtlnfpkknhmiegaaDoor
