/- The contract of the statements' own 'works'. -/
import Derived.Test.YtlnfpkknhmiegaaDoorB2
import Derived.Test.YtlnfpkknhmiegaaDoorA11
import Derived.Deep.RegionHeld3
namespace Go.Proofs.YtlnfpkknhmiegaaDoor
open Go Go.RowKit

theorem valid_default : Valid 60 1024 1024 1024 := by unfold Valid; omega
abbrev sEx : ByteArray := ⟨#[119, 105, 110, 100, 111, 119, 61, 54, 48, 32, 101, 100, 103, 101, 115, 61, 49, 48, 50, 52, 32, 118, 101, 114, 116, 115, 61, 49, 48, 50, 52, 32, 100, 114, 97, 119, 115, 61, 49, 48, 50, 52]⟩
theorem text_default (w : World) (hG : G w) : Calls Tryd.prog 16 #[quad 60 1024 1024 1024] w fun e w' => e = .returned (.tuple #[.string sEx, .int .i64 0]) ∧ Below w.heap.size w w' := by
  have h := text_ok 60 1024 1024 1024 w hG valid_default
  rw [ex_text] at h
  exact h
theorem parse1 (w : World) (hG : G w) : Calls Tryd.prog 13 #[.string ⟨#[100, 114, 97, 119, 115, 61, 48, 32, 119, 105, 110, 100, 111, 119, 61, 53]⟩] w fun e w' => e = .returned (.tuple #[quad 5 1024 1024 0, .int .i64 0]) ∧ Below w.heap.size w w' := by
  have h := parse_any [100, 114, 97, 119, 115, 61, 48, 32, 119, 105, 110, 100, 111, 119, 61, 53] (by decide) w hG
  unfold Answers at h
  rw [ex1] at h
  exact h
theorem parse2 (w : World) (hG : G w) : Calls Tryd.prog 13 #[.string ⟨#[]⟩] w fun e w' => e = .returned (.tuple #[quad 60 1024 1024 1024, .int .i64 0]) ∧ Below w.heap.size w w' := by
  have h := parse_any [] (by decide) w hG
  unfold Answers at h
  rw [ex2] at h
  exact h
theorem parse3 (w : World) (hG : G w) : Calls Tryd.prog 13 #[.string ⟨#[119, 105, 110, 100, 111, 119, 61, 48, 53]⟩] w fun e w' => e = .returned (.tuple #[quad 0 0 0 0, .int .i64 15]) ∧ Below w.heap.size w w' := by
  have h := parse_any [119, 105, 110, 100, 111, 119, 61, 48, 53] (by decide) w hG
  unfold Answers at h
  rw [ex3] at h
  exact h
theorem parse4 (w : World) (hG : G w) : Calls Tryd.prog 13 #[.string ⟨#[118, 101, 114, 116, 115, 61, 49]⟩] w fun e w' => e = .returned (.tuple #[quad 0 0 0 0, .int .i64 2]) ∧ Below w.heap.size w w' := by
  have h := parse_any [118, 101, 114, 116, 115, 61, 49] (by decide) w hG
  unfold Answers at h
  rw [ex4] at h
  exact h

/-- A configuration in a variable of the caller's own. -/
structure Box (n : Nat) (a b c d : Int) (w : World) : Prop where
  bh : w.heap[n]? = some (.cells #[.int .i64 a, .int .i64 b, .int .i64 c, .int .i64 d] 24 (0, 0))
theorem Box.lt {n : Nat} {a b c d : Int} {w : World} (h : Box n a b c d w) : n < w.heap.size := (Array.getElem?_eq_some_iff.1 h.bh).1
theorem Box.on {n : Nat} {a b c d : Int} {w w' : World} (h : Box n a b c d w) (hb : Below w.heap.size w w') : Box n a b c d w' := ⟨(hb.block _ h.lt).trans h.bh⟩
theorem Box.alloc {n : Nat} {a b c d : Int} {w : World} (h : Box n a b c d w) (o : Obj) : Box n a b c d (w.alloc o) := h.on ((Below.refl _ _).alloc (Nat.le_refl _) _)
theorem Box.drew {n : Nat} {a b c d : Int} {w : World} (h : Box n a b c d w) : Box n a b c d w.drew := h.on (Below.refl _ _).drew
theorem Box.new (w : World) (a b c d : Int) : Box w.heap.size a b c d (w.alloc (.cells #[.int .i64 a, .int .i64 b, .int .i64 c, .int .i64 d] 24)) := ⟨block_new w _ _ rfl⟩
theorem Box.cells {n : Nat} {a b c d : Int} {w : World} (h : Box n a b c d w) : w.cell? ⟨n, 0, none⟩ = some (.int .i64 a) ∧ w.cell? ⟨n, 1, none⟩ = some (.int .i64 b) ∧ w.cell? ⟨n, 2, none⟩ = some (.int .i64 c) ∧ w.cell? ⟨n, 3, none⟩ = some (.int .i64 d) := (quad_at h.bh).2

/-- Where 'works' stands: the package's variables, and what was there when it began. -/
structure At (w0 w : World) : Prop where
  g : G w
  fr : Below w0.heap.size w0 w
theorem At.on {w0 w w' : World} (h : At w0 w) (hb : Below w.heap.size w w') : At w0 w' := ⟨h.g.on hb, h.fr.trans (hb.mono h.fr.size)⟩
theorem At.alloc {w0 w : World} (h : At w0 w) (o : Obj) : At w0 (w.alloc o) := h.on ((Below.refl _ _).alloc (Nat.le_refl _) _)
theorem At.drew {w0 w : World} (h : At w0 w) : At w0 w.drew := h.on (Below.refl _ _).drew

set_option maxRecDepth 100000 in
set_option maxHeartbeats 1000000 in
theorem works_any (w : World) (hG : G w) : Calls Tryd.prog 12 #[] w fun e w' => e = .returned (.bool true) ∧ Below w.heap.size w w' := by
  have HG : Hid (At w w) := Lib.hid ⟨hG, Below.refl _ _⟩
  clear hG
  go_enter Tryd.func12, Tryd.ntmps12
  go_wp2_with (first | (go_at_call 19; refine (default_any _).mono ?_; rintro e w1 ⟨rfl, hb⟩; have H1 := Lib.hid (HG.out.on hb); clear hb) | (go_at_call 16; refine (text_default _ H1.out.g).mono ?_; rintro e w2 ⟨rfl, hb⟩; have H2 := Lib.hid (H1.out.on hb); clear hb) | (go_at_call 13; refine (parse1 _ H2.out.g).mono ?_; rintro e w3 ⟨rfl, hb⟩; refine Hid.out ?_))
  have H3 := Lib.hid ((H2.out.on hb).alloc (.cells #[.int .i64 5, .int .i64 1024, .int .i64 1024, .int .i64 0] 24))
  have B3 := Lib.hid (Box.new w3 5 1024 1024 0)
  clear hb
  refine Lib.hid ?_
  go_wp2_with (first | (go_at_call 13; refine (parse2 _ H3.out.g).mono ?_; rintro e w4 ⟨rfl, hb⟩; refine Hid.out ?_))
  have H4 := Lib.hid ((H3.out.on hb).alloc (.cells #[.int .i64 60, .int .i64 1024, .int .i64 1024, .int .i64 1024] 24))
  have B3' := Lib.hid ((B3.out.on hb).alloc (.cells #[.int .i64 60, .int .i64 1024, .int .i64 1024, .int .i64 1024] 24))
  have B4 := Lib.hid (Box.new w4 60 1024 1024 1024)
  clear hb B3
  refine Lib.hid ?_
  go_wp2_with (first | (go_at_call 13; refine (parse3 _ H4.out.g).mono ?_; rintro e w5 ⟨rfl, hb⟩; refine Hid.out ?_))
  have H5 := Lib.hid ((H4.out.on hb).alloc (.cells #[.int .i64 0, .int .i64 0, .int .i64 0, .int .i64 0] 24))
  have B3'' := Lib.hid ((B3'.out.on hb).alloc (.cells #[.int .i64 0, .int .i64 0, .int .i64 0, .int .i64 0] 24))
  have B4' := Lib.hid ((B4.out.on hb).alloc (.cells #[.int .i64 0, .int .i64 0, .int .i64 0, .int .i64 0] 24))
  clear hb B3' B4
  refine Lib.hid ?_
  go_wp2_with (first | (go_at_call 13; refine (parse4 _ H5.out.g).mono ?_; rintro e w6 ⟨rfl, hb⟩; refine Hid.out ?_))
  have H6 := Lib.hid ((H5.out.on hb).alloc (.cells #[.int .i64 0, .int .i64 0, .int .i64 0, .int .i64 0] 24))
  have B3 := Lib.hid ((B3''.out.on hb).alloc (.cells #[.int .i64 0, .int .i64 0, .int .i64 0, .int .i64 0] 24))
  have B4 := Lib.hid ((B4'.out.on hb).alloc (.cells #[.int .i64 0, .int .i64 0, .int .i64 0, .int .i64 0] 24))
  clear hb B3'' B4'
  refine Lib.hid ?_
  go_wp2
  obtain ⟨a0, a1, a2, a3⟩ := B3.out.cells
  obtain ⟨b0, b1, b2, b3⟩ := B4.out.cells
  generalize hW : w6.alloc (.cells #[.int .i64 0, .int .i64 0, .int .i64 0, .int .i64 0] 24) = W at *
  generalize w3.heap.size = n3 at *
  generalize w4.heap.size = n4 at *
  clear hW HG H1 H2 H3 H4 H5
  go_region_held3 (fun w' => w'.cell? ⟨n3, 0, none⟩ = some (.int .i64 5) ∧ w'.cell? ⟨n3, 1, none⟩ = some (.int .i64 1024) ∧ w'.cell? ⟨n3, 2, none⟩ = some (.int .i64 1024) ∧ w'.cell? ⟨n3, 3, none⟩ = some (.int .i64 0) ∧ w'.cell? ⟨n4, 0, none⟩ = some (.int .i64 60) ∧ w'.cell? ⟨n4, 1, none⟩ = some (.int .i64 1024) ∧ w'.cell? ⟨n4, 2, none⟩ = some (.int .i64 1024) ∧ w'.cell? ⟨n4, 3, none⟩ = some (.int .i64 1024)) (first | go_keep | exact ⟨(B3.out.drew.on ‹_›).cells.1, (B3.out.drew.on ‹_›).cells.2.1, (B3.out.drew.on ‹_›).cells.2.2.1, (B3.out.drew.on ‹_›).cells.2.2.2, (B4.out.drew.on ‹_›).cells⟩)
    (first
      | (go_at_call 19; refine (default_any _).mono ?_; rintro e w7 ⟨rfl, hb7⟩))
  have H7 := Lib.hid (H6.out.drew.on hb7)
  clear hb7
  go_wp2
  go_ret
  exact ⟨rfl, H7.out.fr⟩
end Go.Proofs.YtlnfpkknhmiegaaDoor
