/- The contract of config.Text. -/
import Derived.Test.YtlnfpkknhmiegaaDoorA2
import Derived.Test.YtlnfpkknhmiegaaDoorS1
import Derived.Test.YtlnfpkknhmiegaaDoorS2
import Derived.Deep.RegionHeld3
import Derived.Lib.ItoaLen
namespace Go.Proofs.YtlnfpkknhmiegaaDoor
open Go Go.RowKit
attribute [local go_sem] ix0 ix1 ix2 ix3

/-- What the package-level variables hold. -/
structure G (w : World) : Prop where
  big : 9 ≤ w.heap.size
  tab : Tab w
  pow : Lib.TabIs Tryd.prog w "internal/strconv.uint64pow10" .u64 Lib.pow10Tab
  mxl : ∃ m : Int, w.cell? ⟨2, 0, none⟩ = some (.int .i64 m)
  syn : ∃ tp p, w.var? Tryd.prog "strconv.ErrSyntax" = some #[.iface tp p]
  rng : ∃ tp p, w.var? Tryd.prog "strconv.ErrRange" = some #[.iface tp p]

theorem gPow : Tryd.prog.globalNamed "internal/strconv.uint64pow10" = some 1 := by kernel_rfl
theorem gSyn : Tryd.prog.globalNamed "strconv.ErrSyntax" = some 5 := by kernel_rfl
theorem gRng : Tryd.prog.globalNamed "strconv.ErrRange" = some 6 := by kernel_rfl

theorem var_of_block {w w' : World} {n : String} {g : Nat} (hg : Tryd.prog.globalNamed n = some g) (h : w'.heap[g]? = w.heap[g]?) : w'.var? Tryd.prog n = w.var? Tryd.prog n := by
  simp [World.var?, hg, h]

theorem G.below {w w' : World} (h : G w) {B : Nat} (hB : 9 ≤ B) (hb : Below B w w') : G w' where
  big := Nat.le_trans h.big hb.size
  tab := h.tab.below (by omega) hb
  pow := (var_of_block gPow (hb.block 1 (by omega))).trans h.pow
  mxl := by obtain ⟨m, hm⟩ := h.mxl; exact ⟨m, (hb.cell (p := ⟨2, 0, none⟩) (by show 2 < B; omega)).trans hm⟩
  syn := by obtain ⟨tp, p, hm⟩ := h.syn; exact ⟨tp, p, (var_of_block gSyn (hb.block 5 (by omega))).trans hm⟩
  rng := by obtain ⟨tp, p, hm⟩ := h.rng; exact ⟨tp, p, (var_of_block gRng (hb.block 6 (by omega))).trans hm⟩
theorem G.on {w w' : World} (h : G w) (hb : Below w.heap.size w w') : G w' := h.below h.big hb

theorem G.drew {w : World} (h : G w) : G w.drew := h.on (Below.refl _ _).drew
theorem below_grow (w : World) (n : Nat) (os : Array Obj) : Below w.heap.size w (Sort.grow (w.drewN n) os) := by
  refine ⟨rfl, rfl, rfl, ?_, fun k hk => ?_⟩
  · show w.heap.size ≤ (w.heap ++ os).size
    simp
  · show (w.heap ++ os)[k]? = _
    rw [Array.getElem?_append_left hk]

theorem builder_below {T e : TypeId} {B b : Nat} {bs : List Value} {w w' : World} (h : Lib.IsBuilderF T e B b bs w) (hb : Below w.heap.size w w') : Lib.IsBuilderF T e B b bs w' := by
  have one : ∀ {p}, Lib.BuilderAtF T e B b p bs w → Lib.BuilderAtF T e B b p bs w' := by
    intro p h
    have hlt := h.lt
    obtain ⟨hB, v, hbl, hown, hne⟩ := h
    exact ⟨hB, v, (hb.block b hlt).trans hbl, hown.kept (row := none) ⟨hb.os, hb.tape, hb.output, hb.size, fun i hi _ => hb.block i hi⟩ (by cases hv : v.ownBlock <;> simp), hne⟩
  exact h.elim (fun x => .inl (one x)) (fun x => .inr (one x))

/-- A setting's name and the sign behind it. -/
def pre0 : List UInt8 := [119, 105, 110, 100, 111, 119, 61]
def pre1 : List UInt8 := [101, 100, 103, 101, 115, 61]
def pre2 : List UInt8 := [118, 101, 114, 116, 115, 61]
def pre3 : List UInt8 := [100, 114, 97, 119, 115, 61]
theorem cat0 (W : World) : (Op.stringOp .add sWindow ⟨#[61]⟩).run Tryd.prog W = .ok (.string ⟨pre0.toArray⟩) W := by rw [run_string_add_sum W _ _ (by decide +kernel)]; rfl
theorem cat1 (W : World) : (Op.stringOp .add sEdges ⟨#[61]⟩).run Tryd.prog W = .ok (.string ⟨pre1.toArray⟩) W := by rw [run_string_add_sum W _ _ (by decide +kernel)]; rfl
theorem cat2 (W : World) : (Op.stringOp .add sVerts ⟨#[61]⟩).run Tryd.prog W = .ok (.string ⟨pre2.toArray⟩) W := by rw [run_string_add_sum W _ _ (by decide +kernel)]; rfl
theorem cat3 (W : World) : (Op.stringOp .add sDraws ⟨#[61]⟩).run Tryd.prog W = .ok (.string ⟨pre3.toArray⟩) W := by rw [run_string_add_sum W _ _ (by decide +kernel)]; rfl
theorem catn (x : List UInt8) (hx : x.length ≤ 7) (n : Int) (h0 : -9223372036854775808 ≤ n) (h1 : n ≤ 9223372036854775807) (W : World) : (Op.stringOp .add ⟨x.toArray⟩ ⟨(Lib.itoa n).toArray⟩).run Tryd.prog W = .ok (.string ⟨(x ++ Lib.itoa n).toArray⟩) W :=
  run_string_add_lists W _ _ (by omega) (by have := Lib.itoa_length_le n h0 h1; omega)
attribute [local go_sem ↓] cat0 cat1 cat2 cat3

/-- The text of a configuration, as bytes. -/
def textL (a b c d : Int) : List UInt8 :=
  pre0 ++ Lib.itoa a ++ [32] ++ (pre1 ++ Lib.itoa b) ++ [32] ++ (pre2 ++ Lib.itoa c) ++ [32] ++ (pre3 ++ Lib.itoa d)

theorem quad_at {w : World} {n : Nat} {t : TypeId} {a b c d : Int} (h : w.heap[n]? = some (.cells #[.int .i64 a, .int .i64 b, .int .i64 c, .int .i64 d] t (0, 0))) :
    n < w.heap.size ∧ w.cell? ⟨n, 0, none⟩ = some (.int .i64 a) ∧ w.cell? ⟨n, 1, none⟩ = some (.int .i64 b) ∧ w.cell? ⟨n, 2, none⟩ = some (.int .i64 c) ∧ w.cell? ⟨n, 3, none⟩ = some (.int .i64 d) :=
  ⟨(Array.getElem?_eq_some_iff.1 h).1, cells_of_block h 0, cells_of_block h 1, cells_of_block h 2, cells_of_block h 3⟩

/-- strconv.FormatInt in base 10. -/
theorem fmt_any (n : Int) (h0 : -9223372036854775808 ≤ n) (h1 : n ≤ 9223372036854775807) (w : World) (hG : G w) :
    Calls Tryd.prog 44 #[.int .i64 n, .int .i64 10] w fun e w' => e = .returned (.string ⟨(Lib.itoa n).toArray⟩) ∧ Below w.heap.size w w' ∧ G w' :=
  (Tryd.strconv_FormatInt_10 n h0 h1 w hG.pow).mono fun e w' ⟨he, k, os, hw⟩ => by
    subst hw
    exact ⟨he, below_grow w k os, hG.on (below_grow w k os)⟩

/-- WriteString, WriteByte and String at a builder that this call has made. -/
theorem wstr_any (B : Nat) (l : List UInt8) (s : ByteArray) (w : World) (h9 : 9 ≤ B) (hG : G w) (h : Lib.IsBuilderF 69 5 B B (Lib.byteCells l) w) (hlen : l.length + s.size ≤ 140737488355328) :
    Calls Tryd.prog 43 #[.pointer (some ⟨B, 0, none⟩), .string s] w fun e w' => e = .returned (.tuple #[.int .i64 s.size, .nilIface]) ∧ Lib.IsBuilderF 69 5 B B (Lib.byteCells (l ++ s.data.toList)) w' ∧ Below B w w' ∧ G w' := by
  have hlt : B < w.heap.size := h.elim (fun x => x.lt) (fun x => x.lt)
  refine (Tryd.Builder_WriteString_k B B _ s w h (by rw [Lib.byteCells_length]; exact hlen) (by omega)).mono fun e w' ⟨he, hb, hbl, _⟩ => ?_
  rw [Lib.byteCells_append, ← Lib.strCells_eq]
  exact ⟨he, .inr hb, hbl, hG.below h9 hbl⟩
theorem wbyte_any (B : Nat) (l : List UInt8) (c : UInt8) (w : World) (h9 : 9 ≤ B) (hG : G w) (h : Lib.IsBuilderF 69 5 B B (Lib.byteCells l) w) (hlen : l.length + 1 ≤ 140737488355328) :
    Calls Tryd.prog 42 #[.pointer (some ⟨B, 0, none⟩), .int .u8 c.toNat] w fun e w' => e = .returned .nilIface ∧ Lib.IsBuilderF 69 5 B B (Lib.byteCells (l ++ [c])) w' ∧ Below B w w' ∧ G w' := by
  have hlt : B < w.heap.size := h.elim (fun x => x.lt) (fun x => x.lt)
  refine (Tryd.Builder_WriteByte_k B B _ _ w h (by rw [Lib.byteCells_length]; exact hlen) (by omega)).mono fun e w' ⟨he, hb, hbl, _⟩ => ?_
  rw [Lib.byteCells_append]
  exact ⟨he, .inr hb, hbl, hG.below h9 hbl⟩
theorem bstr_any (B : Nat) (l : List UInt8) (w : World) (h9 : 9 ≤ B) (hG : G w) (h : Lib.IsBuilderF 69 5 B B (Lib.byteCells l) w) :
    Calls Tryd.prog 45 #[.pointer (some ⟨B, 0, none⟩)] w fun e w' => e = .returned (.string ⟨l.toArray⟩) ∧ Below B w w' ∧ G w' := by
  have hlt : B < w.heap.size := h.elim (fun x => x.lt) (fun x => x.lt)
  exact (Tryd.Builder_String_any_f B B l w h (by omega)).mono fun e w' ⟨he, _, hbl⟩ => ⟨he, hbl, hG.below h9 hbl⟩

/-- Where a text that is being written stands: the builder in block B holds the bytes l; what was there when the call began is as it was. -/
structure St (w0 : World) (B : Nat) (l : List UInt8) (w : World) : Prop where
  g : G w
  bu : Lib.IsBuilderF 69 5 B B (Lib.byteCells l) w
  fr : Below w0.heap.size w0 w
  lo : w0.heap.size ≤ B
  nine : 9 ≤ B
theorem St.drew {w0 : World} {B : Nat} {l : List UInt8} {w : World} (h : St w0 B l w) : St w0 B l w.drew := ⟨h.g.drew, builder_below h.bu (Below.refl _ _).drew, h.fr.drew, h.lo, h.nine⟩
theorem St.n0 {w0 : World} {B : Nat} {l : List UInt8} {w : World} (h : St w0 B l w) : w.cell? ⟨0, 0, none⟩ = some (.string sWindow) := h.g.tab.n0
theorem St.n1 {w0 : World} {B : Nat} {l : List UInt8} {w : World} (h : St w0 B l w) : w.cell? ⟨0, 3, none⟩ = some (.string sEdges) := h.g.tab.n1
theorem St.n2 {w0 : World} {B : Nat} {l : List UInt8} {w : World} (h : St w0 B l w) : w.cell? ⟨0, 6, none⟩ = some (.string sVerts) := h.g.tab.n2
theorem St.n3 {w0 : World} {B : Nat} {l : List UInt8} {w : World} (h : St w0 B l w) : w.cell? ⟨0, 9, none⟩ = some (.string sDraws) := h.g.tab.n3

theorem fmt_st {w0 : World} {B : Nat} {l : List UInt8} (n : Int) (h0 : -9223372036854775808 ≤ n) (h1 : n ≤ 9223372036854775807) (w : World) (h : St w0 B l w) :
    Calls Tryd.prog 44 #[.int .i64 n, .int .i64 10] w fun e w' => e = .returned (.string ⟨(Lib.itoa n).toArray⟩) ∧ St w0 B l w' :=
  (fmt_any n h0 h1 w h.g).mono fun _ _ ⟨he, hb, hG⟩ => ⟨he, hG, builder_below h.bu hb, h.fr.trans (hb.mono h.fr.size), h.lo, h.nine⟩
theorem wstr_st {w0 : World} {B : Nat} {l : List UInt8} (s : List UInt8) (w : World) (h : St w0 B l w) (hlen : l.length + s.length ≤ 140737488355328) :
    Calls Tryd.prog 43 #[.pointer (some ⟨B, 0, none⟩), .string ⟨s.toArray⟩] w fun e w' => e = .returned (.tuple #[.int .i64 s.length, .nilIface]) ∧ St w0 B (l ++ s) w' := by
  have hs : (⟨s.toArray⟩ : ByteArray).size = s.length := by simp [ByteArray.size]
  refine (wstr_any B l ⟨s.toArray⟩ w h.nine h.g h.bu (by rw [hs]; exact hlen)).mono fun e w' ⟨he, hbu, hb, hG⟩ => ?_
  rw [hs] at he
  exact ⟨he, hG, by simpa using hbu, h.fr.trans (hb.mono h.lo), h.lo, h.nine⟩
theorem wsp_st {w0 : World} {B : Nat} {l : List UInt8} (w : World) (h : St w0 B l w) (hlen : l.length + 1 ≤ 140737488355328) :
    Calls Tryd.prog 42 #[.pointer (some ⟨B, 0, none⟩), .int .u8 32] w fun e w' => e = .returned .nilIface ∧ St w0 B (l ++ [32]) w' :=
  (wbyte_any B l 32 w h.nine h.g h.bu hlen).mono fun _ _ ⟨he, hbu, hb, hG⟩ => ⟨he, hG, hbu, h.fr.trans (hb.mono h.lo), h.lo, h.nine⟩
theorem bstr_st {w0 : World} {B : Nat} {l : List UInt8} (w : World) (h : St w0 B l w) :
    Calls Tryd.prog 45 #[.pointer (some ⟨B, 0, none⟩)] w fun e w' => e = .returned (.string ⟨l.toArray⟩) ∧ Below w0.heap.size w0 w' :=
  (bstr_any B l w h.nine h.g h.bu).mono fun _ _ ⟨he, hb, _⟩ => ⟨he, h.fr.trans (hb.mono h.lo)⟩

theorem pre_len (x : List UInt8) (hx : x.length ≤ 7) (n : Int) (h0 : -9223372036854775808 ≤ n) (h1 : n ≤ 9223372036854775807) : (x ++ Lib.itoa n).length ≤ 28 := by
  have := Lib.itoa_length_le n h0 h1
  simp; omega

set_option maxRecDepth 100000 in
set_option maxHeartbeats 1000000 in
theorem text_ok (a b c d : Int) (w : World) (hG : G w) (hv : Valid a b c d) :
    Calls Tryd.prog 16 #[quad a b c d] w fun e w' => e = .returned (.tuple #[.string ⟨(textL a b c d).toArray⟩, .int .i64 0]) ∧ Below w.heap.size w w' := by
  have hp := hG.big
  have hV := Lib.hid hv
  have HG := Lib.hid hG; clear hG hv
  go_enter Tryd.func16, Tryd.ntmps16
  go_wp2_with (go_at_call 18; refine (check_ok _ _ _ _ _ (HG.out.tab.below (Nat.lt_of_lt_of_le (by decide) hp) ((Below.refl _ _).alloc (Nat.le_refl _) _)) hV.out).mono ?_; rintro e w1 ⟨rfl, hb⟩; refine Hid.out ?_)
  have hb1 : Below w.heap.size w w1 := ((Below.refl _ _).alloc (Nat.le_refl _) _).trans (hb.mono (by simp))
  obtain ⟨hz, k0, k1, k2, k3⟩ := quad_at (n := w.heap.size) ((hb.block _ (by simp)).trans (block_new w _ _ rfl))
  clear hb
  have HB1 := Lib.hid hb1; clear hb1
  refine Lib.hid ?_
  go_wp2_with (go_at_call 35; refine (fields_any _ _ _ _ _).mono ?_; rintro e w2 ⟨rfl, hb⟩; refine Hid.out ?_)
  have hS0 : St w w1.heap.size [] w2 := by
    have hf : Below w.heap.size w w2 := (HB1.out.alloc (Nat.le_of_lt hz) _).trans (hb.mono (by simp; omega))
    exact ⟨HG.out.on hf, builder_below (Lib.IsBuilderF.of (Lib.fresh_isBuilder 69 5 w1)) hb, hf, by omega, by omega⟩
  clear hb k0 k1 k2 k3 hp HG HB1 hz
  obtain ⟨v1, v2, v3, v4, v5, v6, v7, v8⟩ := hV.out
  have ha := catn pre0 (by decide) a (by omega) (by omega)
  have hb := catn pre1 (by decide) b (by omega) (by omega)
  have hc := catn pre2 (by decide) c (by omega) (by omega)
  have hd := catn pre3 (by decide) d (by omega) (by omega)
  have za := pre_len pre0 (by decide) a (by omega) (by omega)
  have zb := pre_len pre1 (by decide) b (by omega) (by omega)
  have zc := pre_len pre2 (by decide) c (by omega) (by omega)
  have zd := pre_len pre3 (by decide) d (by omega) (by omega)
  generalize hT0 : pre0 ++ Lib.itoa a = A at *
  generalize hT1 : pre1 ++ Lib.itoa b = B at *
  generalize hT2 : pre2 ++ Lib.itoa c = C at *
  generalize hT3 : pre3 ++ Lib.itoa d = D at *
  have HT : Hid (textL a b c d = A ++ [32] ++ B ++ [32] ++ C ++ [32] ++ D) := by rw [← hT0, ← hT1, ← hT2, ← hT3]; rfl
  clear hT0 hT1 hT2 hT3
  refine Lib.hid ?_
  go_wp2
  refine wp_loop_rounds 5 ?_
  rw [rounds_succ]; go_wp2
  go_region_held3 (fun W => W.cell? ⟨0, 0, none⟩ = some (.string sWindow)) (first | exact hS0.drew.n0 | exact St.n0 (by assumption))
    (first
      | (go_at_call 44; refine (fmt_st a ?_ ?_ _ hS0.drew).mono ?_; omega; omega; rintro e w3 ⟨rfl, hS1⟩)
      | (go_at_call 43; refine (wstr_st A _ hS1 ?_).mono ?_; (simp; omega); rintro e w4 ⟨rfl, hS2⟩))
  clear hS1
  go_wp2; rw [rounds_succ]
  go_wp2_with (go_at_call 42; refine (wsp_st _ hS2 ?_).mono ?_; (simp; omega); rintro e w3 ⟨rfl, hS3⟩; clear hS2)
  go_region_held3 (fun W => W.cell? ⟨0, 3, none⟩ = some (.string sEdges)) (first | exact hS3.drew.n1 | exact St.n1 (by assumption))
    (first
      | (go_at_call 44; refine (fmt_st b ?_ ?_ _ hS3.drew).mono ?_; omega; omega; rintro e w4 ⟨rfl, hS1⟩)
      | (go_at_call 43; refine (wstr_st B _ hS1 ?_).mono ?_; (simp; omega); rintro e w5 ⟨rfl, hS2⟩))
  clear hS3
  clear hS1
  go_wp2; rw [rounds_succ]
  go_wp2_with (go_at_call 42; refine (wsp_st _ hS2 ?_).mono ?_; (simp; omega); rintro e w3 ⟨rfl, hS3⟩; clear hS2)
  go_region_held3 (fun W => W.cell? ⟨0, 6, none⟩ = some (.string sVerts)) (first | exact hS3.drew.n2 | exact St.n2 (by assumption))
    (first
      | (go_at_call 44; refine (fmt_st c ?_ ?_ _ hS3.drew).mono ?_; omega; omega; rintro e w4 ⟨rfl, hS1⟩)
      | (go_at_call 43; refine (wstr_st C _ hS1 ?_).mono ?_; (simp; omega); rintro e w5 ⟨rfl, hS2⟩))
  clear hS3
  clear hS1
  go_wp2; rw [rounds_succ]
  go_wp2_with (go_at_call 42; refine (wsp_st _ hS2 ?_).mono ?_; (simp; omega); rintro e w3 ⟨rfl, hS3⟩; clear hS2)
  go_region_held3 (fun W => W.cell? ⟨0, 9, none⟩ = some (.string sDraws)) (first | exact hS3.drew.n3 | exact St.n3 (by assumption))
    (first
      | (go_at_call 44; refine (fmt_st d ?_ ?_ _ hS3.drew).mono ?_; omega; omega; rintro e w4 ⟨rfl, hS1⟩)
      | (go_at_call 43; refine (wstr_st D _ hS1 ?_).mono ?_; (simp; omega); rintro e w5 ⟨rfl, hS2⟩))
  clear hS3
  clear hS1
  go_wp2; rw [rounds_succ]
  go_wp2_with (go_at_call 45; refine (bstr_st _ hS2).mono ?_; rintro e w3 ⟨rfl, hB⟩; have HB := Lib.hid hB; clear hB)
  go_ret2
  exact ⟨by rw [HT.out]; simp, HB.out⟩
end Go.Proofs.YtlnfpkknhmiegaaDoor
