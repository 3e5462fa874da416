/- What the rows' list of package-level variables says of memory. -/
import Derived.Test.YtlnfpkknhmiegaaDoorCards
import Derived.Test.YtlnfpkknhmiegaaDoorTie
import Derived.Test.YtlnfpkknhmiegaaDoorA3
import Derived.WalkKit
import Derived.ProofKit
import Derived.OpenShut
import Derived.Deep.DeepHandedRow
import Derived.Deep.DeepWitnessRowRef
import Derived.Lib.LaidTab
import Derived.Lib.SmallJoins
import Derived.Stop.LaidErr
import Derived.Shelf.Vars
import Derived.Deep.Strs
namespace Go.Proofs.YtlnfpkknhmiegaaDoor
open Go Go.RowKit

/-- The list that every row of this seat bears. -/
def laidL : List (String × DataW Unit) := [("math/bits.deBruijn32tab", Rows.laid_math_bits_deBruijn32tab), ("math/bits.deBruijn64tab", Rows.laid_math_bits_deBruijn64tab), ("internal/strconv.uint64pow10", Rows.laid_internal_strconv_uint64pow10), ("unicode/utf8.acceptRanges", Rows.laid_unicode_utf8_acceptRanges), ("strconv.ErrRange", Rows.laid_strconv_ErrRange), ("strconv.ErrSyntax", Rows.laid_strconv_ErrSyntax), ("seepage/config.rows", Rows.laid_seepage_config_rows), ("unicode/utf8.first", Rows.laid_unicode_utf8_first)]

theorem own : ownKnob Tryd.prog.godebug = none := by kernel_rfl
theorem gRows : Tryd.prog.globalNamed "seepage/config.rows" = some 0 := by kernel_rfl
theorem gRowsType : (Tryd.prog.globals[0]?).map (·.type) = some 77 := by kernel_rfl
theorem gPowType : (Tryd.prog.globals[1]?).map (·.type) = some 120 := by kernel_rfl
theorem gSynType : (Tryd.prog.globals[5]?).map (·.type) = some 71 := by kernel_rfl
theorem gRngType : (Tryd.prog.globals[6]?).map (·.type) = some 71 := by kernel_rfl
theorem cells120 : Tryd.prog.cellsOf 120 = 20 := by kernel_rfl
theorem cells29 : Tryd.prog.cellsOf 29 = 1 := by kernel_rfl
theorem cells77 : Tryd.prog.cellsOf 77 = 12 := by kernel_rfl
theorem cells76 : Tryd.prog.cellsOf 76 = 3 := by kernel_rfl
theorem cells9 : Tryd.prog.cellsOf 9 = 1 := by kernel_rfl
theorem cells2 : Tryd.prog.cellsOf 2 = 1 := by kernel_rfl
theorem cells151 : Tryd.prog.cellsOf 151 = 1 := by kernel_rfl

theorem laidMet_of {W : World} (h : laidMetH Tryd.prog laidL W) : laidMet Tryd.prog laidL W := h

/-- One row of config's table. -/
theorem row_of {W : World} {fuel : Nat} {c0 c1 c2 : Value} {nm : List UInt8} {lo hi : Int} {p : List MemPlace}
    (h : DataW.trod (fun _ => ()) Tryd.prog W 0 (fun _ => true) false fuel 76 [c0, c1, c2] = some (.agg [.lit (.string nm), .lit (.int .i64 lo), .lit (.int .i64 hi)], p)) :
    c0 = .string ⟨nm.toArray⟩ ∧ c1 = .int .i64 lo ∧ c2 = .int .i64 hi := by
  obtain ⟨y0, y1, y2, n, hx, _, h0, h1, h2⟩ := Go.Deep.trod_struct3 Tryd.underlying76 h
  simp only [cells9, cells2] at h0 h1 h2
  obtain ⟨s, e0, e0', _⟩ := DataW.trod_string Tryd.underlying9 h0
  obtain ⟨a, e1, e1', _⟩ := DataW.trod_int Tryd.underlying2 h1
  obtain ⟨b, e2, e2', _⟩ := DataW.trod_int Tryd.underlying2 h2
  subst e0' e1' e2'
  simp at e0 e1 e2 hx
  obtain ⟨⟨hs, ha, hb⟩, _⟩ := hx
  subst e0 e1 e2 ha hb
  refine ⟨?_, rfl, rfl⟩
  congr 1
  apply ByteArray.ext
  rw [hs]

theorem laid_tab {W : World} {r : List (String × DataW Unit)} (h : laidMet Tryd.prog (("seepage/config.rows", Rows.laid_seepage_config_rows) :: r) W) : Tab W := by
  obtain ⟨ps, ⟨g, t, cs, fuel, p, q, hg, ht, hv, hd, -, -⟩, -⟩ := h
  obtain rfl := Option.some.inj (gRows.symm.trans hg)
  obtain rfl := Option.some.inj (gRowsType.symm.trans ht)
  obtain ⟨xs, m, _, hx, hl, hn, hf⟩ := DataW.trod_array Tryd.underlying77 hd
  rw [cells77] at hl
  rw [cells76] at hf
  have hc : ∀ i, W.cell? ⟨0, i, none⟩ = cs[i]? := fun i => World.var?_cell gRows hv i
  match xs, hn with
  | [x0, x1, x2, x3], _ =>
    obtain ⟨l⟩ := cs
    match l, hl with
    | [c0, c1, c2, c3, c4, c5, c6, c7, c8, c9, c10, c11], _ =>
      have h0 := hf 0 (by decide)
      have h1 := hf 1 (by decide)
      have h2 := hf 2 (by decide)
      have h3 := hf 3 (by decide)
      simp at h0 h1 h2 h3
      simp only [Rows.laid_seepage_config_rows, List.map_cons, List.map_nil, Prod.mk.injEq, DataW.agg.injEq, List.cons.injEq, and_true] at hx
      obtain ⟨⟨e0, e1, e2, e3⟩, _⟩ := hx
      obtain ⟨d0, p0⟩ := x0
      obtain ⟨d1, p1⟩ := x1
      obtain ⟨d2, p2⟩ := x2
      obtain ⟨d3, p3⟩ := x3
      simp only at e0 e1 e2 e3
      subst e0 e1 e2 e3
      obtain ⟨rfl, rfl, rfl⟩ := row_of h0
      obtain ⟨rfl, rfl, rfl⟩ := row_of h1
      obtain ⟨rfl, rfl, rfl⟩ := row_of h2
      obtain ⟨rfl, rfl, rfl⟩ := row_of h3
      exact ⟨hc 0, hc 1, hc 2, hc 3, hc 4, hc 5, hc 6, hc 7, hc 8, hc 9, hc 10, hc 11⟩

theorem star : "*" ++ "errors.errorString" = "*errors.errorString" := by decide
theorem errNamed : ∀ u, Tryd.prog.typeName? 3 u = some "*errors.errorString" → u = 149 := fun u h =>
  typeName_ptr_named (nm := "errors.errorString") (by rw [star]; kernel_rfl) (by kernel_rfl) (by decide) u (by rw [star]; exact h)
theorem gBru : Tryd.prog.globalNamed "math/bits.deBruijn64tab" = some 8 := by kernel_rfl

/-- What a row's list, and the world's shape, say of the package-level variables. -/
theorem laid_G {W : World} (h : laidMetH Tryd.prog laidL W) (hsh : W.ShapedOpen Tryd.prog) : G W := by
  have h2 := (laidMet_of h).tail.tail
  have h4 := h2.tail.tail
  have h6 := h4.tail.tail
  obtain ⟨a5, s5, hv5, -⟩ := laid_sentinel h4 gRng gRngType Tryd.underlying71 errNamed Tryd.underlying149 Tryd.underlying151 rfl rfl Tryd.underlying9 cells151 cells9
  obtain ⟨a6, s6, hv6, -⟩ := laid_sentinel h4.tail gSyn gSynType Tryd.underlying71 errNamed Tryd.underlying149 Tryd.underlying151 rfl rfl Tryd.underlying9 cells151 cells9
  have hm := cell_of_shapedOpen_int (g := 2) (t := 3) (zero := #[.int .i64 0]) hsh (by decide +kernel) (by kernel_rfl) rfl (by kernel_rfl) (by kernel_rfl) Tryd.underlying3
  have h8 : 9 ≤ W.heap.size := by
    obtain ⟨ps, ⟨g, t, cs, fuel, p, q, hg, ht, hv, -⟩, -⟩ := (laidMet_of h).tail
    simp only [World.var?, gBru, Option.bind_some] at hv
    cases hw : W.heap[8]? with
    | none => rw [hw] at hv; simp at hv
    | some o => exact (Array.getElem?_eq_some_iff.1 hw).1
  exact ⟨h8, laid_tab h6, Lib.tabIs_of_head gPow gPowType Tryd.underlying120 Tryd.underlying29 cells29 cells120 h2, hm, ⟨_, _, hv6⟩, ⟨_, _, hv5⟩⟩
end Go.Proofs.YtlnfpkknhmiegaaDoor
