/- KruskalThresholds walked. Links that came in, opened. KruskalCycles walked. The row of KruskalCycles. kruskal.check, walked. kruskal.Spans, walked. The laying of slices.Sort[[]int64,int64] at this seat (printed by the kit's lay-plain.mjs: the numbers are this seat's). slices.Sort, slices.Equal over int64; kruskal.Minimal: walked. Spanning forests and their weights, in plain Lean. -/
import Derived.Test.YtobaodkcjjgkdaaMa12
import Derived.Shelf.SlGeneric
import Derived.Shelf.SlLaysNS
import Derived.Test.YtobaodkcjjgkdaaProg
import Derived.Shelf.SortG.Plain
namespace Go.Proofs.Ytobaodkcjjgkdaa
open Go Go.RowKit

theorem forest_ok (A : Option Addr) (c : Nat) (l : List Edge) (w : World) (hE : Edges A l w) (hv : Vld 30 l) (hl : l.length ≤ 16384) :
    Calls Try.prog 18 #[.int .i64 30, .slice A l.length c] w fun e w' => ∃ B cf, e = .returned (.tuple #[.slice B (accF 30 l (ordL l)).length cf, .int .i64 0]) ∧ IntsR B (accF 30 l (ordL l)) w' ∧ (accF 30 l (ordL l)).length ≤ cf ∧ Below w.heap.size w w' := by
  refine (forest_any 30 A c l w hE (by omega)).mono ?_
  rintro e w' ⟨vo, rfl, ho, hb⟩
  have h0 : newE 30 l = 0 := newE_ok (n := 30) hv (by decide) hl
  have h1 : forF 30 l = accF 30 l (ordL l) := forF_ok (n := 30) hv (by decide) hl
  rw [h1] at ho
  obtain ⟨B, cf, rfl, hO, hcf⟩ := IntsR.ofOwn ho
  exact ⟨B, cf, by rw [h0], hO, hcf, hb⟩
theorem new_ok (A : Option Addr) (c : Nat) (l : List Edge) (w : World) (hE : Edges A l w) (hv : Vld 30 l) (hl : l.length ≤ 16384) :
    Calls Try.prog 25 #[.int .i64 30, .slice A l.length c] w fun e w' => ∃ gp, e = .returned (.tuple #[.pointer (some ⟨gp, 0, none⟩), .int .i64 0]) ∧ Grf 30 l gp w' ∧ Below w.heap.size w w' := by
  refine (new_any 30 A c l w hE (by omega)).mono ?_
  rintro e w' ⟨pv, rfl, hp, hb⟩
  have h0 : newE 30 l = 0 := newE_ok (n := 30) hv (by decide) hl
  rcases hp with ⟨h, -⟩ | ⟨-, k, gp, hk, -, -, -, rfl, -, hg⟩
  · exact absurd h0 h
  · have : k = 30 := by omega
    subst this
    exact ⟨gp, by rw [h0], hg, hb⟩
theorem accF_len {n : Nat} {l : List Edge} : (accF n l (ordL l)).length ≤ l.length := by
  have := growF_len l (ordL l) (Uf.iota n) []
  rw [ordL_len] at this
  simpa [accF] using this
/-- Labels up to a weight. -/
theorem lab_under (l : List Edge) (hv : Vld 30 l) (th : Int) : (labK 30 (lo th l)).length = 30 := labK_len (hv.lo th)

set_option maxRecDepth 1000000 in
set_option maxHeartbeats 16000000 in
theorem thresholds_any (A : Option Addr) (c : Nat) (ls : List Link) (th : Int) (w : World) (hE : Links A ls w) (_ : ls.length ≤ c) (hw : LOk ls) :
    Calls Try.prog 7 #[.slice A ls.length c, .int .i64 th] w fun e w' => e = .returned (.bool true) ∧ Below w.heap.size w w' := by
  by_cases hl : 120 < ls.length
  · have hl1 : (120 : Int) < ls.length := by omega
    clear hE hw
    go_enter Try.func7, Try.ntmps7
    go_wp2_with fail
    refine (works_any _).mono ?_
    rintro e w1 ⟨rfl, hb⟩
    refine Hid.out ?_
    have HB1 := Lib.hid hb
    clear hb
    refine Lib.hid ?_
    go_wp2_with fail
    go_ret
    exact ⟨rfl, HB1.out⟩
  · have hl1 : (ls.length : Int) ≤ 120 := by omega
    have HBA := Lib.hid (built_any A c ls w hE (by omega) hw)
    have hbl := built_len ls
    have HV := Lib.hid (built_vld ls)
    clear hE hw
    generalize built ls = l at *
    have hll : l.length ≤ 120 := by omega
    have HVF := Lib.hid (forE_vld HV.out)
    have hfl := accF_len (n := 30) (l := l)
    have HMF := Lib.hid (accF_mem (n := 30) (l := l))
    have HTH := Lib.hid (fun t => thr HV.out t)
    have HLE := Lib.hid (fun t => lab_under l HV.out t)
    have HLF := Lib.hid (fun t => lab_under (forE 30 l) HVF.out t)
    have HFO := Lib.hid (fun B c w h => forest_ok B c l w h HV.out (by omega))
    have hlf : (forE 30 l).length = (accF 30 l (ordL l)).length := pickE_len l _
    have hfe : forE 30 l = pickE l (accF 30 l (ordL l)) := rfl
    generalize accF 30 l (ordL l) = f at *
    generalize forE 30 l = le at *
    have HFE := Lib.hid hfe
    clear hfe
    have hlel : le.length ≤ 120 := by omega
    clear hlf
    go_enter Try.func7, Try.ntmps7
    go_wp2_with fail
    refine HBA.out.mono ?_
    rintro e w1 ⟨v1, rfl, ho, hb⟩
    refine Hid.out ?_
    obtain ⟨B, cB, rfl, hE1, hcB⟩ := Edges.ofOwn ho
    have HE1 := Lib.hid hE1; have HB1 := Lib.hid hb
    clear ho hb hE1 HBA
    refine Lib.hid ?_
    go_wp2_with fail
    refine (HFO.out B cB w1 HE1.out).mono ?_
    rintro e w2 ⟨BF, cf, rfl, hO, hcf, hb⟩
    refine Hid.out ?_
    have HE2 := Lib.hid (HE1.out.on hb); have HO2 := Lib.hid hO; have HB2 := Lib.hid (HB1.out.trans (hb.mono HB1.out.size))
    clear hb hO
    refine Lib.hid ?_
    go_wp2_with fail
    refine (new_ok B cB l w2 HE2.out HV.out (by omega)).mono ?_
    rintro e w3 ⟨gpa, rfl, hg, hb⟩
    refine Hid.out ?_
    have HE3 := Lib.hid (HE2.out.on hb); have HO3 := Lib.hid (HO2.out.on hb); have HG3 := Lib.hid hg; have HB3 := Lib.hid (HB2.out.trans (hb.mono HB2.out.size))
    clear hb hg
    refine Lib.hid ?_
    go_wp2_with fail
    refine (some_any B BF cB cf l f w3 HE3.out HO3.out HMF.out (by omega) (by omega)).mono ?_
    rintro e w4 ⟨v4, rfl, ho, hb⟩
    refine Hid.out ?_
    rw [← HFE.out] at ho
    obtain ⟨BS, cS, rfl, hE4, hcS⟩ := Edges.ofOwn ho
    have HG4 := Lib.hid (HG3.out.on hb); have HE4 := Lib.hid hE4; have HB4 := Lib.hid (HB3.out.trans (hb.mono HB3.out.size))
    clear hb ho hE4
    refine Lib.hid ?_
    go_wp2_with fail
    refine (new_ok BS cS le w4 HE4.out HVF.out (by omega)).mono ?_
    rintro e w5 ⟨gpb, rfl, hg, hb⟩
    refine Hid.out ?_
    have HX0 : Hid (Below w5.heap.size w5 w5) := Lib.hid (Below.refl _ _)
    have HG5 := Lib.hid (HG4.out.on hb); have HH5 := Lib.hid hg; have HB5 := Lib.hid (HB4.out.trans (hb.mono HB4.out.size))
    clear hb hg
    refine Lib.hid ?_
    go_wp2_with fail
    have HB0 : Hid (Below w.heap.size w w5) := HB5
    refine (under_any 30 (by decide) l th gpa _ (HG5.out.on HX0.out) HV.out (by omega)).mono ?_
    rintro e wa ⟨ua, rfl, -, hg, hb⟩
    refine Hid.out ?_
    have HXa := Lib.hid (HX0.out.trans (hb.mono HX0.out.size)); have HBa := Lib.hid (HB0.out.trans (hb.mono HB0.out.size)); have HUa := Lib.hid hg
    clear hb hg
    refine Lib.hid ?_
    go_wp2_with fail
    refine (labels_any 30 (by decide) (by decide) (lo th l) ua wa HUa.out (HV.out.lo _) (by have := lo_len th l; omega)).mono ?_
    rintro e wb ⟨ga, rfl, -, hr, hb⟩
    refine Hid.out ?_
    have HXb := Lib.hid (HXa.out.trans (hb.mono HXa.out.size)); have HBb := Lib.hid (HBa.out.trans (hb.mono HBa.out.size)); have HRb := Lib.hid (IntsR.ofRow hr)
    clear hb hr
    refine Lib.hid ?_
    go_wp2_with fail
    refine (under_any 30 (by decide) le th gpb _ (HH5.out.on HXb.out) HVF.out (by omega)).mono ?_
    rintro e wc ⟨uc, rfl, -, hg, hb⟩
    refine Hid.out ?_
    have HXc := Lib.hid (HXb.out.trans (hb.mono HXb.out.size)); have HBc := Lib.hid (HBb.out.trans (hb.mono HBb.out.size)); have HUc := Lib.hid hg; have HRc := Lib.hid (HRb.out.on hb)
    clear hb hg
    refine Lib.hid ?_
    go_wp2_with fail
    refine (labels_any 30 (by decide) (by decide) (lo th le) uc wc HUc.out (HVF.out.lo _) (by have := lo_len th le; omega)).mono ?_
    rintro e wd ⟨gd, rfl, -, hr, hb⟩
    refine Hid.out ?_
    have HXd := Lib.hid (HXc.out.trans (hb.mono HXc.out.size)); have HBd := Lib.hid (HBc.out.trans (hb.mono HBc.out.size))
    have hN := numbers_any (some ⟨ga, 0, none⟩) (some ⟨gd, 0, none⟩) 30 30 (labK 30 (lo th l)) (labK 30 (lo th le)) wd (HRc.out.on hb) (IntsR.ofRow hr) (by rw [HLE.out]; decide) (by rw [HLF.out]; decide) (by rw [HLE.out]; decide) (by rw [HLF.out]; decide)
    rw [HLE.out, HLF.out, HTH.out, decide_eq_true rfl] at hN
    have HN := Lib.hid hN
    clear hb hr hN
    refine Lib.hid ?_
    go_wp2_with fail
    refine HN.out.mono ?_
    rintro e we ⟨rfl, hd⟩
    refine Hid.out ?_
    have HXe := Lib.hid (HXd.out.trans ((drawn_below hd).mono HXd.out.size)); have HBe := Lib.hid (HBd.out.trans ((drawn_below hd).mono HBd.out.size))
    clear hd HN
    refine Lib.hid ?_
    go_wp2_with fail
    clear HX0 HXa HXb HXc HXd HBa HBb HBc HBd HB0 HUa HUc HRb HRc
    go_loopw [12] (fun x wr => ∃ t : Int, -5 ≤ t ∧ t ≤ 6 ∧ x = .int .i64 t ∧ Below w5.heap.size w5 wr ∧ Below w.heap.size w wr) (fun x _ => (6 - intOf x).toNat)
    case atStart => exact ⟨-5, by omega, by omega, rfl, HXe.out, HBe.out⟩
    case round =>
      obtain ⟨t, t0, t1, rfl, hx, hb⟩ := hrel
      have HX0 := Lib.hid hx; have HB0 := Lib.hid hb
      clear hx hb
      by_cases hlt : t ≤ 5
      · go_wp2_with fail
        refine (under_any 30 (by decide) l t gpa _ (HG5.out.on HX0.out) HV.out (by omega)).mono ?_
        rintro e wa ⟨ua, rfl, -, hg, hb⟩
        refine Hid.out ?_
        have HXa := Lib.hid (HX0.out.trans (hb.mono HX0.out.size)); have HBa := Lib.hid (HB0.out.trans (hb.mono HB0.out.size)); have HUa := Lib.hid hg
        clear hb hg
        refine Lib.hid ?_
        go_wp2_with fail
        refine (labels_any 30 (by decide) (by decide) (lo t l) ua wa HUa.out (HV.out.lo _) (by have := lo_len t l; omega)).mono ?_
        rintro e wb ⟨ga, rfl, -, hr, hb⟩
        refine Hid.out ?_
        have HXb := Lib.hid (HXa.out.trans (hb.mono HXa.out.size)); have HBb := Lib.hid (HBa.out.trans (hb.mono HBa.out.size)); have HRb := Lib.hid (IntsR.ofRow hr)
        clear hb hr
        refine Lib.hid ?_
        go_wp2_with fail
        refine (under_any 30 (by decide) le t gpb _ (HH5.out.on HXb.out) HVF.out (by omega)).mono ?_
        rintro e wc ⟨uc, rfl, -, hg, hb⟩
        refine Hid.out ?_
        have HXc := Lib.hid (HXb.out.trans (hb.mono HXb.out.size)); have HBc := Lib.hid (HBb.out.trans (hb.mono HBb.out.size)); have HUc := Lib.hid hg; have HRc := Lib.hid (HRb.out.on hb)
        clear hb hg
        refine Lib.hid ?_
        go_wp2_with fail
        refine (labels_any 30 (by decide) (by decide) (lo t le) uc wc HUc.out (HVF.out.lo _) (by have := lo_len t le; omega)).mono ?_
        rintro e wd ⟨gd, rfl, -, hr, hb⟩
        refine Hid.out ?_
        have HXd := Lib.hid (HXc.out.trans (hb.mono HXc.out.size)); have HBd := Lib.hid (HBc.out.trans (hb.mono HBc.out.size))
        have hN := numbers_any (some ⟨ga, 0, none⟩) (some ⟨gd, 0, none⟩) 30 30 (labK 30 (lo t l)) (labK 30 (lo t le)) wd (HRc.out.on hb) (IntsR.ofRow hr) (by rw [HLE.out]; decide) (by rw [HLF.out]; decide) (by rw [HLE.out]; decide) (by rw [HLF.out]; decide)
        rw [HLE.out, HLF.out, HTH.out, decide_eq_true rfl] at hN
        have HN := Lib.hid hN
        clear hb hr hN
        refine Lib.hid ?_
        go_wp2_with fail
        refine HN.out.mono ?_
        rintro e we ⟨rfl, hd⟩
        refine Hid.out ?_
        have HXe := Lib.hid (HXd.out.trans ((drawn_below hd).mono HXd.out.size)); have HBe := Lib.hid (HBd.out.trans ((drawn_below hd).mono HBd.out.size))
        clear hd HN
        refine Lib.hid ?_
        go_wp2_with fail
        go_roundw
        case rel => exact ⟨t + 1, by omega, by omega, rfl, HXe.out, HBe.out⟩
        case measure => simp [intOf]; omega
      · go_wp2_with fail
        refine (works_any _).mono ?_
        rintro e wz ⟨rfl, hb⟩
        refine Hid.out ?_
        have HBz := Lib.hid (HB0.out.trans (hb.mono HB0.out.size))
        clear hb
        refine Lib.hid ?_
        go_wp2_with fail
        go_ret
        exact ⟨rfl, HBz.out⟩
end Go.Proofs.Ytobaodkcjjgkdaa
namespace Go.Proofs.Ytobaodkcjjgkdaa
open Go Go.RowKit Go.ChangeShapes Go.WideShapes Go.ChangeAt

theorem u8_wf {z : Int} (h : (Lit.int .u8 z).wf = true) : 0 ≤ z ∧ z < 256 := by
  have : 0 ≤ z ∧ z ≤ 255 := by simpa [Lit.wf, IntKind.min, IntKind.max, IntKind.signed, IntKind.bits] using h
  exact ⟨this.1, by omega⟩
theorem i8_wf {z : Int} (h : (Lit.int .i8 z).wf = true) : -128 ≤ z ∧ z < 128 := by
  have : -128 ≤ z ∧ z ≤ 127 := by simpa [Lit.wf, IntKind.min, IntKind.max, IntKind.signed, IntKind.bits] using h
  exact ⟨this.1, by omega⟩
set_option maxRecDepth 100000 in
theorem open_links {H : Type} {enc : TypeId × Value → H} {W : World} {base : Nat} {v : Value} {d : DataW H} {p : List MemPlace} (hv : Value.okWide Try.prog W .any base 40 v) (h : DataW.Trod enc Try.prog W 0 (fun _ => true) true 40 v d p) :
    ∃ A l c, v = .slice A l.length c ∧ l.length ≤ c ∧ Links A l W ∧ LOk l := by
  obtain ⟨A, n, c, rfl⟩ := okWide_slice Try.underlying40 hv
  obtain ⟨fuel, hf⟩ := h
  rcases Go.Deep.open_slice Try.underlying40 hf with ⟨hcs, -⟩ | ⟨a, len, cap, m, k, D, Pl, hcs, -, hle, -, hm, -, hx⟩
  · have e : A = none ∧ n = 0 ∧ c = 0 := by simpa [Value.cells] using hcs
    obtain ⟨rfl, rfl, rfl⟩ := e
    exact ⟨none, [], 0, rfl, Nat.le_refl _, fun h => absurd h (by simp), fun e he => absurd he (by simp)⟩
  · have e : A = some a ∧ n = len ∧ c = cap := by simpa [Value.cells] using hcs
    obtain ⟨rfl, rfl, rfl⟩ := e
    have hmc : m = c := by simpa using hm
    have hsz : Try.prog.cellsOf 83 = 3 := by kernel_rfl
    have each : ∀ i, i < n → ∃ x : Link, (W.cell? (a.add (i * 3)) = some (.int .u8 x.U) ∧ W.cell? (a.add (i * 3 + 1)) = some (.int .u8 x.V) ∧ W.cell? (a.add (i * 3 + 2)) = some (.int .i8 x.W)) ∧ 0 ≤ x.U ∧ x.U < 256 ∧ 0 ≤ x.V ∧ x.V < 256 ∧ -128 ≤ x.W ∧ x.W < 128 := fun i hi => by
      obtain ⟨cs', h1, h2⟩ := hx i (by omega)
      rw [hsz] at h1
      obtain ⟨_, hlen, hcell⟩ := World.cells?_some h1
      obtain ⟨xs, q, -, -, -, hxl, hq⟩ := DataW.trod_struct Try.underlying83 h2
      match cs', hlen, xs, hxl with
      | [v0, v1, v2], _, [y0, y1, y2], _ =>
        have g0 := hq 0 _ rfl
        have g1 := hq 1 _ rfl
        have g2 := hq 2 _ rfl
        have s1 : Try.prog.cellsOf 5 = 1 := by kernel_rfl
        have s2 : Try.prog.cellsOf 55 = 1 := by kernel_rfl
        simp [s1, s2] at g0 g1 g2
        obtain ⟨z0, e0, -, w0⟩ := DataW.trod_int Try.underlying5 g0
        obtain ⟨z1, e1, -, w1⟩ := DataW.trod_int Try.underlying5 g1
        obtain ⟨z2, e2, -, w2⟩ := DataW.trod_int Try.underlying55 g2
        have c0 := hcell 0 (by omega)
        have c1 := hcell 1 (by omega)
        have c2 := hcell 2 (by omega)
        rw [Go.Deep.add_add] at c0 c1 c2
        injection e0 with e0
        injection e1 with e1
        injection e2 with e2
        subst e0 e1 e2
        exact ⟨⟨z0, z1, z2⟩, ⟨c0, c1, c2⟩, (u8_wf w0).1, (u8_wf w0).2, (u8_wf w1).1, (u8_wf w1).2, i8_wf w2⟩
    obtain ⟨l, hl, hp⟩ := list_of link0 _ n each
    refine ⟨some a, l, c, by rw [hl], by omega, fun hn => ?_, fun e he => ?_⟩
    · have hs := World.cell?_spot (hp 0 (by omega)).1.1
      obtain ⟨b, o, s⟩ := a
      have hs : s = none := by simpa [Addr.add] using hs
      subst hs
      refine ⟨b, o, rfl, fun j hj => ?_⟩
      obtain ⟨⟨c0, c1, c2⟩, -⟩ := hp j (by omega)
      rw [add_off] at c0 c1 c2
      exact ⟨c0, c1, c2⟩
    · obtain ⟨i, hi, rfl⟩ := List.getElem_of_mem he
      have := (hp i (by omega)).2
      rwa [show l.getD i link0 = l[i] by simp [List.getD_eq_getElem?_getD, hi]] at this

theorem thresholds_row (A : Option Addr) (c : Nat) (ls : List Link) (th : Int) (w : World) (hE : Links A ls w) (hc : ls.length ≤ c) (hw : LOk ls) (_ : I64 th) :
    Calls Try.prog 7 #[.slice A ls.length c, .int .i64 th] w fun e w' => e = .returned (.bool true) ∧ Below w.heap.size w w' := thresholds_any A c ls th w hE hc hw
end Go.Proofs.Ytobaodkcjjgkdaa
namespace Go.Proofs.Ytobaodkcjjgkdaa
open Go Go.RowKit

/-- A row of truths. -/
def truths (bs : List Bool) : Array Value := (bs.map Value.bool).toArray
structure RowB (g : Nat) (bs : List Bool) (w : World) : Prop where
  bh : w.heap[g]? = some (.cells (truths bs) 4 (0, 0))
theorem RowB.lt {g : Nat} {bs : List Bool} {w : World} (h : RowB g bs w) : g < w.heap.size := block_lt h.bh
theorem RowB.cell {g : Nat} {bs : List Bool} {w : World} (h : RowB g bs w) {i : Nat} (hi : i < bs.length) : w.cell? ⟨g, i, none⟩ = some (.bool (bs.getD i false)) := by
  rw [cells_of_block h.bh]
  simp [truths, List.getD_eq_getElem?_getD, hi]
theorem RowB.frozen {g : Nat} {bs : List Bool} {w : World} (h : RowB g bs w) (i : Nat) : w.frozen? ⟨g, i, none⟩ = false := frozen_of_block h.bh i
theorem RowB.on {g : Nat} {bs : List Bool} {w w' : World} (h : RowB g bs w) (hb : Below w.heap.size w w') : RowB g bs w' := ⟨(hb.block _ h.lt).trans h.bh⟩
theorem RowB.set {g : Nat} {bs : List Bool} {w : World} (h : RowB g bs w) (i : Nat) (x : Bool) : RowB g (bs.set i x) (w.setCell ⟨g, i, none⟩ (.bool x)) := by
  refine ⟨(set_same h.bh).trans ?_⟩
  congr 2
  apply Array.ext'
  simp [truths, List.map_set]
theorem info_bool : (Try.prog.info? 4).map (fun i => (i.zero, i.size, i.bytes)) = some (some (.bool false), 1, 1) := by kernel_rfl
theorem mk_truths (n : Nat) (hn : n ≤ 1000000) (W : World) : (Instr.makeSlice 46 (.int .i64 (n : Int)) (.int .i64 (n : Int))).run Try.prog W = .ok (.slice (some ⟨W.heap.size, 0, none⟩) n n) (W.alloc (.cells (truths (List.replicate n false)) 4)) := by
  obtain ⟨i0, hi, hz0, hz1, hz2⟩ := info_parts info_bool
  have h := run_make (P := Try.prog) W 46 4 i0 (.bool false) Try.underlying46 hi hz0 .i64 .i64 n n (by omega) (by omega) (by rw [hz2]; omega) (by omega)
  have e : madeCells (Value.bool false).cells (n * i0.size) = truths (List.replicate n false) := by
    rw [hz1, Nat.mul_one]
    apply Array.ext'
    have : (Value.bool false).cells = #[.bool false] := rfl
    rw [this, toList_madeCells_one]
    simp [truths]
  simp only [Int.toNat_natCast] at h
  rw [h, e]

set_option maxRecDepth 1000000 in
set_option maxHeartbeats 16000000 in
theorem cycles_any (A : Option Addr) (c : Nat) (ls : List Link) (w : World) (hE : Links A ls w) (_ : ls.length ≤ c) (hw : LOk ls) :
    Calls Try.prog 6 #[.slice A ls.length c] w fun e w' => e = .returned (.bool true) ∧ Below w.heap.size w w' := by
  by_cases hl : 120 < ls.length
  · have hl1 : (120 : Int) < ls.length := by omega
    clear hE hw
    go_enter Try.func6, Try.ntmps6
    go_wp2_with fail
    refine (works_any _).mono ?_
    rintro e w1 ⟨rfl, hb⟩
    refine Hid.out ?_
    have HB1 := Lib.hid hb
    clear hb
    refine Lib.hid ?_
    go_wp2_with fail
    go_ret
    exact ⟨rfl, HB1.out⟩
  · have hl1 : (ls.length : Int) ≤ 120 := by omega
    have HBA := Lib.hid (built_any A c ls w hE (by omega) hw)
    have hbl := built_len ls
    have HV := Lib.hid (built_vld ls)
    clear hE hw
    generalize built ls = l at *
    have hll : l.length ≤ 120 := by omega
    have HVF := Lib.hid (forE_vld HV.out)
    have hfl := accF_len (n := 30) (l := l)
    have HMF := Lib.hid (accF_mem (n := 30) (l := l))
    have HCY := Lib.hid (fun i hi => cyc HV.out (i := i) hi)
    have hmk := mk_truths l.length (by omega)
    have l1 : (l.length : Int) ≤ 120 := by omega
    have HLF := Lib.hid (fun t => lab_under (forE 30 l) HVF.out t)
    have HFO := Lib.hid (fun B c w h => forest_ok B c l w h HV.out (by omega))
    have hlf : (forE 30 l).length = (accF 30 l (ordL l)).length := pickE_len l _
    have hfe : forE 30 l = pickE l (accF 30 l (ordL l)) := rfl
    generalize accF 30 l (ordL l) = f at *
    generalize forE 30 l = le at *
    have HFE := Lib.hid hfe
    clear hfe
    have hlel : le.length ≤ 120 := by omega
    clear hlf
    go_enter Try.func6, Try.ntmps6
    go_wp2_with fail
    refine HBA.out.mono ?_
    rintro e w1 ⟨v1, rfl, ho, hb⟩
    refine Hid.out ?_
    obtain ⟨B, cB, rfl, hE1, hcB⟩ := Edges.ofOwn ho
    have HE1 := Lib.hid hE1; have HB1 := Lib.hid hb
    clear ho hb hE1 HBA
    refine Lib.hid ?_
    go_wp2_with fail
    refine (HFO.out B cB w1 HE1.out).mono ?_
    rintro e w2 ⟨BF, cf, rfl, hO, hcf, hb⟩
    refine Hid.out ?_
    have HE2 := Lib.hid (HE1.out.on hb); have HO2 := Lib.hid hO; have HB2 := Lib.hid (HB1.out.trans (hb.mono HB1.out.size))
    clear hb hO
    refine Lib.hid ?_
    go_wp2_with fail
    refine (some_any B BF cB cf l f w2 HE2.out HO2.out HMF.out (by omega) (by omega)).mono ?_
    rintro e w4 ⟨v4, rfl, ho, hb⟩
    refine Hid.out ?_
    rw [← HFE.out] at ho
    obtain ⟨BS, cS, rfl, hE4, hcS⟩ := Edges.ofOwn ho
    have HEL4 := Lib.hid (HE2.out.on hb); have HO4 := Lib.hid (HO2.out.on hb); have HE4 := Lib.hid hE4; have HB4 := Lib.hid (HB2.out.trans (hb.mono HB2.out.size))
    clear hb ho hE4
    refine Lib.hid ?_
    go_wp2_with fail
    refine (new_ok BS cS le w4 HE4.out HVF.out (by omega)).mono ?_
    rintro e w5 ⟨gpb, rfl, hg, hb⟩
    refine Hid.out ?_
    have HEL5 := Lib.hid (HEL4.out.on hb); have HO5 := Lib.hid (HO4.out.on hb); have HH5 := Lib.hid hg; have HB5 := Lib.hid (HB4.out.trans (hb.mono HB4.out.size))
    clear hb hg HEL4 HO4 HE4 HE1 HE2 HO2 HB1 HB2 HB4
    refine Lib.hid ?_
    have f1 : (f.length : Int) ≤ 120 := by omega
    go_wp2_with fail
    clear hmk
    go_loopw [9] (fun x wr => ∃ k : Nat, k ≤ f.length ∧ x = .int .i64 k ∧ ∃ bs, RowB w5.heap.size bs wr ∧ Hid (bs.length = l.length) ∧ Below w5.heap.size w5 wr) (fun x _ => f.length - (intOf x).toNat)
    case atStart => exact ⟨0, by omega, rfl, _, ⟨block_new _ _ _ rfl⟩, Lib.hid (List.length_replicate ..), (Below.refl _ _).alloc (Nat.le_refl _) _⟩
    case round =>
      obtain ⟨k, hk, rfl, bs, hr, hbl, hb⟩ := hrel
      by_cases hlt : k < f.length
      · have hlt1 : (k : Int) < f.length := by omega
        have hxr := HMF.out _ (List.getElem_mem hlt)
        obtain ⟨ei, hei⟩ := Int.eq_ofNat_of_zero_le hxr.1
        have heil : ei < l.length := by omega
        have hvx : St.v f k = (ei : Int) := by rw [← hei]; exact St.getD_at hlt
        obtain ⟨b2, o2, rfl, hc2⟩ := HO5.out (by omega)
        have k1 := (hb.cell (p := ⟨b2, o2 + k, none⟩) (World.block_lt_of_cell? w5 _ (hc2 k hlt))).trans (hc2 k hlt)
        rw [hvx] at k1
        have ei0 : (0 : Int) ≤ ei := by omega
        have ei1 : (ei : Int) < l.length := by omega
        have fz := hr.frozen ei
        have ky := hr.cell (i := ei) (by rw [hbl.out]; exact heil)
        generalize bs.getD ei false = y0 at ky
        have HR := Lib.hid hr; have HB := Lib.hid hb
        clear hxr hei hvx hc2 hr hb
        go_wp2_with fail
        go_roundw
        case rel => exact ⟨k + 1, by omega, by go_num, _, HR.out.set ei true, Lib.hid (by rw [List.length_set]; exact hbl.out), HB.out.setCell (p := ⟨w5.heap.size, ei, none⟩) (Nat.le_refl _) _⟩
        case measure => simp [intOf]; omega
      · generalize wr = wl at *
        have HR := Lib.hid hr; have HX := Lib.hid hb; have HBw := Lib.hid (HB5.out.trans (hb.mono HB5.out.size))
        clear hr hb
        go_wp2_with fail
        go_loopw [10] (fun x wz => ∃ i : Nat, i ≤ l.length ∧ x = .int .i64 i ∧ Below wl.heap.size wl wz) (fun x _ => l.length - (intOf x).toNat)
        case atStart => exact ⟨0, by omega, rfl, Below.refl _ _⟩
        case round =>
          obtain ⟨i, hi, rfl, hb⟩ := hrel
          by_cases hil : i < l.length
          · have hil1 : (i : Int) < l.length := by omega
            have hrz := HR.out.on hb
            have ky := hrz.cell (i := i) (by rw [hbl.out]; exact hil)
            have hxz := HX.out.trans (hb.mono HX.out.size)
            obtain ⟨bE, oE, rfl, hcE⟩ := HEL5.out (by omega)
            have hEb := World.block_lt_of_cell? w5 _ (hcE i hil).1
            have ce : ∀ j, wr.cell? ⟨bE, j, none⟩ = w5.cell? ⟨bE, j, none⟩ := fun j => hxz.cell (p := ⟨bE, j, none⟩) hEb
            obtain ⟨ku, kv, kw⟩ := hcE i hil
            rw [← ce] at ku kv kw
            have hvl := HV.out _ (List.getElem_mem hil)
            rw [← show l.getD i edge0 = l[i] by simp [List.getD_eq_getElem?_getD, hil]] at hvl
            have hcy := HCY.out i hil
            obtain ⟨U, hU⟩ := Int.eq_ofNat_of_zero_le hvl.1
            obtain ⟨V, hV⟩ := Int.eq_ofNat_of_zero_le hvl.2.2.1
            rw [hU, hV, Int.toNat_natCast, Int.toNat_natCast] at hcy
            have hU30 : U < 30 := by omega
            have hV30 : V < 30 := by omega
            rw [hU] at ku
            rw [hV] at kv
            generalize (l.getD i edge0).W = th at *
            generalize hy : bs.getD i false = y0 at ky
            have HCI := Lib.hid hcy; have HXZ := Lib.hid hxz; have HBZ := Lib.hid hb
            have HKU := Lib.hid ku; have HKV := Lib.hid kv
            have HCE := Lib.hid ce
            clear hvl hU hV hcy hrz hxz hb hcE ce hy
            cases y0 with
            | true =>
              go_wp2_with fail
              go_roundw
              case rel => exact ⟨i + 1, by omega, by go_num, HBZ.out⟩
              case measure => simp [intOf]; omega
            | false =>
              go_wp2_with fail
              refine (under_any 30 (by decide) le th gpb _ (HH5.out.on HXZ.out) HVF.out (by omega)).mono ?_
              rintro e wc ⟨uc, rfl, -, hg, hb⟩
              refine Hid.out ?_
              have HCc := Lib.hid (hb.mono (Nat.le_refl _)); have HUc := Lib.hid hg
              clear hb hg ky ku kv kw
              refine Lib.hid ?_
              go_wp2_with fail
              refine (labels_any 30 (by decide) (by decide) (lo th le) uc wc HUc.out (HVF.out.lo _) (by have := lo_len th le; omega)).mono ?_
              rintro e wd ⟨gd, rfl, -, hr, hb⟩
              refine Hid.out ?_
              have hzd := HCc.out.trans (hb.mono HCc.out.size)
              have HZd := Lib.hid (HBZ.out.trans (hzd.mono HBZ.out.size))
              have ku := (hzd.cell (p := ⟨bE, _, none⟩) (Nat.lt_of_lt_of_le hEb HXZ.out.size)).trans HKU.out
              have kv := (hzd.cell (p := ⟨bE, _, none⟩) (Nat.lt_of_lt_of_le hEb HXZ.out.size)).trans HKV.out
              have hlk : (labK 30 (lo th le)).length = 30 := HLF.out th
              have xu := hr.cell (i := U) (by rw [hlk]; exact hU30)
              have xv := hr.cell (i := V) (by rw [hlk]; exact hV30)
              rw [← HCI.out] at xv
              generalize St.v (labK 30 (lo th le)) U = z at xu xv
              have hU1 : (U : Int) < 30 := by omega
              have hV1 : (V : Int) < 30 := by omega
              clear hb hr hzd hlk
              refine Lib.hid ?_
              go_wp2_with fail
              have hzz : (z != z) = false := bne_self_eq_false' z
              go_quiet (fail)
              go_wp2_with fail
              go_roundw
              case rel => exact ⟨i + 1, by omega, by go_num, below_drewN' HZd.out nq⟩
              case measure => simp [intOf]; omega
          · have HBZ := Lib.hid (HBw.out.trans (hb.mono HBw.out.size))
            clear hb
            go_wp2_with fail
            refine (works_any _).mono ?_
            rintro e wv ⟨rfl, hb⟩
            refine Hid.out ?_
            have HBv := Lib.hid (HBZ.out.trans (hb.mono HBZ.out.size))
            clear hb
            refine Lib.hid ?_
            go_wp2_with fail
            go_ret
            exact ⟨rfl, HBv.out⟩
end Go.Proofs.Ytobaodkcjjgkdaa
namespace Go.Proofs.Ytobaodkcjjgkdaa
open Go Go.RowKit

theorem cycles_row (A : Option Addr) (c : Nat) (ls : List Link) (w : World) (hE : Links A ls w) (hc : ls.length ≤ c) (hw : LOk ls) :
    Calls Try.prog 6 #[.slice A ls.length c] w fun e w' => e = .returned (.bool true) ∧ Below w.heap.size w w' := cycles_any A c ls w hE hc hw
end Go.Proofs.Ytobaodkcjjgkdaa
namespace Go.Proofs.Ytobaodkcjjgkdaa
open Go Go.RowKit

/-- The error of some places. -/
def chkE (n : Int) (l : List Edge) (f : List Int) : Int := if newE n l ≠ 0 then newE n l else if ∃ x ∈ f, x < 0 ∨ (l.length : Int) ≤ x then 3 else if f.Nodup then 0 else 6
theorem chkE_bad {n : Int} {l : List Edge} {f : List Int} (h : newE n l ≠ 0) : chkE n l f = newE n l := if_pos h
theorem chkE_range {n : Int} {l : List Edge} {f : List Int} (h : newE n l = 0) {x : Int} (hx : x ∈ f) (hr : x < 0 ∨ (l.length : Int) ≤ x) : chkE n l f = 3 := by
  unfold chkE
  rw [if_neg (by simpa using h), if_pos ⟨x, hx, hr⟩]
theorem chkE_in {n : Int} {l : List Edge} {f : List Int} (h : newE n l = 0) (hf : ∀ x ∈ f, 0 ≤ x ∧ x < l.length) : chkE n l f = if f.Nodup then 0 else 6 := by
  unfold chkE
  rw [if_neg (by simpa using h), if_neg]
  rintro ⟨x, hx, hr⟩
  have := hf x hx
  omega
theorem chkE_zero {n : Int} {l : List Edge} {f : List Int} (h : chkE n l f = 0) : newE n l = 0 ∧ (∀ x ∈ f, 0 ≤ x ∧ x < l.length) ∧ f.Nodup := by
  unfold chkE at h
  split at h
  · rename_i h1; exact absurd h h1
  · rename_i h1
    split at h
    · exact absurd h (by decide)
    · rename_i h2
      split at h
      · rename_i h3
        refine ⟨by simpa using h1, fun x hx => ?_, h3⟩
        have : ¬ (x < 0 ∨ (l.length : Int) ≤ x) := fun hr => h2 ⟨x, hx, hr⟩
        omega
      · exact absurd h (by decide)
/-- What has been seen of the first places. -/
def Seen (l : List Edge) (f : List Int) (k : Nat) (bs : List Bool) : Prop := bs.length = l.length ∧ (∀ j, j < l.length → bs.getD j false = decide ((j : Int) ∈ f.take k)) ∧ ∀ x ∈ f.take k, 0 ≤ x ∧ x < l.length
theorem nodup_snoc {xs : List Int} {x : Int} : (xs ++ [x]).Nodup ↔ xs.Nodup ∧ x ∉ xs := by
  rw [List.nodup_append]
  constructor
  · rintro ⟨h1, -, h3⟩
    exact ⟨h1, fun hm => h3 x hm x (by simp) rfl⟩
  · rintro ⟨h1, h2⟩
    refine ⟨h1, by simp, fun a ha b hb e => ?_⟩
    have : b = x := by simpa using hb
    subst this e
    exact h2 ha
theorem take_snoc {f : List Int} {k : Nat} (h : k < f.length) : f.take (k + 1) = f.take k ++ [St.v f k] := by
  rw [List.take_succ_eq_append_getElem h, show St.v f k = f[k] from St.getD_at h]
theorem Seen.step {l : List Edge} {f : List Int} {k e : Nat} {bs : List Bool} (h : Seen l f k bs) (hk : k < f.length) (he : St.v f k = e) (hel : e < l.length) : Seen l f (k + 1) (bs.set e true) := by
  obtain ⟨h1, h2, h3⟩ := h
  refine ⟨by rw [List.length_set]; exact h1, fun j hj => ?_, fun x hx => ?_⟩
  · rw [take_snoc hk, he]
    by_cases ej : j = e
    · subst ej
      simp [List.getD_eq_getElem?_getD, h1, hj]
    · have := h2 j hj
      rw [List.getD_eq_getElem?_getD, List.getElem?_set_ne (fun e' => ej e'.symm), ← List.getD_eq_getElem?_getD, this]
      rw [decide_eq_decide, List.mem_append]
      constructor
      · exact .inl
      · rintro (h | h)
        · exact h
        · exact absurd (Int.ofNat.inj (List.mem_singleton.1 h)) ej
  · rw [take_snoc hk, he] at hx
    rcases List.mem_append.1 hx with hx | hx
    · exact h3 x hx
    · rw [List.mem_singleton.1 hx]; omega

set_option maxRecDepth 1000000 in
set_option maxHeartbeats 8000000 in
theorem check_any (n : Int) (A B : Option Addr) (c cb : Nat) (l : List Edge) (f : List Int) (w : World) (hE : Edges A l w) (hO : IntsR B f w) (hl : l.length ≤ 1000000) (hfl : f.length ≤ 1000000) :
    Calls Try.prog 54 #[.int .i64 n, .slice A l.length c, .slice B f.length cb] w fun e w' => e = .returned (.int .i64 (chkE n l f)) ∧ Below w.heap.size w w' := by
  have HN := Lib.hid (new_any n A c l w hE hl)
  have HO := Lib.hid hO
  have l1 : (l.length : Int) ≤ 1000000 := by omega
  have f1 : (f.length : Int) ≤ 1000000 := by omega
  have hmk := mk_truths l.length hl
  clear hE hO
  by_cases hn : newE n l = 0
  · have hN := HN.out
    rw [hn] at hN
    have HN2 := Lib.hid hN
    have HZ := Lib.hid hn
    clear hN HN hn
    go_enter Try.func54, Try.ntmps54
    go_wp2_with fail
    refine HN2.out.mono ?_
    rintro e w1 ⟨pv, rfl, -, hb⟩
    refine Hid.out ?_
    have HB1 := Lib.hid hb; have HO1 := Lib.hid (HO.out.on hb)
    have hs1 := hb.size
    clear hb HN2 HO
    refine Lib.hid ?_
    go_wp2_with fail
    go_region
    go_wp2_with fail
    clear hmk
    go_loopw [9, 27] (fun b x wr => ∃ k : Nat, k ≤ f.length ∧ x = .int .i64 k ∧ ∃ tw : Bool, b = .bool tw ∧ Hid (tw = !decide (f.take k).Nodup) ∧ ∃ bs, RowB w1.heap.size bs wr ∧ Hid (Seen l f k bs) ∧ Below w1.heap.size w1 wr) (fun _ x _ => f.length - (intOf x).toNat)
    case atStart => exact ⟨0, by omega, rfl, false, rfl, Lib.hid (by simp), _, ⟨block_new _ _ _ rfl⟩, Lib.hid ⟨List.length_replicate .., fun j hj => by simp [List.getD_eq_getElem?_getD, hj], fun x hx => by simp at hx⟩, ((Below.refl _ _).alloc (Nat.le_refl _) _).drew⟩
    case round =>
      obtain ⟨k, hk, rfl, tw, rfl, hT, bs, hr, hS, hb⟩ := hrel
      by_cases hlt : k < f.length
      · have hlt1 : (k : Int) < f.length := by omega
        obtain ⟨b2, o2, rfl, hc2⟩ := HO1.out (by omega)
        have k1 := (hb.cell (p := ⟨b2, o2 + k, none⟩) (World.block_lt_of_cell? w1 _ (hc2 k hlt))).trans (hc2 k hlt)
        have hmem : St.v f k ∈ f := by rw [show St.v f k = f[k] from St.getD_at hlt]; exact List.getElem_mem hlt
        obtain ⟨z, hz⟩ : ∃ z, St.v f k = z := ⟨_, rfl⟩
        rw [hz] at k1 hmem
        have HZV := Lib.hid hz
        have HB := Lib.hid (HB1.out.trans (hb.mono hs1))
        have HBR := Lib.hid hb
        have HRR := Lib.hid hr
        have HM := Lib.hid hmem
        clear hc2 hz hb hmem
        by_cases h0 : z < 0
        · have HC := Lib.hid (chkE_range HZ.out HM.out (.inl h0))
          clear hr
          go_wp2_with fail
          go_ret
          exact ⟨by rw [HC.out]; rfl, HB.out⟩
        · by_cases h1 : (l.length : Int) ≤ z
          · have HC := Lib.hid (chkE_range HZ.out HM.out (.inr h1))
            clear hr
            go_wp2_with fail
            go_ret
            exact ⟨by rw [HC.out]; rfl, HB.out⟩
          · obtain ⟨e, rfl⟩ := Int.eq_ofNat_of_zero_le (a := z) (by omega)
            have hel : e < l.length := by omega
            have hel1 : (e : Int) < l.length := by omega
            have he0 : (0 : Int) ≤ e := by omega
            have ky := hr.cell (i := e) (by rw [hS.out.1]; exact hel)
            have fz := hr.frozen e
            have HS1 := Lib.hid (hS.out.step hlt HZV.out hel)
            have HY := Lib.hid (hS.out.2.1 e hel)
            generalize hy0 : bs.getD e false = y0 at *
            have HT2 : Hid ((tw || y0) = !decide (f.take (k + 1)).Nodup) := Lib.hid (by
              rw [hT.out, HY.out, take_snoc hlt, HZV.out]
              by_cases a : (f.take k).Nodup
              · by_cases b : (e : Int) ∈ f.take k
                · rw [decide_eq_true a, decide_eq_true b, decide_eq_false (fun h => (nodup_snoc.1 h).2 b)]; rfl
                · rw [decide_eq_true a, decide_eq_false b, decide_eq_true (nodup_snoc.2 ⟨a, b⟩)]; rfl
              · rw [decide_eq_false a, decide_eq_false (fun h => a (nodup_snoc.1 h).1)]; rfl)
            clear hr hy0 HY hS hT h0 h1 HZV HM
            cases tw with
            | true =>
              go_wp2_with fail
              go_roundw
              case rel => exact ⟨k + 1, by omega, by go_num, true, rfl, HT2, _, HRR.out.set e true, HS1, HBR.out.setCell (p := ⟨w1.heap.size, e, none⟩) (Nat.le_refl _) _⟩
              case measure => simp [intOf]; omega
            | false =>
              cases y0 with
              | true =>
                go_wp2_with fail
                go_roundw
                case rel => exact ⟨k + 1, by omega, by go_num, true, rfl, HT2, _, HRR.out.set e true, HS1, HBR.out.setCell (p := ⟨w1.heap.size, e, none⟩) (Nat.le_refl _) _⟩
                case measure => simp [intOf]; omega
              | false =>
                go_wp2_with fail
                go_roundw
                case rel => exact ⟨k + 1, by omega, by go_num, false, rfl, HT2, _, HRR.out.set e true, HS1, HBR.out.setCell (p := ⟨w1.heap.size, e, none⟩) (Nat.le_refl _) _⟩
                case measure => simp [intOf]; omega
      · have hkk : k = f.length := by omega
        subst hkk
        have ht : f.take f.length = f := List.take_length
        have hin := hS.out.2.2
        have hT2 := hT.out
        rw [ht] at hin hT2
        have hC := chkE_in HZ.out hin
        have HB := Lib.hid (HB1.out.trans (hb.mono hs1))
        clear hr hb hS hT hin
        cases tw with
        | true =>
          have hnd : ¬ f.Nodup := by simpa using hT2
          rw [if_neg hnd] at hC
          have HC := Lib.hid hC
          clear hC hnd hT2
          go_wp2_with fail
          go_ret
          exact ⟨by rw [HC.out]; rfl, HB.out⟩
        | false =>
          have hnd : f.Nodup := by simpa using hT2
          rw [if_pos hnd] at hC
          have HC := Lib.hid hC
          clear hC hnd hT2
          go_wp2_with fail
          go_ret
          exact ⟨by rw [HC.out]; rfl, HB.out⟩
  · have hN := HN.out
    have hd : (newE n l != 0) = true := by simp [hn]
    have HC := Lib.hid (chkE_bad (f := f) hn)
    clear hn
    go_enter Try.func54, Try.ntmps54
    go_wp2_with fail
    refine HN.out.mono ?_
    rintro e w1 ⟨pv, rfl, -, hb⟩
    refine Hid.out ?_
    have HB1 := Lib.hid hb
    clear hb HN HO hN
    refine Lib.hid ?_
    go_wp2_with fail
    go_ret
    exact ⟨by rw [HC.out]; rfl, HB1.out⟩
end Go.Proofs.Ytobaodkcjjgkdaa
namespace Go.Proofs.Ytobaodkcjjgkdaa
open Go Go.RowKit

theorem order_ok (A : Option Addr) (c : Nat) (l : List Edge) (w : World) (hE : Edges A l w) (hl : l.length ≤ 1000000) :
    Calls Try.prog 13 #[.slice A l.length c] w fun e w' => ∃ g, e = .returned (.slice (some ⟨g, 0, none⟩) l.length l.length) ∧ IntsR (some ⟨g, 0, none⟩) (ordL l) w' ∧ Below w.heap.size w w' := by
  refine (order_any A c l w hE hl).mono ?_
  rintro e w' ⟨g, zs, rfl, -, hord, hrow, hb⟩
  have := hord.eq
  subst this
  exact ⟨g, rfl, IntsR.ofRow hrow, hb⟩
theorem accept_ok (n : Nat) (hn : n ≤ 65536) (A B : Option Addr) (ca cb : Nat) (l : List Edge) (os : List Int) (w : World) (hE : Edges A l w) (hO : IntsR B os w) (hv : Vld n l) (hos : ∀ x ∈ os, 0 ≤ x ∧ x < l.length) (hl : l.length ≤ 1000000) (hol : os.length ≤ 1000000) :
    Calls Try.prog 39 #[.int .i64 n, .slice A l.length ca, .slice B os.length cb] w fun e w' => ∃ D cd, e = .returned (.slice D (accF n l os).length cd) ∧ IntsR D (accF n l os) w' ∧ (accF n l os).length ≤ cd ∧ Below w.heap.size w w' := by
  refine (accept_any n hn A B ca cb l os w hE hO hv hos hl hol).mono ?_
  rintro e w' ⟨vo, rfl, ho, hb⟩
  obtain ⟨D, cd, rfl, hD, hcd⟩ := IntsR.ofOwn ho
  exact ⟨D, cd, rfl, hD, hcd, hb⟩
/-- The places of the order, accepted: the walk of two calls. -/
theorem accept_ord (n : Nat) (hn : n ≤ 65536) (A : Option Addr) (ca g : Nat) (l : List Edge) (w : World) (hE : Edges A l w) (hO : IntsR (some ⟨g, 0, none⟩) (ordL l) w) (hv : Vld n l) (hl : l.length ≤ 1000000) :
    Calls Try.prog 39 #[.int .i64 n, .slice A l.length ca, .slice (some ⟨g, 0, none⟩) l.length l.length] w fun e w' => ∃ D cd, e = .returned (.slice D (accF n l (ordL l)).length cd) ∧ IntsR D (accF n l (ordL l)) w' ∧ (accF n l (ordL l)).length ≤ cd ∧ Below w.heap.size w w' := by
  have h := accept_ok n hn A (some ⟨g, 0, none⟩) ca l.length l (ordL l) w hE hO hv (ordL_mem l) hl (by rw [ordL_len]; exact hl)
  rw [ordL_len] at h
  exact h
/-- Whether places are a spanning forest. -/
def spV (n : Int) (l : List Edge) (f : List Int) : Bool := decide (chkE n l f = 0 ∧ (accF n.toNat l f).length = f.length ∧ (accF n.toNat l (ordL l)).length = f.length)
theorem accF_len2 {n : Nat} {l : List Edge} {os : List Int} : (accF n l os).length ≤ os.length := by
  have := growF_len l os (Uf.iota n) []
  simpa [accF] using this

set_option maxRecDepth 1000000 in
set_option maxHeartbeats 8000000 in
theorem spans_any (n : Int) (A B : Option Addr) (c cb : Nat) (l : List Edge) (f : List Int) (w : World) (hE : Edges A l w) (hO : IntsR B f w) (hl : l.length ≤ 1000000) (hfl : f.length ≤ 1000000) :
    Calls Try.prog 29 #[.int .i64 n, .slice A l.length c, .slice B f.length cb] w fun e w' => e = .returned (.tuple #[.bool (spV n l f), .int .i64 (chkE n l f)]) ∧ Below w.heap.size w w' := by
  have HC := Lib.hid (check_any n A B c cb l f w hE hO hl hfl)
  have HE := Lib.hid hE; have HO := Lib.hid hO
  have l1 : (l.length : Int) ≤ 1000000 := by omega
  have f1 : (f.length : Int) ≤ 1000000 := by omega
  clear hE hO
  by_cases he : chkE n l f = 0
  · obtain ⟨hn, hf, hnd⟩ := chkE_zero he
    obtain ⟨k, rfl, hk, hm, hv⟩ := newE_zero hn
    have HV := Lib.hid hv; have HF := Lib.hid hf; have HZ := Lib.hid he
    have hC := HC.out
    rw [he] at hC
    have HC2 := Lib.hid hC
    have HS : Hid (spV k l f = decide ((accF k l f).length = f.length ∧ (accF k l (ordL l)).length = f.length)) := Lib.hid (by
      unfold spV
      rw [Int.toNat_natCast, decide_eq_decide]
      exact ⟨fun h => h.2, fun h => ⟨he, h⟩⟩)
    clear hn hf hnd hv he hC HC
    go_enter Try.func29, Try.ntmps29
    go_wp2_with fail
    refine HC2.out.mono ?_
    rintro e w1 ⟨rfl, hb⟩
    refine Hid.out ?_
    have HB1 := Lib.hid hb; have HE1 := Lib.hid (HE.out.on hb); have HO1 := Lib.hid (HO.out.on hb)
    clear hb HC2 HE HO
    refine Lib.hid ?_
    go_wp2_with fail
    refine (accept_ok k (by omega) A B c cb l f w1 HE1.out HO1.out HV.out HF.out hl hfl).mono ?_
    rintro e w2 ⟨D, cd, rfl, -, -, hb⟩
    refine Hid.out ?_
    have HB2 := Lib.hid (HB1.out.trans (hb.mono HB1.out.size)); have HE2 := Lib.hid (HE1.out.on hb)
    clear hb HE1 HO1
    have hal := accF_len2 (n := k) (l := l) (os := f)
    by_cases h1 : (accF k l f).length = f.length
    · have h1b : (((accF k l f).length : Int) == (f.length : Int)) = true := by rw [h1]; simp
      have H1 := Lib.hid h1
      clear h1
      refine Lib.hid ?_
      go_wp2_with fail
      refine (order_ok A c l w2 HE2.out hl).mono ?_
      rintro e w3 ⟨g, rfl, ho, hb⟩
      refine Hid.out ?_
      have HB3 := Lib.hid (HB2.out.trans (hb.mono HB2.out.size)); have HE3 := Lib.hid (HE2.out.on hb); have HO3 := Lib.hid ho
      clear hb ho
      refine Lib.hid ?_
      go_wp2_with fail
      refine (accept_ord k (by omega) A c g l w3 HE3.out HO3.out HV.out hl).mono ?_
      rintro e w4 ⟨D2, cd2, rfl, -, -, hb⟩
      refine Hid.out ?_
      have HB4 := Lib.hid (HB3.out.trans (hb.mono HB3.out.size))
      clear hb
      have hal2 := accF_len (n := k) (l := l)
      by_cases h2 : (accF k l (ordL l)).length = f.length
      · have h2b : (((accF k l (ordL l)).length : Int) == (f.length : Int)) = true := by rw [h2]; simp
        have HSV := Lib.hid (HS.out.trans (decide_eq_true ⟨H1.out, h2⟩))
        clear h2
        refine Lib.hid ?_
        go_wp2_with fail
        go_ret2
        exact ⟨by rw [HSV.out, HZ.out]; rfl, HB4.out⟩
      · have h2b : (((accF k l (ordL l)).length : Int) == (f.length : Int)) = false := beq_eq_false_iff_ne.2 (by omega)
        have HSV := Lib.hid (HS.out.trans (decide_eq_false fun h => h2 h.2))
        clear h2
        refine Lib.hid ?_
        go_wp2_with fail
        go_ret2
        exact ⟨by rw [HSV.out, HZ.out]; rfl, HB4.out⟩
    · have h1b : (((accF k l f).length : Int) == (f.length : Int)) = false := beq_eq_false_iff_ne.2 (by omega)
      have HSV := Lib.hid (HS.out.trans (decide_eq_false fun h => h1 h.1))
      clear h1
      refine Lib.hid ?_
      go_wp2_with fail
      go_ret2
      exact ⟨by rw [HSV.out, HZ.out]; rfl, HB2.out⟩
  · have hd : (chkE n l f != 0) = true := by simp [he]
    have HSV : Hid (spV n l f = false) := Lib.hid (decide_eq_false fun h => he h.1)
    clear he
    go_enter Try.func29, Try.ntmps29
    go_wp2_with fail
    refine HC.out.mono ?_
    rintro e w1 ⟨rfl, hb⟩
    refine Hid.out ?_
    have HB1 := Lib.hid hb
    clear hb HC HE HO
    refine Lib.hid ?_
    go_wp2_with fail
    go_ret2
    exact ⟨by rw [HSV.out]; rfl, HB1.out⟩
end Go.Proofs.Ytobaodkcjjgkdaa
namespace Go.Proofs.Ytobaodkcjjgkdaa
open Go Go.Shelf
def l57_ren : Go.Shelf.Ren := ⟨fun | 53 => 57 | 64 => 77 | 63 => 76 | 78 => 96 | 79 => 97 | 70 => 87 | 71 => 88 | 72 => 89 | 73 => 90 | 74 => 91 | 75 => 92 | 59 => 93 | 76 => 94 | 77 => 95 | 88 => 101 | 89 => 102 | 90 => 103 | 91 => 104 | 92 => 105 | 68 => 62 | 96 => 107 | n => n, fun | 22 => 72 | 23 => 2 | 3 => 3 | 51 => 108 | 0 => 0 | 67 => 140 | 69 => 76 | 4 => 4 | 61 => 132 | 60 => 131 | 44 => 137 | 5 => 5 | 9 => 9 | 75 => 143 | 79 => 147 | 83 => 149 | 84 => 150 | n => n, fun | n => n⟩
theorem l57 : Go.Proofs.SlLaysN.n53 Try.prog l57_ren := {
  mixed := by kernel_rfl
  f53 := ⟨Try.f57.name, by decide, Try.func57.trans (congrArg some (by kernel_rfl))⟩
  f59 := ⟨Try.f93.name, by decide, Try.func93.trans (congrArg some (by kernel_rfl))⟩
  f63 := ⟨Try.f76.name, by decide, Try.func76.trans (congrArg some (by kernel_rfl))⟩
  f64 := Try.func77.trans (congrArg some (by kernel_rfl))
  f68 := ⟨Try.f62.name, by decide, Try.func62.trans (congrArg some (by kernel_rfl))⟩
  f70 := ⟨Try.f87.name, by decide, Try.func87.trans (congrArg some (by kernel_rfl))⟩
  f71 := ⟨Try.f88.name, by decide, Try.func88.trans (congrArg some (by kernel_rfl))⟩
  f72 := ⟨Try.f89.name, by decide, Try.func89.trans (congrArg some (by kernel_rfl))⟩
  f73 := ⟨Try.f90.name, by decide, Try.func90.trans (congrArg some (by kernel_rfl))⟩
  f74 := ⟨Try.f91.name, by decide, Try.func91.trans (congrArg some (by kernel_rfl))⟩
  f75 := ⟨Try.f92.name, by decide, Try.func92.trans (congrArg some (by kernel_rfl))⟩
  f76 := ⟨Try.f94.name, by decide, Try.func94.trans (congrArg some (by kernel_rfl))⟩
  f77 := ⟨Try.f95.name, by decide, Try.func95.trans (congrArg some (by kernel_rfl))⟩
  f78 := Try.func96.trans (congrArg some (by kernel_rfl))
  f79 := Try.func97.trans (congrArg some (by kernel_rfl))
  f88 := ⟨Try.f101.name, by decide, Try.func101.trans (congrArg some (by kernel_rfl))⟩
  f89 := Try.func102.trans (congrArg some (by kernel_rfl))
  f90 := Try.func103.trans (congrArg some (by kernel_rfl))
  f91 := ⟨Try.f104.name, by decide, Try.func104.trans (congrArg some (by kernel_rfl))⟩
  f92 := ⟨Try.f105.name, by decide, Try.func105.trans (congrArg some (by kernel_rfl))⟩
  f96 := ⟨Try.f107.name, by decide, Try.func107.trans (congrArg some (by kernel_rfl))⟩
  t0 := Try.underlying0
  a0 := Try.isAgg0
  z0 := Try.sizeOf0
  v0 := Try.zeroValue0
  t3 := Try.underlying3
  a3 := Try.isAgg3
  z3 := Try.sizeOf3
  v3 := Try.zeroValue3
  t4 := Try.underlying4
  a4 := Try.isAgg4
  z4 := Try.sizeOf4
  v4 := Try.zeroValue4
  t5 := Try.underlying5
  a5 := Try.isAgg5
  z5 := Try.sizeOf5
  v5 := Try.zeroValue5
  t9 := Try.underlying9
  a9 := Try.isAgg9
  z9 := Try.sizeOf9
  v9 := Try.zeroValue9
  t22 := Try.underlying72
  a22 := Try.isAgg72
  z22 := Try.sizeOf72
  v22 := Try.zeroValue72
  t23 := Try.underlying2
  a23 := Try.isAgg2
  z23 := Try.sizeOf2
  v23 := Try.zeroValue2
  t44 := Try.underlying137
  a44 := Try.isAgg137
  z44 := Try.sizeOf137
  v44 := Try.zeroValue137
  t51 := Try.underlying108
  a51 := Try.isAgg108
  z51 := Try.sizeOf108
  v51 := Try.zeroValue108
  t60 := Try.underlying131
  a60 := Try.isAgg131
  z60 := Try.sizeOf131
  v60 := Try.zeroValue131
  t61 := Try.underlying132
  a61 := Try.isAgg132
  z61 := Try.sizeOf132
  v61 := Try.zeroValue132
  t67 := Try.underlying140
  a67 := Try.isAgg140
  z67 := Try.sizeOf140
  v67 := Try.zeroValue140
  t69 := Try.underlying76
  a69 := Try.isAgg76
  z69 := Try.sizeOf76
  v69 := Try.zeroValue76
  t75 := Try.underlying143
  a75 := Try.isAgg143
  z75 := Try.sizeOf143
  v75 := Try.zeroValue143
  t79 := Try.underlying147
  a79 := Try.isAgg147
  z79 := Try.sizeOf147
  v79 := Try.zeroValue147
  t83 := Try.underlying149
  a83 := Try.isAgg149
  z83 := Try.sizeOf149
  v83 := Try.zeroValue149
  t84 := Try.underlying150
  a84 := Try.isAgg150
  z84 := Try.sizeOf150
  v84 := Try.zeroValue150 }
end Go.Proofs.Ytobaodkcjjgkdaa
namespace Go.Proofs.Ytobaodkcjjgkdaa
open Go Go.RowKit Go.Shelf Go.Sort

/-- Numbers, sorted. -/
def srt (xs : List Int) : List Int := xs.mergeSort fun x y => decide (x ≤ y)
theorem srt_len (xs : List Int) : (srt xs).length = xs.length := (List.mergeSort_perm _ _).length_eq
theorem sort64_any (g c : Nat) (zs : List Int) (w : World) (h : Row64 g zs w) (hl : zs.length ≤ 1000000) (B : Nat) (hB : B ≤ g) :
    Calls Try.prog 57 #[.slice (some ⟨g, 0, none⟩) zs.length c] w fun e w' => e = .returned (.tuple #[]) ∧ IntsR (some ⟨g, 0, none⟩) (srt zs) w' ∧ (B ≤ w.heap.size → Below B w w') ∧ (∀ k, k ≠ g → k < w.heap.size → w'.heap[k]? = w.heap[k]?) := by
  have hH : Holds (Value.int .i64) w g 0 zs.toArray := fun j hj => by
    have hj : j < zs.length := by simpa using hj
    rw [Nat.zero_add]
    refine ⟨?_, h.frozen j⟩
    rw [h.cell hj]
    simp [St.v, List.getD_eq_getElem?_getD, hj]
  refine (AnyG.slices_Sort_int l57 g 0 c zs w hH h.lt (by omega)).mono ?_
  rintro e w' ⟨rfl, n, os, rfl⟩
  have hlen : (zs.mergeSort fun x y => decide (x ≤ y)).toArray.size = zs.toArray.size := by simp
  have old : ∀ k, k ≠ g → k < w.heap.size → (grow (putRow (Value.int .i64) (Sort.ahead w n) g 0 (zs.mergeSort fun x y => decide (x ≤ y)).toArray) os).heap[k]? = w.heap[k]? := fun k hk hks => by
    rw [heap_grow_old _ _ (by rw [size_putRow]; exact hks)]
    show (w.heap.modify g _)[k]? = _
    rw [Array.getElem?_modify, if_neg (fun e => hk e.symm)]
  refine ⟨rfl, fun _ => ⟨g, 0, rfl, fun j hj => ?_⟩, fun hBw => ⟨rfl, rfl, rfl, by simp [size_putRow, Sort.ahead], fun k hk => old k (by omega) (by omega)⟩, old⟩
  rw [cell?_grow _ _ _ (by rw [size_putRow]; exact h.lt), cell?_putRow _ _ _ _ _ _ (holds_ahead _ _ n _ _ _ hH) hlen j (by have := srt_len zs; simp; omega)]
  have hj' : j < (srt zs).length := hj
  simp [srt, St.v, List.getD_eq_getElem?_getD] at hj' ⊢

set_option maxRecDepth 1000000 in
set_option maxHeartbeats 4000000 in
theorem equal_any (A B : Option Addr) (c cb : Nat) (xs ys : List Int) (w : World) (hE : IntsR A xs w) (hO : IntsR B ys w) (hl : xs.length ≤ 1000000) (hfl : ys.length ≤ 1000000) :
    Calls Try.prog 58 #[.slice A xs.length c, .slice B ys.length cb] w fun e w' => e = .returned (.bool (decide (xs = ys))) ∧ Below w.heap.size w w' := by
  have HE := Lib.hid hE; have HO := Lib.hid hO
  have l1 : (xs.length : Int) ≤ 1000000 := by omega
  have f1 : (ys.length : Int) ≤ 1000000 := by omega
  clear hE hO
  by_cases he : xs.length = ys.length
  · have hne : ((xs.length : Int) != (ys.length : Int)) = false := by rw [he]; simp
    have HEQ := Lib.hid he
    have hyl : ∀ k : Nat, k < xs.length → (k : Int) < ys.length := fun k hk => by omega
    have HYL := Lib.hid hyl
    clear he hyl
    go_enter Try.func58, Try.ntmps58
    go_wp2_with fail
    go_loopw [13] (fun x wr => ∃ k : Nat, k ≤ xs.length ∧ x = .int .i64 k ∧ Hid (∀ j, j < k → St.v xs j = St.v ys j) ∧ Below w.heap.size w wr) (fun x _ => xs.length - (intOf x).toNat)
    case atStart => exact ⟨0, by omega, rfl, Lib.hid (fun j hj => by omega), Below.refl _ _⟩
    case round =>
      obtain ⟨k, hk, rfl, hI, hb⟩ := hrel
      by_cases hlt : k < xs.length
      · have hlt1 : (k : Int) < xs.length := by omega
        have hlt2 := HYL.out k hlt
        obtain ⟨b, o, rfl, hc⟩ := HE.out (by omega)
        obtain ⟨b2, o2, rfl, hc2⟩ := HO.out (by have := HEQ.out; omega)
        have k1 := (hb.cell (p := ⟨b, o + k, none⟩) (World.block_lt_of_cell? w _ (hc k hlt))).trans (hc k hlt)
        have k2 := (hb.cell (p := ⟨b2, o2 + k, none⟩) (World.block_lt_of_cell? w _ (hc2 k (by have := HEQ.out; omega)))).trans (hc2 k (by have := HEQ.out; omega))
        have HB := Lib.hid hb
        obtain ⟨x, hx⟩ : ∃ x, St.v xs k = x := ⟨_, rfl⟩
        obtain ⟨y, hy⟩ : ∃ y, St.v ys k = y := ⟨_, rfl⟩
        rw [hx] at k1
        rw [hy] at k2
        by_cases hxy : x = y
        · have hd : (x != y) = false := by simp [hxy]
          have HI2 : Hid (∀ j, j < k + 1 → St.v xs j = St.v ys j) := Lib.hid fun j hj => by
            by_cases e : j = k
            · subst e; rw [hx, hy, hxy]
            · exact hI.out j (by omega)
          clear hx hy hxy hb hc hc2 hI
          go_wp2_with fail
          go_quiet (fail)
          go_wp2_with fail
          go_roundw
          case rel => exact ⟨k + 1, by omega, by go_num, HI2, below_drewN' HB.out nq⟩
          case measure => simp [intOf]; omega
        · have hd : (x != y) = true := by simp [hxy]
          have HD : Hid (decide (xs = ys) = false) := Lib.hid (decide_eq_false fun e => hxy (by rw [← hx, ← hy, e]))
          clear hx hy hxy hb hc hc2 hI
          go_wp2_with fail
          go_quiet (fail)
          go_wp2_with fail
          go_ret
          exact ⟨by rw [HD.out]; rfl, below_drewN' HB.out nq⟩
      · have hkk : k = xs.length := by omega
        subst hkk
        have HD : Hid (decide (xs = ys) = true) := Lib.hid (decide_eq_true (List.ext_getElem HEQ.out fun i h1 h2 => by
          have := hI.out i h1
          rwa [show St.v xs i = xs[i] from St.getD_at h1, show St.v ys i = ys[i] from St.getD_at h2] at this))
        have HB := Lib.hid hb
        clear hI hb
        go_wp2_with fail
        go_ret
        exact ⟨by rw [HD.out]; rfl, HB.out⟩
  · have hne : ((xs.length : Int) != (ys.length : Int)) = true := by
      rw [bne_iff_ne]; omega
    have HD : Hid (decide (xs = ys) = false) := Lib.hid (decide_eq_false fun e => he (by rw [e]))
    clear he
    go_enter Try.func58, Try.ntmps58
    go_wp2_with fail
    go_ret
    exact ⟨by rw [HD.out]; rfl, Below.refl _ _⟩

/-- Whether places are a spanning forest of the least weight. -/
def mnV (n : Int) (l : List Edge) (f : List Int) : Bool := spV n l f && decide (srt (wts l f) = wts l (accF n.toNat l (ordL l)))
theorem wts_len (l : List Edge) (os : List Int) : (wts l os).length = os.length := List.length_map ..
theorem spV_true {n : Int} {l : List Edge} {f : List Int} (h : spV n l f = true) : chkE n l f = 0 ∧ (accF n.toNat l f).length = f.length ∧ (accF n.toNat l (ordL l)).length = f.length := of_decide_eq_true h

set_option maxRecDepth 1000000 in
set_option maxHeartbeats 8000000 in
theorem minimal_any (n : Int) (A B : Option Addr) (c cb : Nat) (l : List Edge) (f : List Int) (w : World) (hE : Edges A l w) (hO : IntsR B f w) (hl : l.length ≤ 1000000) (hfl : f.length ≤ 1000000) :
    Calls Try.prog 31 #[.int .i64 n, .slice A l.length c, .slice B f.length cb] w fun e w' => e = .returned (.tuple #[.bool (mnV n l f), .int .i64 (chkE n l f)]) ∧ Below w.heap.size w w' := by
  have HS := Lib.hid (spans_any n A B c cb l f w hE hO hl hfl)
  have HE := Lib.hid hE; have HO := Lib.hid hO
  have l1 : (l.length : Int) ≤ 1000000 := by omega
  have f1 : (f.length : Int) ≤ 1000000 := by omega
  clear hE hO
  by_cases hs : spV n l f = true
  · obtain ⟨he, ha1, ha2⟩ := spV_true hs
    obtain ⟨hn, hf, hnd⟩ := chkE_zero he
    obtain ⟨k, rfl, hk, hm, hv⟩ := newE_zero hn
    rw [Int.toNat_natCast] at ha1 ha2
    have HV := Lib.hid hv; have HF := Lib.hid hf; have HZ := Lib.hid he
    have HM : Hid (mnV k l f = decide (srt (wts l f) = wts l (accF k l (ordL l)))) := Lib.hid (by unfold mnV; rw [hs, Int.toNat_natCast, Bool.true_and])
    have hS := HS.out
    rw [he, hs] at hS
    have HS2 := Lib.hid hS
    have HA2 := Lib.hid ha2
    clear hn hf hnd hv he hs hS HS ha1 ha2
    go_enter Try.func31, Try.ntmps31
    go_wp2_with fail
    refine HS2.out.mono ?_
    rintro e w1 ⟨rfl, hb⟩
    refine Hid.out ?_
    have HB1 := Lib.hid hb; have HE1 := Lib.hid (HE.out.on hb); have HO1 := Lib.hid (HO.out.on hb)
    clear hb HS2 HE HO
    refine Lib.hid ?_
    go_wp2_with fail
    refine (weights_any A B c cb l f w1 HE1.out HO1.out HF.out hl hfl).mono ?_
    rintro e w2 ⟨g, rfl, hg, hr, hb⟩
    refine Hid.out ?_
    have HB2 := Lib.hid (HB1.out.trans (hb.mono HB1.out.size)); have HE2 := Lib.hid (HE1.out.on hb); have HR2 := Lib.hid hr
    have hwg : w.heap.size ≤ g := Nat.le_trans HB1.out.size hg
    clear hb hr hg
    refine Lib.hid ?_
    go_wp2_with fail
    refine (order_ok A c l w2 HE2.out hl).mono ?_
    rintro e w3 ⟨go, rfl, ho, hb⟩
    refine Hid.out ?_
    have HB3 := Lib.hid (HB2.out.trans (hb.mono HB2.out.size)); have HE3 := Lib.hid (HE2.out.on hb); have HO3 := Lib.hid ho
    have HR3 : Hid (Row64 g (wts l f) w3) := Lib.hid ⟨(hb.block g HR2.out.lt).trans HR2.out.bh⟩
    clear hb ho
    refine Lib.hid ?_
    go_wp2_with fail
    refine (accept_ord k (by omega) A c go l w3 HE3.out HO3.out HV.out hl).mono ?_
    rintro e w4 ⟨D, cd, rfl, hD, -, hb⟩
    refine Hid.out ?_
    have HB4 := Lib.hid (HB3.out.trans (hb.mono HB3.out.size)); have HE4 := Lib.hid (HE3.out.on hb); have HD4 := Lib.hid hD
    have HR4 : Hid (Row64 g (wts l f) w4) := Lib.hid ⟨(hb.block g HR3.out.lt).trans HR3.out.bh⟩
    have hal := accF_len (n := k) (l := l)
    clear hb hD
    refine Lib.hid ?_
    go_wp2_with fail
    refine (weights_any A D c cd l (accF k l (ordL l)) w4 HE4.out HD4.out accF_mem hl (by omega)).mono ?_
    rintro e w5 ⟨g5, rfl, hg5, hr, hb⟩
    refine Hid.out ?_
    have HB5 := Lib.hid (HB4.out.trans (hb.mono HB4.out.size)); have HR5 := Lib.hid hr
    have hr5 : Row64 g (wts l f) w5 := ⟨(hb.block g HR4.out.lt).trans HR4.out.bh⟩
    have hne : g5 ≠ g := fun e => by have := HR4.out.lt; omega
    have hST := sort64_any g f.length (wts l f) w5 hr5 (by rw [wts_len]; exact hfl) w.heap.size hwg
    rw [wts_len] at hST
    have HST := Lib.hid hST
    clear hb hr hr5 hST
    refine Lib.hid ?_
    go_wp2_with fail
    refine HST.out.mono ?_
    rintro e w6 ⟨rfl, hi6, hb6, hold⟩
    refine Hid.out ?_
    have HB6 := Lib.hid (HB5.out.trans (hb6 HB5.out.size))
    have hR6 : Row64 g5 (wts l (accF k l (ordL l))) w6 := ⟨(hold g5 hne HR5.out.lt).trans HR5.out.bh⟩
    have hQ := equal_any (some ⟨g, 0, none⟩) (some ⟨g5, 0, none⟩) f.length (accF k l (ordL l)).length (srt (wts l f)) (wts l (accF k l (ordL l))) w6 hi6 (IntsR.of64 hR6) (by rw [srt_len, wts_len]; exact hfl) (by rw [wts_len]; omega)
    rw [srt_len, wts_len, wts_len, ← HM.out] at hQ
    have HQ := Lib.hid hQ
    clear hi6 hb6 hold hR6 hQ HST
    refine Lib.hid ?_
    go_wp2_with fail
    refine HQ.out.mono ?_
    rintro e w7 ⟨rfl, hb⟩
    refine Hid.out ?_
    have HB7 := Lib.hid (HB6.out.trans (hb.mono HB6.out.size))
    clear hb HQ
    refine Lib.hid ?_
    go_wp2_with fail
    go_ret2
    exact ⟨by rw [HZ.out]; rfl, HB7.out⟩
  · have hs : spV n l f = false := by simpa using hs
    have HM : Hid (mnV n l f = false) := Lib.hid (by unfold mnV; rw [hs]; rfl)
    have hS := HS.out
    rw [hs] at hS
    have HS2 := Lib.hid hS
    clear hs hS HS
    by_cases he : chkE n l f = 0
    · have hd : (chkE n l f != 0) = false := by simp [he]
      clear he
      go_enter Try.func31, Try.ntmps31
      go_wp2_with fail
      refine HS2.out.mono ?_
      rintro e w1 ⟨rfl, hb⟩
      refine Hid.out ?_
      have HB1 := Lib.hid hb
      clear hb HS2 HE HO
      refine Lib.hid ?_
      go_wp2_with fail
      go_ret2
      exact ⟨by rw [HM.out]; rfl, HB1.out⟩
    · have hd : (chkE n l f != 0) = true := by simp [he]
      clear he
      go_enter Try.func31, Try.ntmps31
      go_wp2_with fail
      refine HS2.out.mono ?_
      rintro e w1 ⟨rfl, hb⟩
      refine Hid.out ?_
      have HB1 := Lib.hid hb
      clear hb HS2 HE HO
      refine Lib.hid ?_
      go_wp2_with fail
      go_ret2
      exact ⟨by rw [HM.out]; rfl, HB1.out⟩
end Go.Proofs.Ytobaodkcjjgkdaa
namespace Go.Proofs.Ytobaodkcjjgkdaa
open Go

namespace Hp
/-- One labelling parts what the other parts. -/
def Fin (n : Nat) (K' K : List Int) : Prop := K'.length = n ∧ K.length = n ∧ ∀ x y, x < n → y < n → St.v K' x = St.v K' y → St.v K x = St.v K y
theorem Fin.refl {n : Nat} {K : List Int} (h : K.length = n) : Fin n K K := ⟨h, h, fun _ _ _ _ e => e⟩
theorem Fin.join {n : Nat} {K' K : List Int} (h : Fin n K' K) {a b : Nat} (ha : a < n) (hb : b < n) : Fin n (Uf.joined K' a b) (Uf.joined K a b) := by
  obtain ⟨h1, h2, h3⟩ := h
  refine ⟨by rw [joined_len, h1], by rw [joined_len, h2], fun x y hx hy => ?_⟩
  rw [joined_same K' (by omega) (by omega), joined_same K (by omega) (by omega)]
  rintro (h | ⟨p, q⟩ | ⟨p, q⟩)
  · exact .inl (h3 x y hx hy h)
  · exact .inr (.inl ⟨h3 x a hx ha p, h3 y b hy hb q⟩)
  · exact .inr (.inr ⟨h3 x b hx hb p, h3 y a hy ha q⟩)
theorem Fin.up {n : Nat} {K' K : List Int} (h : Fin n K' K) {a b : Nat} : Fin n K' (Uf.joined K a b) := by
  obtain ⟨h1, h2, h3⟩ := h
  refine ⟨h1, by rw [joined_len, h2], fun x y hx hy e => ?_⟩
  rw [joined_same K (by omega) (by omega)]
  exact .inl (h3 x y hx hy e)
theorem growD_len (l : List Edge) : ∀ os K, (growD l os K).length ≤ os.length
  | [], _ => Nat.le_refl _
  | i :: r, K => by
    rw [growD]
    split
    · have := growD_len l r K
      simp only [List.length_cons]; omega
    · have := growD_len l r (Uf.joined K (eU l i) (eV l i))
      simp only [List.length_cons]; omega
theorem all_cons {l : List Edge} {i : Int} {r K : List Int} (h : growD l (i :: r) K = i :: r) : St.v K (eU l i) ≠ St.v K (eV l i) ∧ growD l r (Uf.joined K (eU l i) (eV l i)) = r := by
  rw [growD] at h
  split at h
  · have := growD_len l r K
    rw [h] at this
    simp at this
    omega
  · rename_i hne
    exact ⟨hne, (List.cons.inj h).2⟩
/-- What is accepted whole is accepted in part. -/
theorem acc_sub {n : Nat} {l : List Edge} (hv : Vld n l) {os' os : List Int} (hs : os'.Sublist os) : ∀ {K' K : List Int}, (∀ x ∈ os, 0 ≤ x ∧ x < l.length) → Fin n K' K → growD l os K = os → growD l os' K' = os' := by
  induction hs with
  | slnil => intro K' K _ _ _; rfl
  | cons i hs ih =>
    intro K' K ho hf h
    obtain ⟨-, h2⟩ := all_cons h
    exact ih (fun x hx => ho x (List.mem_cons_of_mem i hx)) hf.up h2
  | cons_cons i hs ih =>
    intro K' K ho hf h
    obtain ⟨h1, h2⟩ := all_cons h
    have hi := ends_lt hv (ho i (by simp))
    rw [growD, if_neg (fun e => h1 (hf.2.2 _ _ hi.1 hi.2 e)), ih (fun x hx => ho x (List.mem_cons_of_mem i hx)) (hf.join hi.1 hi.2) h2]
theorem acc_acc (l : List Edge) : ∀ os K, growD l (growD l os K) K = growD l os K ∧ growK l (growD l os K) K = growK l os K
  | [], _ => ⟨rfl, rfl⟩
  | i :: r, K => by
    have a := acc_acc l r K
    have b := acc_acc l r (Uf.joined K (eU l i) (eV l i))
    by_cases h : St.v K (eU l i) = St.v K (eV l i)
    · have e1 : growD l (i :: r) K = growD l r K := by rw [growD, if_pos h]
      have e2 : growK l (i :: r) K = growK l r K := by rw [growK, if_pos h]
      rw [e1, e2]
      exact a
    · have e1 : growD l (i :: r) K = i :: growD l r (Uf.joined K (eU l i) (eV l i)) := by rw [growD, if_neg h]
      have e2 : growK l (i :: r) K = growK l r (Uf.joined K (eU l i) (eV l i)) := by rw [growK, if_neg h]
      rw [e1, e2, growD, if_neg h, growK, if_neg h, b.1, b.2]
      exact ⟨rfl, rfl⟩
theorem roots_mono {n : Nat} {K K' : List Int} (h : Can n K) (h' : Can n K') (hs : ∀ x y, x < n → y < n → St.v K x = St.v K y → St.v K' x = St.v K' y) : roots K' n ≤ roots K n := by
  have sub : ∀ x, x < n → St.v K' x = x → St.v K x = x := fun x hx e => by
    obtain ⟨m, m1, m2, m3⟩ := h.2 x hx
    have := hs x m hx (by omega) (by rw [m1, m3])
    obtain ⟨p, p1, p2, p3⟩ := h'.2 m (by omega)
    rw [e, p1] at this
    have : m = x := by omega
    rw [m1, this]
  unfold roots
  refine List.Sublist.length_le ?_
  have h1 : (List.range n).filter (fun x => decide (St.v K' x = x)) = ((List.range n).filter fun x => decide (St.v K x = x)).filter fun x => decide (St.v K' x = x) := by
    rw [List.filter_filter]
    refine List.filter_congr fun y hy => ?_
    by_cases hy' : St.v K' y = y
    · rw [decide_eq_true hy', decide_eq_true (sub y (List.mem_range.1 hy) hy')]; rfl
    · rw [decide_eq_false hy']; rfl
  rw [h1]
  exact List.filter_sublist
end Hp
theorem accF_eq (n : Nat) (l : List Edge) (os : List Int) : accF n l os = Hp.growD l os (Uf.iota n) := by
  unfold accF
  rw [Hp.growF_eq, List.nil_append]
/-- Labels are told by the set of edges. -/
theorem lab_set {n : Nat} {l m : List Edge} (hv : Vld n l) (hm : Vld n m) {os : List Int} (ho : ∀ x ∈ os, 0 ≤ x ∧ x < l.length) (h : ∀ p, p ∈ os.map (Hp.ends l) ↔ p ∈ prs m) : Hp.growK l os (Uf.iota n) = labK n m := by
  refine (Hp.growK_can hv os _ ho (Hp.Can.iota n)).eq (labK_can hm) fun x y hx hy => ?_
  have k1 := (Hp.growK_lab hv os (Uf.iota n) [] ho (Hp.iota_ok n)).2 x y hx hy
  rw [List.nil_append] at k1
  rw [k1, lab_conn hm hx hy]
  exact ⟨fun c => c.subset fun p hp => (h p).1 hp, fun c => c.subset fun p hp => (h p).2 hp⟩
/-- How many weights are no greater. -/
def cnt (th : Int) (xs : List Int) : Nat := (xs.filter fun x => decide (x ≤ th)).length
def loI (l : List Edge) (th : Int) (os : List Int) : List Int := os.filter fun i => decide (wtOf l i ≤ th)
theorem cnt_wts (l : List Edge) (th : Int) (os : List Int) : cnt th (wts l os) = (loI l th os).length := by
  unfold cnt wts loI
  rw [List.filter_map, List.length_map]
  rfl
theorem loI_sub (l : List Edge) (th : Int) (os : List Int) : (loI l th os).Sublist os := List.filter_sublist
/-- Accepted places, up to a weight, are as many as the vertices without the sets that they leave. -/
theorem cnt_acc {n : Nat} {l : List Edge} (hv : Vld n l) {c : List Int} (hc : ∀ x ∈ c, 0 ≤ x ∧ x < l.length) (ha : accF n l c = c) (th : Int) : cnt th (wts l c) + Hp.roots (Hp.growK l (loI l th c) (Uf.iota n)) n = n := by
  have hsub := loI_sub l th c
  have ho : ∀ x ∈ loI l th c, 0 ≤ x ∧ x < l.length := fun x hx => hc x (hsub.mem hx)
  have h1 : accF n l (loI l th c) = loI l th c := by
    rw [accF_eq] at ha ⊢
    exact Hp.acc_sub hv hsub hc (Hp.Fin.refl (Uf.iota_length n)) ha
  have := Hp.acc_count hv (loI l th c) ho
  rw [h1] at this
  rw [cnt_wts]
  exact this
theorem lo_prs {l : List Edge} {th : Int} {os : List Int} (ho : ∀ x ∈ os, 0 ≤ x ∧ x < l.length) : ∀ p ∈ (loI l th os).map (Hp.ends l), p ∈ prs (lo th l) := fun p hp => by
  obtain ⟨i, hi, rfl⟩ := List.mem_map.1 hp
  unfold loI at hi
  rw [List.mem_filter] at hi
  obtain ⟨a, b⟩ := ho i hi.1
  have hk : i.toNat < l.length := by omega
  refine List.mem_map.2 ⟨l.getD i.toNat edge0, mem_lo.2 ⟨?_, by simpa [wtOf] using hi.2⟩, rfl⟩
  rw [show l.getD i.toNat edge0 = l[i.toNat] by simp [List.getD_eq_getElem?_getD, hk]]
  exact List.getElem_mem hk
/-- No forest has more light edges than Kruskal's. -/
theorem cnt_le {n : Nat} {l : List Edge} (hv : Vld n l) {c : List Int} (hc : ∀ x ∈ c, 0 ≤ x ∧ x < l.length) (ha : accF n l c = c) (th : Int) : cnt th (wts l c) + Hp.roots (labK n (lo th l)) n ≤ n := by
  have h := cnt_acc hv hc ha th
  have ho : ∀ x ∈ loI l th c, 0 ≤ x ∧ x < l.length := fun x hx => hc x ((loI_sub l th c).mem hx)
  have hm := Hp.roots_mono (Hp.growK_can hv (loI l th c) _ ho (Hp.Can.iota n)) (labK_can (hv.lo th)) fun x y hx hy e => by
    have k1 := (Hp.growK_lab hv (loI l th c) (Uf.iota n) [] ho (Hp.iota_ok n)).2 x y hx hy
    rw [List.nil_append] at k1
    exact (lab_conn (hv.lo th) hx hy).2 ((k1.1 e).subset (lo_prs hc))
  omega
theorem acc_ord (n : Nat) (l : List Edge) : accF n l (accF n l (ordL l)) = accF n l (ordL l) := by
  rw [accF_eq n l (ordL l), accF_eq]
  exact (Hp.acc_acc l _ _).1
/-- Kruskal's has just as many. -/
theorem cnt_for {n : Nat} {l : List Edge} (hv : Vld n l) (th : Int) : cnt th (wts l (accF n l (ordL l))) + Hp.roots (labK n (lo th l)) n = n := by
  have h := cnt_acc hv accF_mem (acc_ord n l) th
  have e : Hp.growK l (loI l th (accF n l (ordL l))) (Uf.iota n) = labK n (lo th (forE n l)) := by
    refine lab_set hv ((forE_vld hv).lo th) (fun x hx => accF_mem x ((loI_sub l th _).mem hx)) fun p => ?_
    constructor
    · intro hp
      obtain ⟨i, hi, rfl⟩ := List.mem_map.1 hp
      unfold loI at hi
      rw [List.mem_filter] at hi
      exact List.mem_map.2 ⟨l.getD i.toNat edge0, mem_lo.2 ⟨List.mem_map.2 ⟨i, hi.1, rfl⟩, by simpa [wtOf] using hi.2⟩, rfl⟩
    · intro hp
      obtain ⟨x, hx, rfl⟩ := List.mem_map.1 hp
      obtain ⟨h1, h2⟩ := mem_lo.1 hx
      obtain ⟨i, hi, rfl⟩ := List.mem_map.1 h1
      refine List.mem_map.2 ⟨i, ?_, rfl⟩
      unfold loI
      rw [List.mem_filter]
      exact ⟨hi, by simpa [wtOf] using h2⟩
  rw [e, ← thr hv th] at h
  exact h
end Go.Proofs.Ytobaodkcjjgkdaa
