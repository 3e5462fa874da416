/- KruskalThresholds walked. Links that came in, opened. KruskalCycles walked. The row of KruskalCycles. -/
import Derived.Test.YtobaodkcjjgkdaaMa12
namespace Go.Proofs.Ytobaodkcjjgkdaa
open Go Go.RowKit

theorem forest_ok (A : Option Addr) (c : Nat) (l : List Edge) (w : World) (hE : Edges A l w) (hv : Vld 30 l) (hl : l.length ≤ 16384) :
    Calls Try.prog 18 #[.int .i64 30, .slice A l.length c] w fun e w' => ∃ B cf, e = .returned (.tuple #[.slice B (accF 30 l (ordL l)).length cf, .int .i64 0]) ∧ IntsR B (accF 30 l (ordL l)) w' ∧ (accF 30 l (ordL l)).length ≤ cf ∧ Below w.heap.size w w' := by
  refine (forest_any 30 A c l w hE (by omega)).mono ?_
  rintro e w' ⟨vo, rfl, ho, hb⟩
  have h0 : newE 30 l = 0 := newE_ok (n := 30) hv (by decide) hl
  have h1 : forF 30 l = accF 30 l (ordL l) := forF_ok (n := 30) hv (by decide) hl
  rw [h1] at ho
  obtain ⟨B, cf, rfl, hO, hcf⟩ := IntsR.ofOwn ho
  exact ⟨B, cf, by rw [h0], hO, hcf, hb⟩
theorem new_ok (A : Option Addr) (c : Nat) (l : List Edge) (w : World) (hE : Edges A l w) (hv : Vld 30 l) (hl : l.length ≤ 16384) :
    Calls Try.prog 25 #[.int .i64 30, .slice A l.length c] w fun e w' => ∃ gp, e = .returned (.tuple #[.pointer (some ⟨gp, 0, none⟩), .int .i64 0]) ∧ Grf 30 l gp w' ∧ Below w.heap.size w w' := by
  refine (new_any 30 A c l w hE (by omega)).mono ?_
  rintro e w' ⟨pv, rfl, hp, hb⟩
  have h0 : newE 30 l = 0 := newE_ok (n := 30) hv (by decide) hl
  rcases hp with ⟨h, -⟩ | ⟨-, k, gp, hk, -, -, -, rfl, -, hg⟩
  · exact absurd h0 h
  · have : k = 30 := by omega
    subst this
    exact ⟨gp, by rw [h0], hg, hb⟩
theorem accF_len {n : Nat} {l : List Edge} : (accF n l (ordL l)).length ≤ l.length := by
  have := growF_len l (ordL l) (Uf.iota n) []
  rw [ordL_len] at this
  simpa [accF] using this
/-- Labels up to a weight. -/
theorem lab_under (l : List Edge) (hv : Vld 30 l) (th : Int) : (labK 30 (lo th l)).length = 30 := labK_len (hv.lo th)

set_option maxRecDepth 1000000 in
set_option maxHeartbeats 16000000 in
theorem thresholds_any (A : Option Addr) (c : Nat) (ls : List Link) (th : Int) (w : World) (hE : Links A ls w) (_ : ls.length ≤ c) (hw : LOk ls) :
    Calls Try.prog 7 #[.slice A ls.length c, .int .i64 th] w fun e w' => e = .returned (.bool true) ∧ Below w.heap.size w w' := by
  by_cases hl : 120 < ls.length
  · have hl1 : (120 : Int) < ls.length := by omega
    clear hE hw
    go_enter Try.func7, Try.ntmps7
    go_wp2_with fail
    refine (works_any _).mono ?_
    rintro e w1 ⟨rfl, hb⟩
    refine Hid.out ?_
    have HB1 := Lib.hid hb
    clear hb
    refine Lib.hid ?_
    go_wp2_with fail
    go_ret
    exact ⟨rfl, HB1.out⟩
  · have hl1 : (ls.length : Int) ≤ 120 := by omega
    have HBA := Lib.hid (built_any A c ls w hE (by omega) hw)
    have hbl := built_len ls
    have HV := Lib.hid (built_vld ls)
    clear hE hw
    generalize built ls = l at *
    have hll : l.length ≤ 120 := by omega
    have HVF := Lib.hid (forE_vld HV.out)
    have hfl := accF_len (n := 30) (l := l)
    have HMF := Lib.hid (accF_mem (n := 30) (l := l))
    have HTH := Lib.hid (fun t => thr HV.out t)
    have HLE := Lib.hid (fun t => lab_under l HV.out t)
    have HLF := Lib.hid (fun t => lab_under (forE 30 l) HVF.out t)
    have HFO := Lib.hid (fun B c w h => forest_ok B c l w h HV.out (by omega))
    have hlf : (forE 30 l).length = (accF 30 l (ordL l)).length := pickE_len l _
    have hfe : forE 30 l = pickE l (accF 30 l (ordL l)) := rfl
    generalize accF 30 l (ordL l) = f at *
    generalize forE 30 l = le at *
    have HFE := Lib.hid hfe
    clear hfe
    have hlel : le.length ≤ 120 := by omega
    clear hlf
    go_enter Try.func7, Try.ntmps7
    go_wp2_with fail
    refine HBA.out.mono ?_
    rintro e w1 ⟨v1, rfl, ho, hb⟩
    refine Hid.out ?_
    obtain ⟨B, cB, rfl, hE1, hcB⟩ := Edges.ofOwn ho
    have HE1 := Lib.hid hE1; have HB1 := Lib.hid hb
    clear ho hb hE1 HBA
    refine Lib.hid ?_
    go_wp2_with fail
    refine (HFO.out B cB w1 HE1.out).mono ?_
    rintro e w2 ⟨BF, cf, rfl, hO, hcf, hb⟩
    refine Hid.out ?_
    have HE2 := Lib.hid (HE1.out.on hb); have HO2 := Lib.hid hO; have HB2 := Lib.hid (HB1.out.trans (hb.mono HB1.out.size))
    clear hb hO
    refine Lib.hid ?_
    go_wp2_with fail
    refine (new_ok B cB l w2 HE2.out HV.out (by omega)).mono ?_
    rintro e w3 ⟨gpa, rfl, hg, hb⟩
    refine Hid.out ?_
    have HE3 := Lib.hid (HE2.out.on hb); have HO3 := Lib.hid (HO2.out.on hb); have HG3 := Lib.hid hg; have HB3 := Lib.hid (HB2.out.trans (hb.mono HB2.out.size))
    clear hb hg
    refine Lib.hid ?_
    go_wp2_with fail
    refine (some_any B BF cB cf l f w3 HE3.out HO3.out HMF.out (by omega) (by omega)).mono ?_
    rintro e w4 ⟨v4, rfl, ho, hb⟩
    refine Hid.out ?_
    rw [← HFE.out] at ho
    obtain ⟨BS, cS, rfl, hE4, hcS⟩ := Edges.ofOwn ho
    have HG4 := Lib.hid (HG3.out.on hb); have HE4 := Lib.hid hE4; have HB4 := Lib.hid (HB3.out.trans (hb.mono HB3.out.size))
    clear hb ho hE4
    refine Lib.hid ?_
    go_wp2_with fail
    refine (new_ok BS cS le w4 HE4.out HVF.out (by omega)).mono ?_
    rintro e w5 ⟨gpb, rfl, hg, hb⟩
    refine Hid.out ?_
    have HX0 : Hid (Below w5.heap.size w5 w5) := Lib.hid (Below.refl _ _)
    have HG5 := Lib.hid (HG4.out.on hb); have HH5 := Lib.hid hg; have HB5 := Lib.hid (HB4.out.trans (hb.mono HB4.out.size))
    clear hb hg
    refine Lib.hid ?_
    go_wp2_with fail
    have HB0 : Hid (Below w.heap.size w w5) := HB5
    refine (under_any 30 (by decide) l th gpa _ (HG5.out.on HX0.out) HV.out (by omega)).mono ?_
    rintro e wa ⟨ua, rfl, -, hg, hb⟩
    refine Hid.out ?_
    have HXa := Lib.hid (HX0.out.trans (hb.mono HX0.out.size)); have HBa := Lib.hid (HB0.out.trans (hb.mono HB0.out.size)); have HUa := Lib.hid hg
    clear hb hg
    refine Lib.hid ?_
    go_wp2_with fail
    refine (labels_any 30 (by decide) (by decide) (lo th l) ua wa HUa.out (HV.out.lo _) (by have := lo_len th l; omega)).mono ?_
    rintro e wb ⟨ga, rfl, -, hr, hb⟩
    refine Hid.out ?_
    have HXb := Lib.hid (HXa.out.trans (hb.mono HXa.out.size)); have HBb := Lib.hid (HBa.out.trans (hb.mono HBa.out.size)); have HRb := Lib.hid (IntsR.ofRow hr)
    clear hb hr
    refine Lib.hid ?_
    go_wp2_with fail
    refine (under_any 30 (by decide) le th gpb _ (HH5.out.on HXb.out) HVF.out (by omega)).mono ?_
    rintro e wc ⟨uc, rfl, -, hg, hb⟩
    refine Hid.out ?_
    have HXc := Lib.hid (HXb.out.trans (hb.mono HXb.out.size)); have HBc := Lib.hid (HBb.out.trans (hb.mono HBb.out.size)); have HUc := Lib.hid hg; have HRc := Lib.hid (HRb.out.on hb)
    clear hb hg
    refine Lib.hid ?_
    go_wp2_with fail
    refine (labels_any 30 (by decide) (by decide) (lo th le) uc wc HUc.out (HVF.out.lo _) (by have := lo_len th le; omega)).mono ?_
    rintro e wd ⟨gd, rfl, -, hr, hb⟩
    refine Hid.out ?_
    have HXd := Lib.hid (HXc.out.trans (hb.mono HXc.out.size)); have HBd := Lib.hid (HBc.out.trans (hb.mono HBc.out.size))
    have hN := numbers_any (some ⟨ga, 0, none⟩) (some ⟨gd, 0, none⟩) 30 30 (labK 30 (lo th l)) (labK 30 (lo th le)) wd (HRc.out.on hb) (IntsR.ofRow hr) (by rw [HLE.out]; decide) (by rw [HLF.out]; decide) (by rw [HLE.out]; decide) (by rw [HLF.out]; decide)
    rw [HLE.out, HLF.out, HTH.out, decide_eq_true rfl] at hN
    have HN := Lib.hid hN
    clear hb hr hN
    refine Lib.hid ?_
    go_wp2_with fail
    refine HN.out.mono ?_
    rintro e we ⟨rfl, hd⟩
    refine Hid.out ?_
    have HXe := Lib.hid (HXd.out.trans ((drawn_below hd).mono HXd.out.size)); have HBe := Lib.hid (HBd.out.trans ((drawn_below hd).mono HBd.out.size))
    clear hd HN
    refine Lib.hid ?_
    go_wp2_with fail
    clear HX0 HXa HXb HXc HXd HBa HBb HBc HBd HB0 HUa HUc HRb HRc
    go_loopw [12] (fun x wr => ∃ t : Int, -5 ≤ t ∧ t ≤ 6 ∧ x = .int .i64 t ∧ Below w5.heap.size w5 wr ∧ Below w.heap.size w wr) (fun x _ => (6 - intOf x).toNat)
    case atStart => exact ⟨-5, by omega, by omega, rfl, HXe.out, HBe.out⟩
    case round =>
      obtain ⟨t, t0, t1, rfl, hx, hb⟩ := hrel
      have HX0 := Lib.hid hx; have HB0 := Lib.hid hb
      clear hx hb
      by_cases hlt : t ≤ 5
      · go_wp2_with fail
        refine (under_any 30 (by decide) l t gpa _ (HG5.out.on HX0.out) HV.out (by omega)).mono ?_
        rintro e wa ⟨ua, rfl, -, hg, hb⟩
        refine Hid.out ?_
        have HXa := Lib.hid (HX0.out.trans (hb.mono HX0.out.size)); have HBa := Lib.hid (HB0.out.trans (hb.mono HB0.out.size)); have HUa := Lib.hid hg
        clear hb hg
        refine Lib.hid ?_
        go_wp2_with fail
        refine (labels_any 30 (by decide) (by decide) (lo t l) ua wa HUa.out (HV.out.lo _) (by have := lo_len t l; omega)).mono ?_
        rintro e wb ⟨ga, rfl, -, hr, hb⟩
        refine Hid.out ?_
        have HXb := Lib.hid (HXa.out.trans (hb.mono HXa.out.size)); have HBb := Lib.hid (HBa.out.trans (hb.mono HBa.out.size)); have HRb := Lib.hid (IntsR.ofRow hr)
        clear hb hr
        refine Lib.hid ?_
        go_wp2_with fail
        refine (under_any 30 (by decide) le t gpb _ (HH5.out.on HXb.out) HVF.out (by omega)).mono ?_
        rintro e wc ⟨uc, rfl, -, hg, hb⟩
        refine Hid.out ?_
        have HXc := Lib.hid (HXb.out.trans (hb.mono HXb.out.size)); have HBc := Lib.hid (HBb.out.trans (hb.mono HBb.out.size)); have HUc := Lib.hid hg; have HRc := Lib.hid (HRb.out.on hb)
        clear hb hg
        refine Lib.hid ?_
        go_wp2_with fail
        refine (labels_any 30 (by decide) (by decide) (lo t le) uc wc HUc.out (HVF.out.lo _) (by have := lo_len t le; omega)).mono ?_
        rintro e wd ⟨gd, rfl, -, hr, hb⟩
        refine Hid.out ?_
        have HXd := Lib.hid (HXc.out.trans (hb.mono HXc.out.size)); have HBd := Lib.hid (HBc.out.trans (hb.mono HBc.out.size))
        have hN := numbers_any (some ⟨ga, 0, none⟩) (some ⟨gd, 0, none⟩) 30 30 (labK 30 (lo t l)) (labK 30 (lo t le)) wd (HRc.out.on hb) (IntsR.ofRow hr) (by rw [HLE.out]; decide) (by rw [HLF.out]; decide) (by rw [HLE.out]; decide) (by rw [HLF.out]; decide)
        rw [HLE.out, HLF.out, HTH.out, decide_eq_true rfl] at hN
        have HN := Lib.hid hN
        clear hb hr hN
        refine Lib.hid ?_
        go_wp2_with fail
        refine HN.out.mono ?_
        rintro e we ⟨rfl, hd⟩
        refine Hid.out ?_
        have HXe := Lib.hid (HXd.out.trans ((drawn_below hd).mono HXd.out.size)); have HBe := Lib.hid (HBd.out.trans ((drawn_below hd).mono HBd.out.size))
        clear hd HN
        refine Lib.hid ?_
        go_wp2_with fail
        go_roundw
        case rel => exact ⟨t + 1, by omega, by omega, rfl, HXe.out, HBe.out⟩
        case measure => simp [intOf]; omega
      · go_wp2_with fail
        refine (works_any _).mono ?_
        rintro e wz ⟨rfl, hb⟩
        refine Hid.out ?_
        have HBz := Lib.hid (HB0.out.trans (hb.mono HB0.out.size))
        clear hb
        refine Lib.hid ?_
        go_wp2_with fail
        go_ret
        exact ⟨rfl, HBz.out⟩
end Go.Proofs.Ytobaodkcjjgkdaa
namespace Go.Proofs.Ytobaodkcjjgkdaa
open Go Go.RowKit Go.ChangeShapes Go.WideShapes Go.ChangeAt

theorem u8_wf {z : Int} (h : (Lit.int .u8 z).wf = true) : 0 ≤ z ∧ z < 256 := by
  have : 0 ≤ z ∧ z ≤ 255 := by simpa [Lit.wf, IntKind.min, IntKind.max, IntKind.signed, IntKind.bits] using h
  exact ⟨this.1, by omega⟩
theorem i8_wf {z : Int} (h : (Lit.int .i8 z).wf = true) : -128 ≤ z ∧ z < 128 := by
  have : -128 ≤ z ∧ z ≤ 127 := by simpa [Lit.wf, IntKind.min, IntKind.max, IntKind.signed, IntKind.bits] using h
  exact ⟨this.1, by omega⟩
set_option maxRecDepth 100000 in
theorem open_links {H : Type} {enc : TypeId × Value → H} {W : World} {base : Nat} {v : Value} {d : DataW H} {p : List MemPlace} (hv : Value.okWide Try.prog W .any base 40 v) (h : DataW.Trod enc Try.prog W 0 (fun _ => true) true 40 v d p) :
    ∃ A l c, v = .slice A l.length c ∧ l.length ≤ c ∧ Links A l W ∧ LOk l := by
  obtain ⟨A, n, c, rfl⟩ := okWide_slice Try.underlying40 hv
  obtain ⟨fuel, hf⟩ := h
  rcases Go.Deep.open_slice Try.underlying40 hf with ⟨hcs, -⟩ | ⟨a, len, cap, m, k, D, Pl, hcs, -, hle, -, hm, -, hx⟩
  · have e : A = none ∧ n = 0 ∧ c = 0 := by simpa [Value.cells] using hcs
    obtain ⟨rfl, rfl, rfl⟩ := e
    exact ⟨none, [], 0, rfl, Nat.le_refl _, fun h => absurd h (by simp), fun e he => absurd he (by simp)⟩
  · have e : A = some a ∧ n = len ∧ c = cap := by simpa [Value.cells] using hcs
    obtain ⟨rfl, rfl, rfl⟩ := e
    have hmc : m = c := by simpa using hm
    have hsz : Try.prog.cellsOf 83 = 3 := by kernel_rfl
    have each : ∀ i, i < n → ∃ x : Link, (W.cell? (a.add (i * 3)) = some (.int .u8 x.U) ∧ W.cell? (a.add (i * 3 + 1)) = some (.int .u8 x.V) ∧ W.cell? (a.add (i * 3 + 2)) = some (.int .i8 x.W)) ∧ 0 ≤ x.U ∧ x.U < 256 ∧ 0 ≤ x.V ∧ x.V < 256 ∧ -128 ≤ x.W ∧ x.W < 128 := fun i hi => by
      obtain ⟨cs', h1, h2⟩ := hx i (by omega)
      rw [hsz] at h1
      obtain ⟨_, hlen, hcell⟩ := World.cells?_some h1
      obtain ⟨xs, q, -, -, -, hxl, hq⟩ := DataW.trod_struct Try.underlying83 h2
      match cs', hlen, xs, hxl with
      | [v0, v1, v2], _, [y0, y1, y2], _ =>
        have g0 := hq 0 _ rfl
        have g1 := hq 1 _ rfl
        have g2 := hq 2 _ rfl
        have s1 : Try.prog.cellsOf 5 = 1 := by kernel_rfl
        have s2 : Try.prog.cellsOf 55 = 1 := by kernel_rfl
        simp [s1, s2] at g0 g1 g2
        obtain ⟨z0, e0, -, w0⟩ := DataW.trod_int Try.underlying5 g0
        obtain ⟨z1, e1, -, w1⟩ := DataW.trod_int Try.underlying5 g1
        obtain ⟨z2, e2, -, w2⟩ := DataW.trod_int Try.underlying55 g2
        have c0 := hcell 0 (by omega)
        have c1 := hcell 1 (by omega)
        have c2 := hcell 2 (by omega)
        rw [Go.Deep.add_add] at c0 c1 c2
        injection e0 with e0
        injection e1 with e1
        injection e2 with e2
        subst e0 e1 e2
        exact ⟨⟨z0, z1, z2⟩, ⟨c0, c1, c2⟩, (u8_wf w0).1, (u8_wf w0).2, (u8_wf w1).1, (u8_wf w1).2, i8_wf w2⟩
    obtain ⟨l, hl, hp⟩ := list_of link0 _ n each
    refine ⟨some a, l, c, by rw [hl], by omega, fun hn => ?_, fun e he => ?_⟩
    · have hs := World.cell?_spot (hp 0 (by omega)).1.1
      obtain ⟨b, o, s⟩ := a
      have hs : s = none := by simpa [Addr.add] using hs
      subst hs
      refine ⟨b, o, rfl, fun j hj => ?_⟩
      obtain ⟨⟨c0, c1, c2⟩, -⟩ := hp j (by omega)
      rw [add_off] at c0 c1 c2
      exact ⟨c0, c1, c2⟩
    · obtain ⟨i, hi, rfl⟩ := List.getElem_of_mem he
      have := (hp i (by omega)).2
      rwa [show l.getD i link0 = l[i] by simp [List.getD_eq_getElem?_getD, hi]] at this

theorem thresholds_row (A : Option Addr) (c : Nat) (ls : List Link) (th : Int) (w : World) (hE : Links A ls w) (hc : ls.length ≤ c) (hw : LOk ls) (_ : I64 th) :
    Calls Try.prog 7 #[.slice A ls.length c, .int .i64 th] w fun e w' => e = .returned (.bool true) ∧ Below w.heap.size w w' := thresholds_any A c ls th w hE hc hw
end Go.Proofs.Ytobaodkcjjgkdaa
namespace Go.Proofs.Ytobaodkcjjgkdaa
open Go Go.RowKit

/-- A row of truths. -/
def truths (bs : List Bool) : Array Value := (bs.map Value.bool).toArray
structure RowB (g : Nat) (bs : List Bool) (w : World) : Prop where
  bh : w.heap[g]? = some (.cells (truths bs) 4 (0, 0))
theorem RowB.lt {g : Nat} {bs : List Bool} {w : World} (h : RowB g bs w) : g < w.heap.size := block_lt h.bh
theorem RowB.cell {g : Nat} {bs : List Bool} {w : World} (h : RowB g bs w) {i : Nat} (hi : i < bs.length) : w.cell? ⟨g, i, none⟩ = some (.bool (bs.getD i false)) := by
  rw [cells_of_block h.bh]
  simp [truths, List.getD_eq_getElem?_getD, hi]
theorem RowB.frozen {g : Nat} {bs : List Bool} {w : World} (h : RowB g bs w) (i : Nat) : w.frozen? ⟨g, i, none⟩ = false := frozen_of_block h.bh i
theorem RowB.on {g : Nat} {bs : List Bool} {w w' : World} (h : RowB g bs w) (hb : Below w.heap.size w w') : RowB g bs w' := ⟨(hb.block _ h.lt).trans h.bh⟩
theorem RowB.set {g : Nat} {bs : List Bool} {w : World} (h : RowB g bs w) (i : Nat) (x : Bool) : RowB g (bs.set i x) (w.setCell ⟨g, i, none⟩ (.bool x)) := by
  refine ⟨(set_same h.bh).trans ?_⟩
  congr 2
  apply Array.ext'
  simp [truths, List.map_set]
theorem info_bool : (Try.prog.info? 4).map (fun i => (i.zero, i.size, i.bytes)) = some (some (.bool false), 1, 1) := by kernel_rfl
theorem mk_truths (n : Nat) (hn : n ≤ 1000000) (W : World) : (Instr.makeSlice 46 (.int .i64 (n : Int)) (.int .i64 (n : Int))).run Try.prog W = .ok (.slice (some ⟨W.heap.size, 0, none⟩) n n) (W.alloc (.cells (truths (List.replicate n false)) 4)) := by
  obtain ⟨i0, hi, hz0, hz1, hz2⟩ := info_parts info_bool
  have h := run_make (P := Try.prog) W 46 4 i0 (.bool false) Try.underlying46 hi hz0 .i64 .i64 n n (by omega) (by omega) (by rw [hz2]; omega) (by omega)
  have e : madeCells (Value.bool false).cells (n * i0.size) = truths (List.replicate n false) := by
    rw [hz1, Nat.mul_one]
    apply Array.ext'
    have : (Value.bool false).cells = #[.bool false] := rfl
    rw [this, toList_madeCells_one]
    simp [truths]
  simp only [Int.toNat_natCast] at h
  rw [h, e]

set_option maxRecDepth 1000000 in
set_option maxHeartbeats 16000000 in
theorem cycles_any (A : Option Addr) (c : Nat) (ls : List Link) (w : World) (hE : Links A ls w) (_ : ls.length ≤ c) (hw : LOk ls) :
    Calls Try.prog 6 #[.slice A ls.length c] w fun e w' => e = .returned (.bool true) ∧ Below w.heap.size w w' := by
  by_cases hl : 120 < ls.length
  · have hl1 : (120 : Int) < ls.length := by omega
    clear hE hw
    go_enter Try.func6, Try.ntmps6
    go_wp2_with fail
    refine (works_any _).mono ?_
    rintro e w1 ⟨rfl, hb⟩
    refine Hid.out ?_
    have HB1 := Lib.hid hb
    clear hb
    refine Lib.hid ?_
    go_wp2_with fail
    go_ret
    exact ⟨rfl, HB1.out⟩
  · have hl1 : (ls.length : Int) ≤ 120 := by omega
    have HBA := Lib.hid (built_any A c ls w hE (by omega) hw)
    have hbl := built_len ls
    have HV := Lib.hid (built_vld ls)
    clear hE hw
    generalize built ls = l at *
    have hll : l.length ≤ 120 := by omega
    have HVF := Lib.hid (forE_vld HV.out)
    have hfl := accF_len (n := 30) (l := l)
    have HMF := Lib.hid (accF_mem (n := 30) (l := l))
    have HCY := Lib.hid (fun i hi => cyc HV.out (i := i) hi)
    have hmk := mk_truths l.length (by omega)
    have l1 : (l.length : Int) ≤ 120 := by omega
    have HLF := Lib.hid (fun t => lab_under (forE 30 l) HVF.out t)
    have HFO := Lib.hid (fun B c w h => forest_ok B c l w h HV.out (by omega))
    have hlf : (forE 30 l).length = (accF 30 l (ordL l)).length := pickE_len l _
    have hfe : forE 30 l = pickE l (accF 30 l (ordL l)) := rfl
    generalize accF 30 l (ordL l) = f at *
    generalize forE 30 l = le at *
    have HFE := Lib.hid hfe
    clear hfe
    have hlel : le.length ≤ 120 := by omega
    clear hlf
    go_enter Try.func6, Try.ntmps6
    go_wp2_with fail
    refine HBA.out.mono ?_
    rintro e w1 ⟨v1, rfl, ho, hb⟩
    refine Hid.out ?_
    obtain ⟨B, cB, rfl, hE1, hcB⟩ := Edges.ofOwn ho
    have HE1 := Lib.hid hE1; have HB1 := Lib.hid hb
    clear ho hb hE1 HBA
    refine Lib.hid ?_
    go_wp2_with fail
    refine (HFO.out B cB w1 HE1.out).mono ?_
    rintro e w2 ⟨BF, cf, rfl, hO, hcf, hb⟩
    refine Hid.out ?_
    have HE2 := Lib.hid (HE1.out.on hb); have HO2 := Lib.hid hO; have HB2 := Lib.hid (HB1.out.trans (hb.mono HB1.out.size))
    clear hb hO
    refine Lib.hid ?_
    go_wp2_with fail
    refine (some_any B BF cB cf l f w2 HE2.out HO2.out HMF.out (by omega) (by omega)).mono ?_
    rintro e w4 ⟨v4, rfl, ho, hb⟩
    refine Hid.out ?_
    rw [← HFE.out] at ho
    obtain ⟨BS, cS, rfl, hE4, hcS⟩ := Edges.ofOwn ho
    have HEL4 := Lib.hid (HE2.out.on hb); have HO4 := Lib.hid (HO2.out.on hb); have HE4 := Lib.hid hE4; have HB4 := Lib.hid (HB2.out.trans (hb.mono HB2.out.size))
    clear hb ho hE4
    refine Lib.hid ?_
    go_wp2_with fail
    refine (new_ok BS cS le w4 HE4.out HVF.out (by omega)).mono ?_
    rintro e w5 ⟨gpb, rfl, hg, hb⟩
    refine Hid.out ?_
    have HEL5 := Lib.hid (HEL4.out.on hb); have HO5 := Lib.hid (HO4.out.on hb); have HH5 := Lib.hid hg; have HB5 := Lib.hid (HB4.out.trans (hb.mono HB4.out.size))
    clear hb hg HEL4 HO4 HE4 HE1 HE2 HO2 HB1 HB2 HB4
    refine Lib.hid ?_
    have f1 : (f.length : Int) ≤ 120 := by omega
    go_wp2_with fail
    clear hmk
    go_loopw [9] (fun x wr => ∃ k : Nat, k ≤ f.length ∧ x = .int .i64 k ∧ ∃ bs, RowB w5.heap.size bs wr ∧ Hid (bs.length = l.length) ∧ Below w5.heap.size w5 wr) (fun x _ => f.length - (intOf x).toNat)
    case atStart => exact ⟨0, by omega, rfl, _, ⟨block_new _ _ _ rfl⟩, Lib.hid (List.length_replicate ..), (Below.refl _ _).alloc (Nat.le_refl _) _⟩
    case round =>
      obtain ⟨k, hk, rfl, bs, hr, hbl, hb⟩ := hrel
      by_cases hlt : k < f.length
      · have hlt1 : (k : Int) < f.length := by omega
        have hxr := HMF.out _ (List.getElem_mem hlt)
        obtain ⟨ei, hei⟩ := Int.eq_ofNat_of_zero_le hxr.1
        have heil : ei < l.length := by omega
        have hvx : St.v f k = (ei : Int) := by rw [← hei]; exact St.getD_at hlt
        obtain ⟨b2, o2, rfl, hc2⟩ := HO5.out (by omega)
        have k1 := (hb.cell (p := ⟨b2, o2 + k, none⟩) (World.block_lt_of_cell? w5 _ (hc2 k hlt))).trans (hc2 k hlt)
        rw [hvx] at k1
        have ei0 : (0 : Int) ≤ ei := by omega
        have ei1 : (ei : Int) < l.length := by omega
        have fz := hr.frozen ei
        have ky := hr.cell (i := ei) (by rw [hbl.out]; exact heil)
        generalize bs.getD ei false = y0 at ky
        have HR := Lib.hid hr; have HB := Lib.hid hb
        clear hxr hei hvx hc2 hr hb
        go_wp2_with fail
        go_roundw
        case rel => exact ⟨k + 1, by omega, by go_num, _, HR.out.set ei true, Lib.hid (by rw [List.length_set]; exact hbl.out), HB.out.setCell (p := ⟨w5.heap.size, ei, none⟩) (Nat.le_refl _) _⟩
        case measure => simp [intOf]; omega
      · generalize wr = wl at *
        have HR := Lib.hid hr; have HX := Lib.hid hb; have HBw := Lib.hid (HB5.out.trans (hb.mono HB5.out.size))
        clear hr hb
        go_wp2_with fail
        go_loopw [10] (fun x wz => ∃ i : Nat, i ≤ l.length ∧ x = .int .i64 i ∧ Below wl.heap.size wl wz) (fun x _ => l.length - (intOf x).toNat)
        case atStart => exact ⟨0, by omega, rfl, Below.refl _ _⟩
        case round =>
          obtain ⟨i, hi, rfl, hb⟩ := hrel
          by_cases hil : i < l.length
          · have hil1 : (i : Int) < l.length := by omega
            have hrz := HR.out.on hb
            have ky := hrz.cell (i := i) (by rw [hbl.out]; exact hil)
            have hxz := HX.out.trans (hb.mono HX.out.size)
            obtain ⟨bE, oE, rfl, hcE⟩ := HEL5.out (by omega)
            have hEb := World.block_lt_of_cell? w5 _ (hcE i hil).1
            have ce : ∀ j, wr.cell? ⟨bE, j, none⟩ = w5.cell? ⟨bE, j, none⟩ := fun j => hxz.cell (p := ⟨bE, j, none⟩) hEb
            obtain ⟨ku, kv, kw⟩ := hcE i hil
            rw [← ce] at ku kv kw
            have hvl := HV.out _ (List.getElem_mem hil)
            rw [← show l.getD i edge0 = l[i] by simp [List.getD_eq_getElem?_getD, hil]] at hvl
            have hcy := HCY.out i hil
            obtain ⟨U, hU⟩ := Int.eq_ofNat_of_zero_le hvl.1
            obtain ⟨V, hV⟩ := Int.eq_ofNat_of_zero_le hvl.2.2.1
            rw [hU, hV, Int.toNat_natCast, Int.toNat_natCast] at hcy
            have hU30 : U < 30 := by omega
            have hV30 : V < 30 := by omega
            rw [hU] at ku
            rw [hV] at kv
            generalize (l.getD i edge0).W = th at *
            generalize hy : bs.getD i false = y0 at ky
            have HCI := Lib.hid hcy; have HXZ := Lib.hid hxz; have HBZ := Lib.hid hb
            have HKU := Lib.hid ku; have HKV := Lib.hid kv
            have HCE := Lib.hid ce
            clear hvl hU hV hcy hrz hxz hb hcE ce hy
            cases y0 with
            | true =>
              go_wp2_with fail
              go_roundw
              case rel => exact ⟨i + 1, by omega, by go_num, HBZ.out⟩
              case measure => simp [intOf]; omega
            | false =>
              go_wp2_with fail
              refine (under_any 30 (by decide) le th gpb _ (HH5.out.on HXZ.out) HVF.out (by omega)).mono ?_
              rintro e wc ⟨uc, rfl, -, hg, hb⟩
              refine Hid.out ?_
              have HCc := Lib.hid (hb.mono (Nat.le_refl _)); have HUc := Lib.hid hg
              clear hb hg ky ku kv kw
              refine Lib.hid ?_
              go_wp2_with fail
              refine (labels_any 30 (by decide) (by decide) (lo th le) uc wc HUc.out (HVF.out.lo _) (by have := lo_len th le; omega)).mono ?_
              rintro e wd ⟨gd, rfl, -, hr, hb⟩
              refine Hid.out ?_
              have hzd := HCc.out.trans (hb.mono HCc.out.size)
              have HZd := Lib.hid (HBZ.out.trans (hzd.mono HBZ.out.size))
              have ku := (hzd.cell (p := ⟨bE, _, none⟩) (Nat.lt_of_lt_of_le hEb HXZ.out.size)).trans HKU.out
              have kv := (hzd.cell (p := ⟨bE, _, none⟩) (Nat.lt_of_lt_of_le hEb HXZ.out.size)).trans HKV.out
              have hlk : (labK 30 (lo th le)).length = 30 := HLF.out th
              have xu := hr.cell (i := U) (by rw [hlk]; exact hU30)
              have xv := hr.cell (i := V) (by rw [hlk]; exact hV30)
              rw [← HCI.out] at xv
              generalize St.v (labK 30 (lo th le)) U = z at xu xv
              have hU1 : (U : Int) < 30 := by omega
              have hV1 : (V : Int) < 30 := by omega
              clear hb hr hzd hlk
              refine Lib.hid ?_
              go_wp2_with fail
              have hzz : (z != z) = false := bne_self_eq_false' z
              go_quiet (fail)
              go_wp2_with fail
              go_roundw
              case rel => exact ⟨i + 1, by omega, by go_num, below_drewN' HZd.out nq⟩
              case measure => simp [intOf]; omega
          · have HBZ := Lib.hid (HBw.out.trans (hb.mono HBw.out.size))
            clear hb
            go_wp2_with fail
            refine (works_any _).mono ?_
            rintro e wv ⟨rfl, hb⟩
            refine Hid.out ?_
            have HBv := Lib.hid (HBZ.out.trans (hb.mono HBZ.out.size))
            clear hb
            refine Lib.hid ?_
            go_wp2_with fail
            go_ret
            exact ⟨rfl, HBv.out⟩
end Go.Proofs.Ytobaodkcjjgkdaa
namespace Go.Proofs.Ytobaodkcjjgkdaa
open Go Go.RowKit

theorem cycles_row (A : Option Addr) (c : Nat) (ls : List Link) (w : World) (hE : Links A ls w) (hc : ls.length ≤ c) (hw : LOk ls) :
    Calls Try.prog 6 #[.slice A ls.length c] w fun e w' => e = .returned (.bool true) ∧ Below w.heap.size w w' := cycles_any A c ls w hE hc hw
end Go.Proofs.Ytobaodkcjjgkdaa
