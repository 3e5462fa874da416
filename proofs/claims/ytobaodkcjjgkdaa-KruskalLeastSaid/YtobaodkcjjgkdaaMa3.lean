/- graph.build, walked. graph.New, walked. Plain facts on insertion, on binary search in sorted runs, and on what is sorted in blocks. Rotation and insertion, walked. Insertion sort, walked. Plain facts on one thing moved into a sorted run. symMerge at a run of one thing, walked. symMerge at a right run of one thing, walked. -/
import Derived.Test.YtobaodkcjjgkdaaMa2
import Derived.Deep.DeepCutAuto
import Derived.Deep.CutBlock
namespace Go.Proofs.Ytobaodkcjjgkdaa
open Go Go.RowKit

theorem info_half : (Try.prog.info? 114).map (fun i => (i.zero, i.size, i.bytes)) = some (some (.agg #[.int .i64 0, .int .i64 0]), 2, 16) := by kernel_rfl
def halves (n : Nat) : Array Value := madeCells (Value.agg #[.int .i64 0, .int .i64 0]).cells (n * 2)
theorem halves_size (n : Nat) : (halves n).size = n * 2 := size_madeCells _ _
theorem mk_half (n : Nat) (hn : n ≤ 1000000) (W : World) : (Instr.makeSlice 86 (.int .i64 (n : Int)) (.int .i64 (n : Int))).run Try.prog W = .ok (.slice (some ⟨W.heap.size, 0, none⟩) n n) (W.alloc (.cells (halves n) 114)) := by
  obtain ⟨i0, hi, hz0, hz1, hz2⟩ := info_parts info_half
  have h := run_make (P := Try.prog) W 86 114 i0 _ Try.underlying86 hi hz0 .i64 .i64 n n (by omega) (by omega) (by rw [hz2]; omega) (by omega)
  simp only [Int.toNat_natCast, hz1] at h
  exact h
theorem four (w : World) (a b c d : Obj) : ((((w.alloc a).alloc b).alloc c).alloc d).heap[w.heap.size]? = some a ∧ ((((w.alloc a).alloc b).alloc c).alloc d).heap[w.heap.size + 1]? = some b ∧ ((((w.alloc a).alloc b).alloc c).alloc d).heap[w.heap.size + 1 + 1]? = some c ∧ ((((w.alloc a).alloc b).alloc c).alloc d).heap[w.heap.size + 1 + 1 + 1]? = some d := by
  have e : ∀ (w : World) (o : Obj) (i : Nat), i < w.heap.size → (w.alloc o).heap[i]? = w.heap[i]? := fun w o i h => Below.heap_alloc w o i h
  have s : ∀ (w : World) (o : Obj), (w.alloc o).heap.size = w.heap.size + 1 := fun w o => by simp
  refine ⟨?_, ?_, ?_, ?_⟩
  · rw [e _ _ _ (by simp only [s]; omega), e _ _ _ (by simp only [s]; omega), e _ _ _ (by simp only [s]; omega)]
    exact block_new _ _ _ rfl
  · rw [e _ _ _ (by simp only [s]; omega), e _ _ _ (by simp only [s]; omega)]
    exact block_new _ _ _ (by simp only [s])
  · rw [e _ _ _ (by simp only [s]; omega)]
    exact block_new _ _ _ (by simp only [s])
  · exact block_new _ _ _ (by simp only [s])

/-- What the first statement makes. -/
def Made (n : Nat) (B : Option Addr) (c m : Nat) (w : World) (x : Value) (wx : World) : Prop := ∃ pv gp f ev, x = .pointer (some ⟨pv, 0, none⟩) ∧ GS n B c m pv gp f ev (List.replicate (n + 1) 0) wx ∧ (w.heap.size ≤ pv ∧ w.heap.size ≤ gp ∧ w.heap.size ≤ f ∧ w.heap.size ≤ ev) ∧ Below w.heap.size w wx

theorem four_at (w : World) (a b c d o : Obj) (i : Nat) (h : [a, b, c, d][i]? = some o) : ((((w.alloc a).alloc b).alloc c).alloc d).drew.heap[w.heap.size + i]? = some o := by
  obtain ⟨h0, h1, h2, h3⟩ := four w a b c d
  match i, h with
  | 0, h => cases h; exact h0
  | 1, h => cases h; exact h1
  | 2, h => cases h; exact h2
  | 3, h => cases h; exact h3
  | k + 4, h => simp at h
theorem Made.new (n : Nat) (B : Option Addr) (c m : Nat) (w : World) (o0 o1 o2 o3 : Obj) (i1 i2 i3 i4 : Nat)
    (h1 : [o0, o1, o2, o3][i1]? = some (.cells #[.pointer (some ⟨w.heap.size + i2, 0, none⟩)] 42 (0, 0)))
    (h2 : [o0, o1, o2, o3][i2]? = some (.cells #[.bool true, .int .i64 n, .slice B m c, .slice (some ⟨w.heap.size + i3, 0, none⟩) (n + 1) (n + 1), .slice (some ⟨w.heap.size + i4, 0, none⟩) (2 * m) (2 * m)] 88 (0, 0)))
    (h3 : [o0, o1, o2, o3][i3]? = some (.cells (ints (List.replicate (n + 1) 0)) 3 (0, 0)))
    (h4 : [o0, o1, o2, o3][i4]? = some (.cells (halves (2 * m)) 114 (0, 0)))
    (hd : i1 ≠ i2 ∧ i1 ≠ i3 ∧ i1 ≠ i4 ∧ i2 ≠ i3 ∧ i2 ≠ i4 ∧ i3 ≠ i4) : Made n B c m w (.pointer (some ⟨w.heap.size + i1, 0, none⟩)) ((((w.alloc o0).alloc o1).alloc o2).alloc o3).drew :=
  ⟨w.heap.size + i1, w.heap.size + i2, w.heap.size + i3, w.heap.size + i4, rfl,
    ⟨four_at w _ _ _ _ _ _ h1, four_at w _ _ _ _ _ _ h2, ⟨four_at w _ _ _ _ _ _ h3⟩, ⟨_, four_at w _ _ _ _ _ _ h4, halves_size _⟩, by omega, by omega, by omega, by omega, by omega, by omega⟩, by omega,
    (((((Below.refl w.heap.size w).alloc (Nat.le_refl _) _).alloc (by simp) _).alloc (by simp; omega) _).alloc (by simp; omega) _).drew⟩

set_option maxRecDepth 1000000 in
set_option maxHeartbeats 16000000 in
theorem build_any (n : Nat) (hn : n ≤ 4096) (B : Option Addr) (c : Nat) (l : List Edge) (w : World) (hE : Edges B l w) (hv : Vld n l) (hl : l.length ≤ 16384) :
    Calls Try.prog 47 #[.int .i64 n, .slice B l.length c] w fun e w' => ∃ gp fv ev, e = .returned (.pointer (some ⟨gp, 0, none⟩)) ∧ w'.heap[gp]? = some (.cells #[.bool true, .int .i64 n, .slice B l.length c, fv, ev] 88 (0, 0)) ∧ w.heap.size ≤ gp ∧ Below w.heap.size w w' := by
  have HE := Lib.hid hE; have HV := Lib.hid hv
  clear hE hv
  have hmk := mk_ints (n + 1) (by omega)
  have hmk2 := mk_half (2 * l.length) (by omega)
  push_cast at hmk hmk2
  have l1 : (l.length : Int) ≤ 16384 := by omega
  have n1 : (n : Int) ≤ 4096 := by omega
  go_enter Try.func47, Try.ntmps47
  go_wp2_with fail
  go_cut [5] (fun x wx => Made n B c l.length w x wx)
  case first => 
    go_region
    all_goals (go_wp2_with fail; go_meet)
    · exact Made.new n B c l.length w _ _ _ _ 3 2 0 1 rfl rfl rfl rfl (by decide)
    · exact Made.new n B c l.length w _ _ _ _ 2 3 0 1 rfl rfl rfl rfl (by decide)
    · exact Made.new n B c l.length w _ _ _ _ 1 3 0 2 rfl rfl rfl rfl (by decide)
    · exact Made.new n B c l.length w _ _ _ _ 3 2 1 0 rfl rfl rfl rfl (by decide)
    · exact Made.new n B c l.length w _ _ _ _ 2 3 1 0 rfl rfl rfl rfl (by decide)
    · exact Made.new n B c l.length w _ _ _ _ 1 3 2 0 rfl rfl rfl rfl (by decide)
    · exact Made.new n B c l.length w _ _ _ _ 0 3 1 2 rfl rfl rfl rfl (by decide)
    · exact Made.new n B c l.length w _ _ _ _ 0 3 2 1 rfl rfl rfl rfl (by decide)
  case rest =>
    obtain ⟨pv, gp, f, ev, rfl, hg, hlo, hb⟩ := hcut
    have HLO := Lib.hid hlo; have HB := Lib.hid hb; have HG := Lib.hid hg
    clear hlo hb hg hmk hmk2
    go_wp2_with fail
    go_loopw [26] (fun x wr => ∃ k : Nat, k ≤ l.length ∧ x = .int .i64 k ∧ ∃ fs, Hid (Gp.I1 n l (Gp.deg (l.drop k)) fs) ∧ GS n B c l.length pv gp f ev fs wr ∧ Below w.heap.size w wr) (fun x _ => l.length - (intOf x).toNat)
    case atStart => exact ⟨0, by omega, rfl, _, Lib.hid (Gp.I1.start n l), HG.out, HB.out⟩
    case round =>
      obtain ⟨k, hk, rfl, fs, hI, hg, hb⟩ := hrel
      by_cases hlt : k < l.length
      · have hlt1 : (k : Int) < l.length := by omega
        obtain ⟨b, o, rfl, hc⟩ := HE.out (by omega)
        have hbl := World.block_lt_of_cell? w _ (hc k hlt).1
        have ce : ∀ i, wr.cell? ⟨b, i, none⟩ = w.cell? ⟨b, i, none⟩ := fun i => hb.cell (p := ⟨b, i, none⟩) hbl
        obtain ⟨ku, kv, kw⟩ := hc k hlt
        rw [← ce] at ku kv kw
        have hvl := HV.out _ (List.getElem_mem hlt)
        rw [← show l.getD k edge0 = l[k] by simp [List.getD_eq_getElem?_getD, hlt]] at hvl
        have hdr := fun j => Gp.deg_drop hlt j
        generalize l.getD k edge0 = E at *
        obtain ⟨U, V, W⟩ := E
        simp only at ku kv kw hvl hdr
        obtain ⟨U, rfl⟩ := Int.eq_ofNat_of_zero_le hvl.1
        obtain ⟨V, rfl⟩ := Int.eq_ofNat_of_zero_le hvl.2.2.1
        have s0 : wr.cell? ⟨pv, 0, none⟩ = _ := cells_of_block hg.vb 0
        have s1 : wr.cell? ⟨gp, 3, none⟩ = _ := cells_of_block hg.gb 3
        have fl := hI.out.1
        have hUn : U < n := by omega
        have hVn : V < n := by omega
        have s3 := hg.row.cell (i := U + 1) (by omega)
        have s4 := hg.row.cell (i := V + 1) (by omega)
        have s5 := hg.row.frozen (U + 1)
        have s6 := hg.row.frozen (V + 1)
        have a0 := (hI.out.2.2 U hUn).1
        have a1 : St.v fs (U + 1) ≤ 32768 := by have := (hI.out.2.2 U hUn).2; have := Gp.deg_le l U; omega
        have b0 := (hI.out.2.2 V hVn).1
        have b1 : St.v fs (V + 1) ≤ 32768 := by have := (hI.out.2.2 V hVn).2; have := Gp.deg_le l V; omega
        have hI2 : Gp.I1 n l (Gp.deg (l.drop (k + 1))) ((fs.set (U + 1) (St.v fs (U + 1) + 1)).set (V + 1) (St.v fs (V + 1) + 1)) := by
          have e1 := hI.out.step U hUn (fun j => (if j = V then 1 else 0) + Gp.deg (l.drop (k + 1)) j) (fun j _ => by rw [hdr, Gp.hit_two _ U V rfl rfl]; omega) (fun j _ => by have := Gp.deg_nonneg (l.drop (k + 1)) j; split <;> omega)
          have e2 := e1.step V hVn (Gp.deg (l.drop (k + 1))) (fun j _ => rfl) (fun j _ => Gp.deg_nonneg _ j)
          rwa [Gp.v_set _ _ _ _ (by omega), if_neg (by omega)] at e2
        have HI2 := Lib.hid hI2; have HG2 := Lib.hid hg; have HB2 := Lib.hid hb
        have d2 := hg.d2
        have d4 := hg.d4
        have e2 := hg.d2.symm
        have e4 := hg.d4.symm
        have q1 := hg.lts.1
        have q2 := hg.lts.2.1
        have q3 := hg.lts.2.2.1
        have hne : ¬ (U : Int) = V := hvl.2.2.2.2
        have hne2 : ¬ U = V := fun h => hne (by rw [h])
        have hne3 : ¬ V = U := fun h => hne2 h.symm
        generalize St.v fs (U + 1) = x at *
        generalize St.v fs (V + 1) = y at *
        have u1 : (U : Int) < n := by omega
        have v1 : (V : Int) < n := by omega
        clear hI hI2 hg hb hc ce hvl hdr fl hbl
        go_wp2_with fail
        go_region
        go_wp2_with fail
        go_region
        go_wp2_with fail
        go_roundw
        case rel =>
          have hg := (((HG2.out.setF (U + 1) (x + 1)).setF (V + 1) (y + 1)).alloc (.cells #[.int .i64 U, .int .i64 V, .int .i64 W] 36)).drew.drew
          have hlo := HLO.out
          exact ⟨k + 1, by omega, by go_num, _, HI2, hg, (((((HB2.out.setCell (p := ⟨f, U + 1, none⟩) hlo.2.2.1 _).setCell (p := ⟨f, V + 1, none⟩) hlo.2.2.1 _).alloc (by simpa [World.setCell] using HB2.out.size) _).drew).drew)⟩
        case measure => simp [intOf]; omega
      · have hkk : k = l.length := by omega
        subst hkk
        rw [List.drop_length] at hI
        have HI := Lib.hid (hI.out.done HV.out)
        have HG := Lib.hid hg; have HB := Lib.hid hb
        clear hI hg hb
        go_wp2_with fail
        go_loopw [54] (fun x wr => ∃ k : Nat, k ≤ n ∧ x = .int .i64 k ∧ ∃ fs, Hid (Gp.I2 n l k fs) ∧ GS n B c l.length pv gp f ev fs wr ∧ Below w.heap.size w wr) (fun x _ => n - (intOf x).toNat)
        case atStart => exact ⟨0, by omega, rfl, _, HI, HG.out, HB.out⟩
        case round =>
          obtain ⟨k, hk, rfl, fs, hI, hg, hb⟩ := hrel
          by_cases hlt : k < n
          · have hlt1 : (k : Int) < n := by omega
            have s0 : wr.cell? ⟨pv, 0, none⟩ = _ := cells_of_block hg.vb 0
            have s1 : wr.cell? ⟨gp, 3, none⟩ = _ := cells_of_block hg.gb 3
            have fl := hI.out.1
            have s3 := hg.row.cell (i := k + 1) (by omega)
            have s4 := hg.row.cell (i := k) (by omega)
            have s5 := hg.row.frozen (k + 1)
            have a0 := (hI.out.2.1 (k + 1) (by omega)).1
            have b0 := (hI.out.2.1 k (by omega)).1
            obtain ⟨hs, hs2⟩ := hI.out.step hlt
            have a1 : St.v fs (k + 1) + St.v fs k ≤ 32768 := by omega
            have HI2 := Lib.hid hs; have HG2 := Lib.hid hg; have HB2 := Lib.hid hb
            generalize St.v fs (k + 1) = x at *
            generalize St.v fs k = y at *
            clear hI hg hb fl hs hs2
            go_wp2_with fail
            go_region
            go_wp2_with fail
            go_roundw
            case rel => exact ⟨k + 1, by omega, by go_num, _, HI2, (HG2.out.setF (k + 1) (x + y)).drew, ((HB2.out.setCell (p := ⟨f, k + 1, none⟩) HLO.out.2.2.1 _).drew)⟩
            case measure => simp [intOf]; omega
          · have hkk : k = n := by omega
            subst hkk
            have HI := Lib.hid hI.out.done
            have fl := hI.out.1
            have hcl : ∀ W, Row f fs W → Calls Try.prog 70 #[.slice (some ⟨f, 0, none⟩) (k + 1) (k + 1)] W (fun e w' => ∃ vo, e = .returned vo ∧ w'.ownsRow W.heap.size 3 1 vo (k + 1) (nums fs) ∧ Below W.heap.size W w') := fun W hr => by
              have := clone_ints (some ⟨f, 0, none⟩) (k + 1) fs W (IntsR.ofRow hr) (by omega)
              rwa [fl] at this
            have s0 : wr.cell? ⟨pv, 0, none⟩ = _ := cells_of_block hg.vb 0
            have s1 : wr.cell? ⟨gp, 3, none⟩ = _ := cells_of_block hg.gb 3
            have HG := Lib.hid hg; have HB := Lib.hid hb; have HCL := Lib.hid hcl; have HFL := Lib.hid fl
            clear hI hg hb hcl fl
            go_wp2_with fail
            refine (HCL.out _ HG.out.row).mono ?_
            rintro e w1 ⟨vo, rfl, hown, hb1⟩
            refine Hid.out ?_
            obtain ⟨g, cap, rfl, hg1, hg2⟩ := hown.form (by omega)
            have hlt4 := HG.out.lts
            have hz1 := hb1.size
            have hlo := HLO.out
            have hP : PS w.heap.size k B c l.length pv gp f ev w1.heap.size g cap fs fs (w1.alloc (.cells #[.slice (some ⟨g, 0, none⟩) (k + 1) cap] 24)) :=
              ⟨(HG.out.on hb1).alloc _, block_new _ _ _ rfl, RowC.move ⟨by rw [HFL.out]; exact own_low hown (Nat.zero_le _)⟩ (Below.heap_alloc _ _ _ hg2), HFL.out, ⟨by omega, by omega, by omega, by omega⟩, ⟨by omega, by omega, by omega, by omega, by omega⟩, ⟨hlo.1, hlo.2.1, hlo.2.2.1, hlo.2.2.2, by have := HB.out.size; omega, by have := HB.out.size; omega⟩⟩
            have HP := Lib.hid hP
            have HB1 : Hid (Below w.heap.size w (w1.alloc (.cells #[.slice (some ⟨g, 0, none⟩) (k + 1) cap] 24))) := Lib.hid ((HB.out.trans (hb1.mono HB.out.size)).alloc (by have := HB.out.size; omega) _)
            clear hown hb1 hg1 hg2 hlt4 hz1 hlo hP HG HB HCL
            refine Lib.hid ?_
            go_wp2_with fail
            go_loopw [83] (fun x wr => ∃ j : Nat, j ≤ l.length ∧ x = .int .i64 j ∧ ∃ ns, Hid (Gp.I3 k (2 * l.length) (Gp.deg (l.drop j)) ns) ∧ PS w.heap.size k B c l.length pv gp f ev w1.heap.size g cap fs ns wr ∧ Below w.heap.size w wr) (fun x _ => l.length - (intOf x).toNat)
            case atStart => exact ⟨0, by omega, rfl, _, HI, HP.out, HB1.out⟩
            case round =>
              obtain ⟨j, hj, rfl, ns, hI, hp, hb⟩ := hrel
              by_cases hlt : j < l.length
              · have hlt1 : (j : Int) < l.length := by omega
                obtain ⟨b, o, rfl, hc⟩ := HE.out (by omega)
                have hbl := World.block_lt_of_cell? w _ (hc j hlt).1
                have ce : ∀ i, wr.cell? ⟨b, i, none⟩ = w.cell? ⟨b, i, none⟩ := fun i => hb.cell (p := ⟨b, i, none⟩) hbl
                obtain ⟨ku, kv, kw⟩ := hc j hlt
                rw [← ce] at ku kv kw
                have hvl := HV.out _ (List.getElem_mem hlt)
                rw [← show l.getD j edge0 = l[j] by simp [List.getD_eq_getElem?_getD, hlt]] at hvl
                have hdr := fun i => Gp.deg_drop hlt i
                generalize l.getD j edge0 = E at *
                obtain ⟨U, V, W⟩ := E
                simp only at ku kv kw hvl hdr
                obtain ⟨U, rfl⟩ := Int.eq_ofNat_of_zero_le hvl.1
                obtain ⟨V, rfl⟩ := Int.eq_ofNat_of_zero_le hvl.2.2.1
                have hUn : U < k := by omega
                have hVn : V < k := by omega
                obtain ⟨i1, x0, x1⟩ := hI.out.step U hUn (fun i => (if i = V then 1 else 0) + Gp.deg (l.drop (j + 1)) i) (fun i _ => by rw [hdr, Gp.hit_two _ U V rfl rfl]; omega) (fun i _ => by have := Gp.deg_nonneg (l.drop (j + 1)) i; split <;> omega)
                obtain ⟨i2, y0, y1⟩ := i1.step V hVn (Gp.deg (l.drop (j + 1))) (fun i _ => rfl) (fun i _ => Gp.deg_nonneg _ i)
                obtain ⟨x, hx⟩ := Int.eq_ofNat_of_zero_le x0
                rw [hx] at i1 i2 y0 y1 x1
                obtain ⟨y, hy⟩ := Int.eq_ofNat_of_zero_le y0
                rw [hy] at i2 y1
                have xm : x < 2 * l.length := by omega
                have ym : y < 2 * l.length := by omega
                have HX := Lib.hid hx; have HY := Lib.hid hy; have HI2 := Lib.hid i2; have HP2 := Lib.hid hp; have HB2 := Lib.hid hb
                clear hI hp hb hc ce hvl hdr hbl i1 i2 x0 x1 y0 y1 hx hy
                go_wp2_with fail
                refine (put_any (HP2.out.alloc _) (by simp; have := HB2.out.size; omega) U hUn x HX.out xm hl _ _).mono ?_
                rintro e w2 ⟨⟨r, rfl⟩, hp2, hb2, hk2⟩
                refine Hid.out ?_
                have hz2 := HB2.out.size
                have hlts := HP2.out.gs.lts
                have hgl := HP2.out.rw.lt
                have kb := (hk2 wr.heap.size (by simp) (by omega) (by omega)).trans (block_new _ _ _ rfl)
                have hzz : wr.heap.size ≤ w2.heap.size := by have := hb2.size; simp at this; omega
                have c0 := cells_of_block kb 0
                have c1 := cells_of_block kb 1
                have HB3 : Hid (Below w.heap.size w w2) := Lib.hid ((HB2.out.alloc hz2 _).trans hb2)
                have HP3 := Lib.hid hp2
                have hB3 : w.heap.size ≤ w2.heap.size := Nat.le_trans hz2 hzz
                clear hp2 hb2 hk2 kb hz2 hlts hgl hzz ku kv kw
                refine Lib.hid ?_
                go_wp2_with fail
                refine (put_any HP3.out hB3 V hVn y HY.out ym hl _ _).mono ?_
                rintro e w3 ⟨⟨r3, rfl⟩, hp3, hb3, -⟩
                refine Hid.out ?_
                have HP4 := Lib.hid hp3
                have HB4 := Lib.hid (HB3.out.trans hb3)
                clear hp3 hb3
                refine Lib.hid ?_
                go_wp2_with fail
                go_roundw
                case rel => exact ⟨j + 1, by omega, by go_num, _, HI2, HP4.out, HB4.out⟩
                case measure => simp [intOf]; omega
              · have hkk : j = l.length := by omega
                subst hkk
                have s0 : wr.cell? ⟨pv, 0, none⟩ = _ := cells_of_block hp.gs.vb 0
                have HP2 := Lib.hid hp.gs.gb; have HB2 := Lib.hid hb; have HL2 := Lib.hid hp.lo.2.1
                clear hI hp hb
                go_wp2_with fail
                go_ret
                exact ⟨gp, _, _, rfl, HP2.out, HL2.out, HB2.out⟩
end Go.Proofs.Ytobaodkcjjgkdaa
namespace Go.Proofs.Ytobaodkcjjgkdaa
open Go Go.RowKit

def firstE (n : Int) : List Edge → Int
  | [] => 0
  | e :: r => if e.U < 0 ∨ n ≤ e.U ∨ e.V < 0 ∨ n ≤ e.V then 3 else if e.U = e.V then 9 else firstE n r
/-- The error of a graph. -/
def newE (n : Int) (l : List Edge) : Int := if n < 0 ∨ 4096 < n ∨ 16384 < l.length then 2 else firstE n l
theorem firstE_zero (n : Int) : ∀ l, firstE n l = 0 → ∀ e ∈ l, 0 ≤ e.U ∧ e.U < n ∧ 0 ≤ e.V ∧ e.V < n ∧ e.U ≠ e.V
  | [], _, e, he => by simp at he
  | x :: r, h, e, he => by
    rw [firstE] at h
    by_cases h1 : x.U < 0 ∨ n ≤ x.U ∨ x.V < 0 ∨ n ≤ x.V
    · rw [if_pos h1] at h; omega
    · rw [if_neg h1] at h
      by_cases h2 : x.U = x.V
      · rw [if_pos h2] at h; omega
      · rw [if_neg h2] at h
        rcases List.mem_cons.1 he with rfl | he
        · exact ⟨by omega, by omega, by omega, by omega, h2⟩
        · exact firstE_zero n r h e he
/-- A graph in memory: its edges lie at B. -/
def Grf (n : Nat) (l : List Edge) (gp : Nat) (w : World) : Prop := ∃ B c fv ev, w.heap[gp]? = some (.cells #[.bool true, .int .i64 n, .slice B l.length c, fv, ev] 88 (0, 0)) ∧ Edges B l w
/-- What graph.New leaves. -/
def NewP (n : Int) (l : List Edge) (w : World) (pv : Value) (w' : World) : Prop := (newE n l ≠ 0 ∧ pv = .pointer none) ∨ (newE n l = 0 ∧ ∃ (k : Nat) (gp : Nat), n = k ∧ k ≤ 4096 ∧ l.length ≤ 16384 ∧ Vld k l ∧ pv = .pointer (some ⟨gp, 0, none⟩) ∧ w.heap.size ≤ gp ∧ Grf k l gp w')

set_option maxRecDepth 1000000 in
set_option maxHeartbeats 8000000 in
theorem new_any (n : Int) (A : Option Addr) (c : Nat) (l : List Edge) (w : World) (hE : Edges A l w) (hl : l.length ≤ 1000000) :
    Calls Try.prog 25 #[.int .i64 n, .slice A l.length c] w fun e w' => ∃ pv, e = .returned (.tuple #[pv, .int .i64 (newE n l)]) ∧ NewP n l w pv w' ∧ Below w.heap.size w w' := by
  have HE := Lib.hid hE
  clear hE
  by_cases hbad : n < 0 ∨ 4096 < n ∨ 16384 < l.length
  · have hne : newE n l = 2 := if_pos hbad
    have HP : Hid (∀ W, NewP n l w (.pointer none) W) := Lib.hid (fun W => .inl ⟨by rw [hne]; decide, rfl⟩)
    rw [hne]
    by_cases h1 : n < 0
    · clear hbad
      go_enter Try.func25, Try.ntmps25
      go_wp2
      go_ret2
      exact ⟨_, rfl, HP.out _, Below.refl _ _⟩
    · by_cases h2 : 4096 < n
      · clear hbad
        go_enter Try.func25, Try.ntmps25
        go_wp2
        go_ret2
        exact ⟨_, rfl, HP.out _, Below.refl _ _⟩
      · have h3 : (16384 : Int) < l.length := by omega
        clear hbad
        go_enter Try.func25, Try.ntmps25
        go_wp2
        go_ret2
        exact ⟨_, rfl, HP.out _, Below.refl _ _⟩
  · have hne : newE n l = firstE n l := if_neg hbad
    obtain ⟨k, rfl⟩ := Int.eq_ofNat_of_zero_le (a := n) (by omega)
    have hk : k ≤ 4096 := by omega
    have hk1 : (k : Int) ≤ 4096 := by omega
    have hm : l.length ≤ 16384 := by omega
    have hm1 : (l.length : Int) ≤ 16384 := by omega
    have HNE := Lib.hid hne
    clear hbad hne
    go_enter Try.func25, Try.ntmps25
    go_wp2_with fail
    go_loopw [21] (fun x wr => ∃ j : Nat, j ≤ l.length ∧ x = .int .i64 j ∧ Hid (firstE k (l.drop j) = newE k l) ∧ Below w.heap.size w wr) (fun x _ => l.length - (intOf x).toNat)
    case atStart => exact ⟨0, by omega, rfl, Lib.hid (by rw [HNE.out]; rfl), Below.refl _ _⟩
    case round =>
      obtain ⟨j, hj, rfl, hI, hb⟩ := hrel
      by_cases hlt : j < l.length
      · have hlt1 : (j : Int) < l.length := by omega
        obtain ⟨b, o, rfl, hc⟩ := HE.out (by omega)
        have hbl := World.block_lt_of_cell? w _ (hc j hlt).1
        have ce : ∀ i, wr.cell? ⟨b, i, none⟩ = w.cell? ⟨b, i, none⟩ := fun i => hb.cell (p := ⟨b, i, none⟩) hbl
        obtain ⟨ku, kv, kw⟩ := hc j hlt
        rw [← ce] at ku kv kw
        have hst : firstE k (l.drop j) = firstE k (l.getD j edge0 :: l.drop (j + 1)) := by rw [List.drop_eq_getElem_cons hlt]; simp [List.getD_eq_getElem?_getD, hlt]
        rw [hI.out, firstE] at hst
        generalize l.getD j edge0 = E at *
        obtain ⟨U, V, W⟩ := E
        simp only at ku kv kw hst
        have HB := Lib.hid (hb.alloc hb.size (.cells #[.int .i64 U, .int .i64 V, .int .i64 W] 36))
        by_cases hbad : U < 0 ∨ (k : Int) ≤ U ∨ V < 0 ∨ (k : Int) ≤ V
        · rw [if_pos hbad] at hst
          have HP : Hid (∀ W, NewP k l w (.pointer none) W) := Lib.hid (fun W => .inl ⟨by rw [hst]; decide, rfl⟩)
          have HN := Lib.hid hst
          clear hI hb hc ce hbl hst
          by_cases h1 : U < 0
          · clear hbad
            go_wp2
            go_ret2
            exact ⟨_, by rw [HN.out]; rfl, HP.out _, HB.out⟩
          · by_cases h2 : (k : Int) ≤ U
            · clear hbad
              go_wp2
              go_ret2
              exact ⟨_, by rw [HN.out]; rfl, HP.out _, HB.out⟩
            · by_cases h3 : V < 0
              · clear hbad
                go_wp2
                go_ret2
                exact ⟨_, by rw [HN.out]; rfl, HP.out _, HB.out⟩
              · have h4 : (k : Int) ≤ V := by omega
                clear hbad
                go_wp2
                go_ret2
                exact ⟨_, by rw [HN.out]; rfl, HP.out _, HB.out⟩
        · rw [if_neg hbad] at hst
          have h1 : 0 ≤ U := by omega
          have h2 : U < k := by omega
          have h3 : 0 ≤ V := by omega
          have h4 : V < k := by omega
          clear hbad
          by_cases h5 : U = V
          · rw [if_pos h5] at hst
            have HP : Hid (∀ W, NewP k l w (.pointer none) W) := Lib.hid (fun W => .inl ⟨by rw [hst]; decide, rfl⟩)
            have HN := Lib.hid hst
            subst h5
            clear hI hb hc ce hbl hst
            go_wp2
            go_ret2
            exact ⟨_, by rw [HN.out]; rfl, HP.out _, HB.out⟩
          · rw [if_neg h5] at hst
            have hne5 : (U == V) = false := by simp [h5]
            have HI := Lib.hid hst.symm
            clear hI hb hc ce hbl hst
            go_wp2
            go_roundw
            case rel => exact ⟨j + 1, by omega, by go_num, HI, HB.out⟩
            case measure => simp [intOf]; omega
      · have hkk : j = l.length := by omega
        subst hkk
        have hz := hI.out
        rw [List.drop_length, firstE] at hz
        have hv : Vld k l := fun e he => firstE_zero k l (by rw [← HNE.out, ← hz]) e he
        have HZ := Lib.hid hz; have HB := Lib.hid hb; have HV := Lib.hid hv
        clear hI hb hz hv
        go_wp2_with fail
        refine (clone_edges A c l _ (HE.out.on HB.out) hl).mono ?_
        rintro e w1 ⟨B, c', rfl, hE1, hb1⟩
        refine Hid.out ?_
        have HE1 := Lib.hid hE1; have HB1 := Lib.hid (HB.out.trans (hb1.mono HB.out.size))
        clear hE1 hb1
        refine Lib.hid ?_
        go_wp2_with fail
        refine (build_any k hk B c' l w1 HE1.out HV.out hm).mono ?_
        rintro e w2 ⟨gp, fv, ev, rfl, hh, hg, hb2⟩
        refine Hid.out ?_
        have HB2 := Lib.hid (HB1.out.trans (hb2.mono HB1.out.size))
        have HP : Hid (NewP k l w (.pointer (some ⟨gp, 0, none⟩)) w2) := Lib.hid (.inr ⟨HZ.out.symm, k, gp, rfl, hk, hm, HV.out, rfl, Nat.le_trans HB1.out.size hg, B, c', fv, ev, hh, HE1.out.on hb2⟩)
        have HZ2 : Hid (newE k l = 0) := Lib.hid HZ.out.symm
        clear hh hg hb2
        refine Lib.hid ?_
        go_wp2
        go_ret2
        exact ⟨_, by rw [HZ2.out]; rfl, HP.out, HB2.out⟩
end Go.Proofs.Ytobaodkcjjgkdaa
namespace Go.Proofs.Ytobaodkcjjgkdaa.St
variable {wt : Int → Int}

/-- While x, at place j, is being inserted into the sorted places from a on; places up to i. -/
structure Ins (wt : Int → Int) (a i j : Nat) (x : Int) (ys : List Int) : Prop where
  ord : ∀ p q, a ≤ p → p < q → q ≤ i → p ≠ j → q ≠ j → R wt (v ys p) (v ys q)
  big : ∀ q, j < q → q ≤ i → wt x < wt (v ys q)
  at_ : v ys j = x
  low : ∀ p, a ≤ p → p ≤ i → p ≠ j → v ys p < x
theorem Ins.start {a i : Nat} {ys : List Int} (h : Srt wt a i ys) (hl : ∀ p, a ≤ p → p < i → v ys p < v ys i) : Ins wt a i i (v ys i) ys :=
  ⟨fun p q h1 h2 h3 _ h5 => h p q h1 h2 (by omega), fun q h1 h2 => by omega, rfl, fun p h1 h2 h3 => hl p h1 (by omega)⟩
theorem v_swp (xs : List Int) (i j k : Nat) (hi : i < xs.length) (hj : j < xs.length) : v (swp xs i j) k = if k = j then v xs i else if k = i then v xs j else v xs k := by
  have h := swp_get xs i j k hi hj
  by_cases h1 : k = j
  · rw [if_pos h1] at h ⊢; exact v_eq h
  · rw [if_neg h1] at h ⊢
    by_cases h2 : k = i
    · rw [if_pos h2] at h ⊢; exact v_eq h
    · rw [if_neg h2] at h ⊢; exact v_eq h
theorem Ins.step {a i j : Nat} {x : Int} {ys : List Int} (h : Ins wt a i j x ys) (haj : a < j) (hji : j ≤ i) (hi : i < ys.length) (hw : wt x < wt (v ys (j - 1))) : Ins wt a i (j - 1) x (swp ys j (j - 1)) := by
  have g := fun k => v_swp ys j (j - 1) k (by omega) (by omega)
  have gn : ∀ k, k ≠ j - 1 → k ≠ j → v (swp ys j (j - 1)) k = v ys k := fun k h1 h2 => by rw [g k, if_neg h1, if_neg h2]
  have gj : v (swp ys j (j - 1)) j = v ys (j - 1) := by rw [g j, if_neg (by omega), if_pos rfl]
  refine ⟨fun p q h1 h2 h3 h4 h5 => ?_, fun q h1 h2 => ?_, by rw [g, if_pos rfl, h.at_], fun p h1 h2 h3 => ?_⟩
  · by_cases hp : p = j
    · subst hp
      rw [gj, gn q h5 (by omega)]
      exact h.ord (p - 1) q (by omega) (by omega) h3 (by omega) (by omega)
    · by_cases hq : q = j
      · subst hq
        rw [gj, gn p h4 hp]
        exact h.ord p (q - 1) h1 (by omega) (by omega) hp (by omega)
      · rw [gn p h4 hp, gn q h5 hq]
        exact h.ord p q h1 h2 h3 hp hq
  · by_cases hq : q = j
    · subst hq; rw [gj]; exact hw
    · rw [gn q (by omega) hq]; exact h.big q (by omega) h2
  · by_cases hp : p = j
    · subst hp; rw [gj]; exact h.low (p - 1) (by omega) (by omega) (by omega)
    · rw [gn p h3 hp]; exact h.low p h1 h2 hp
theorem Ins.stop {a i j : Nat} {x : Int} {ys : List Int} (h : Ins wt a i j x ys) (haj : a ≤ j) (hs : j = a ∨ wt (v ys (j - 1)) ≤ wt x) : Srt wt a (i + 1) ys := by
  intro p q h1 h2 h3
  by_cases hp : p = j
  · subst hp
    rw [h.at_]
    exact .inl (h.big q h2 (by omega))
  · by_cases hq : q = j
    · subst hq
      rw [h.at_]
      rcases hs with hs | hs
      · omega
      · have hr : R wt (v ys (q - 1)) x := by
          have := h.low (q - 1) (by omega) (by omega) (by omega)
          unfold R; omega
        by_cases e : p = q - 1
        · subst e; exact hr
        · exact (h.ord p (q - 1) h1 (by omega) (by omega) (by omega) (by omega)).trans hr
    · exact h.ord p q h1 h2 (by omega) hp hq

/-- The places from a to b hold rising numbers. -/
def Inc (a b : Nat) (xs : List Int) : Prop := ∀ i j, a ≤ i → i < j → j < b → v xs i < v xs j
theorem Inc.start {a b i : Nat} {xs ys : List Int} (h : Inc a b xs) (hm : Mv a i xs ys) (hi : i < b) (hb : b ≤ xs.length) : ∀ p, a ≤ p → p < i → v ys p < v ys i := by
  intro p h1 h2
  obtain ⟨p', q1, q2, e⟩ := hm.v (by omega) h1 h2
  rw [e, hm.v_out (.inr (Nat.le_refl i))]
  exact h p' i q1 q2 hi
end Go.Proofs.Ytobaodkcjjgkdaa.St
namespace Go.Proofs.Ytobaodkcjjgkdaa
open Go Go.RowKit

theorem swr_int (g : Nat) (a b k : Int) (xs : List Int) (n : Nat) (hxn : xs.length = n) (f : Value) (w : World) (h : Row g xs w) (a0 : 0 ≤ a) (k0 : 0 ≤ k) (hab : a + k ≤ b) (hb : b + k ≤ n) (hn : n ≤ 1000000) :
    Calls Try.prog 106 #[.slice (some ⟨g, 0, none⟩) n n, .int .i64 a, .int .i64 b, .int .i64 k, f] w fun e w' => e = .returned (.tuple #[]) ∧ Row g (St.swr xs a.toNat b.toNat k.toNat) w' ∧ w.grownBy w' (some g) := by
  subst hxn
  obtain ⟨a, rfl⟩ := Int.eq_ofNat_of_zero_le a0
  obtain ⟨b, rfl⟩ := Int.eq_ofNat_of_zero_le (show 0 ≤ b by omega)
  obtain ⟨k, rfl⟩ := Int.eq_ofNat_of_zero_le k0
  exact swr_any g a b k xs f w h (by omega) (by omega) hn

set_option maxRecDepth 100000 in
set_option maxHeartbeats 4000000 in
theorem rot_any (g a m b : Nat) (xs : List Int) (n : Nat) (hxn : xs.length = n) (f : Value) (w : World) (h : Row g xs w) (ham : a < m) (hmb : m < b) (hb : b ≤ n) (hn : n ≤ 1000000) :
    Calls Try.prog 100 #[.slice (some ⟨g, 0, none⟩) n n, .int .i64 a, .int .i64 m, .int .i64 b, f] w fun e w' => e = .returned (.tuple #[]) ∧ ∃ ys, St.Rot xs a m b ys ∧ Row g ys w' ∧ w.grownBy w' (some g) := by
  have HR := Lib.hid h
  have HX := Lib.hid hxn
  have hn1 : (n : Int) ≤ 1000000 := by omega
  have b1 : (b : Int) ≤ n := by omega
  have a1 : (a : Int) < m := by omega
  have m1 : (m : Int) < b := by omega
  clear h hxn
  go_enter Try.func100, Try.ntmps100
  go_wp2
  go_loopw [10, 11] (fun x y wr => ∃ i j : Nat, 1 ≤ i ∧ 1 ≤ j ∧ i ≤ m - a ∧ j ≤ b - m ∧ x = .int .i64 i ∧ y = .int .i64 j ∧ ∃ ys, Hid (St.Lft xs a m b i j ys ∧ St.Mv a b xs ys) ∧ Row g ys wr ∧ w.grownBy wr (some g)) (fun x y _ => (intOf x).toNat + (intOf y).toNat)
  case atStart =>
    refine ⟨m - a, b - m, by omega, by omega, by omega, by omega, by congr 1; omega, by congr 1; omega, xs, Lib.hid ⟨St.Lft.start xs (by omega) (by omega), St.Mv.refl _ _ _⟩, HR.out, World.grownBy.refl _ _⟩
  case round =>
    obtain ⟨i, j, hi, hj, him, hjb, rfl, rfl, ys, hL, hrow, hg⟩ := hrel
    have hlen : ys.length = n := hL.out.2.len.trans HX.out
    have i1 : (1 : Int) ≤ i := by omega
    have j1 : (1 : Int) ≤ j := by omega
    have i2 : (i : Int) ≤ m - a := by omega
    have j2 : (j : Int) ≤ b - m := by omega
    have HROW := Lib.hid hrow; have HG := Lib.hid hg; have HLEN := Lib.hid hlen
    clear hrow hg HR hlen
    by_cases hij : i = j
    · subst hij
      go_wp2_with (go_at_call 106; refine (swr_int g _ _ _ ys n HLEN.out f _ HROW.out ?_ ?_ ?_ ?_ hn).mono ?_; omega; omega; omega; omega; rintro e w1 ⟨rfl, hr1, hg1⟩; have HR1 := Lib.hid hr1; have HG1 := Lib.hid hg1; clear hr1 hg1)
      go_end0
      have e : St.swr ys ((m : Int) - i).toNat (m : Int).toNat (i : Int).toNat = St.swr ys (m - i) m i := by
        rw [show ((m : Int) - i).toNat = m - i by omega, Int.toNat_natCast, Int.toNat_natCast]
      have hr := HR1.out
      rw [e] at hr
      have hl := HLEN.out
      refine ⟨rfl, _, ⟨hL.out.2.trans (St.swr_mv i (by omega) (by omega) (by omega) (by omega)), fun k => hL.out.1.last (by omega) (by omega) k⟩, hr, only_trans HG.out HG1.out⟩
    · by_cases hlt : j < i
      · have hlt1 : (j : Int) < i := by omega
        go_wp2_with (go_at_call 106; refine (swr_int g _ _ _ ys n HLEN.out f _ HROW.out ?_ ?_ ?_ ?_ hn).mono ?_; omega; omega; omega; omega; rintro e w1 ⟨rfl, hr1, hg1⟩; have HR1 := Lib.hid hr1; have HG1 := Lib.hid hg1; clear hr1 hg1)
        go_roundw
        case rel =>
          have e : St.swr ys ((m : Int) - i).toNat (m : Int).toNat (j : Int).toNat = St.swr ys (m - i) m j := by
            rw [show ((m : Int) - i).toNat = m - i by omega, Int.toNat_natCast, Int.toNat_natCast]
          have hr := HR1.out
          rw [e] at hr
          have hl := HLEN.out
          exact ⟨i - j, j, by omega, by omega, by omega, by omega, by congr 1; omega, rfl, _, Lib.hid ⟨hL.out.1.big (by omega) hlt (by omega), hL.out.2.trans (St.swr_mv j (by omega) (by omega) (by omega) (by omega))⟩, hr, only_trans HG.out HG1.out⟩
        case measure => simp [intOf]; omega
      · have hlt1 : (i : Int) < j := by omega
        go_wp2_with (go_at_call 106; refine (swr_int g _ _ _ ys n HLEN.out f _ HROW.out ?_ ?_ ?_ ?_ hn).mono ?_; omega; omega; omega; omega; rintro e w1 ⟨rfl, hr1, hg1⟩; have HR1 := Lib.hid hr1; have HG1 := Lib.hid hg1; clear hr1 hg1)
        go_roundw
        case rel =>
          have e : St.swr ys ((m : Int) - i).toNat ((m : Int) + j - i).toNat (i : Int).toNat = St.swr ys (m - i) (m + j - i) i := by
            rw [show ((m : Int) - i).toNat = m - i by omega, show ((m : Int) + j - i).toNat = m + j - i by omega, Int.toNat_natCast]
          have hr := HR1.out
          rw [e] at hr
          have hl := HLEN.out
          exact ⟨i, j - i, by omega, by omega, by omega, by omega, rfl, by congr 1; omega, _, Lib.hid ⟨hL.out.1.small (by omega) (by omega) (by omega), hL.out.2.trans (St.swr_mv i (by omega) (by omega) (by omega) (by omega))⟩, hr, only_trans HG.out HG1.out⟩
        case measure => simp [intOf]; omega
end Go.Proofs.Ytobaodkcjjgkdaa
namespace Go.Proofs.Ytobaodkcjjgkdaa
open Go Go.RowKit

/-- The numbers of a row are places of a list of n. -/
def InR (n : Nat) (xs : List Int) : Prop := ∀ i, i < xs.length → 0 ≤ St.v xs i ∧ St.v xs i < n
theorem InR.mv {n a b : Nat} {xs ys : List Int} (h : InR n xs) (hm : St.Mv a b xs ys) : InR n ys := by
  intro i hi
  have hmem : St.v ys i ∈ ys := by
    have : St.v ys i = ys[i] := St.getD_at hi
    rw [this]; exact List.getElem_mem hi
  have h2 := hm.perm.mem_iff.1 hmem
  obtain ⟨j, hj, e⟩ := List.mem_iff_getElem.1 h2
  have := h j hj
  rw [show St.v xs j = xs[j] from St.getD_at hj, e] at this
  exact this

abbrev cmpF (c : Nat) : Value := .func (.func 37) #[] #[.pointer (some ⟨c, 0, none⟩)]
theorem cmpI_lt {a b : Int} (h : a < b) : cmpI a b < 0 := by unfold cmpI; rw [if_pos h]; omega
theorem cmpI_ge {a b : Int} (h : ¬ a < b) : ¬ cmpI a b < 0 := by unfold cmpI; rw [if_neg h]; split <;> omega
/-- A comparison of two places, wherever the row stands. -/
theorem cmp_at {g c : Nat} {l : List Edge} {w0 wr : World} {ys : List Int} (h : Cmpr g c l w0) (hg : w0.grownBy wr (some g)) (hl : l.length ≤ 1000000) (hr : InR l.length ys) {i j : Nat} (hi : i < ys.length) (hj : j < ys.length) {z : Int}
    (hz : cmpI (wtOf l (St.v ys i)) (wtOf l (St.v ys j)) = z) (k : Nat) :
    Calls Try.prog 37 #[.int .i64 (St.v ys i), .int .i64 (St.v ys j), .pointer (some ⟨c, 0, none⟩)] (wr.drewN k) fun e w' => e = .returned (.int .i64 z) ∧ ∃ n, w' = (wr.drewN k).drewN n := by
  have hk : w0.grownBy (wr.drewN k) (some g) := ⟨hg.os, hg.tape, hg.output, hg.size, hg.block⟩
  have := cmp_any (h.keep hk) hl _ _ (hr i hi).1 (hr i hi).2 (hr j hj).1 (hr j hj).2
  rw [hz] at this
  exact this
theorem Row.drewN {g : Nat} {xs : List Int} {w : World} (h : Row g xs w) (k : Nat) : Row g xs (w.drewN k) := ⟨h.bh⟩
theorem only_drewN {a w : World} {row : Option Nat} (h : a.grownBy w row) (k : Nat) : a.grownBy (w.drewN k) row := ⟨h.os, h.tape, h.output, h.size, h.block⟩

set_option maxRecDepth 100000 in
set_option maxHeartbeats 8000000 in
theorem ins_any (g c a b : Nat) (l : List Edge) (xs : List Int) (n : Nat) (hxn : xs.length = n) (hln : l.length = n) (w : World) (h : Row g xs w) (hc : Cmpr g c l w) (hr : InR n xs) (hinc : St.Inc a b xs) (hab : a ≤ b) (hb : b ≤ n) (hn : n ≤ 1000000) :
    Calls Try.prog 81 #[.slice (some ⟨g, 0, none⟩) n n, .int .i64 a, .int .i64 b, cmpF c] w fun e w' => e = .returned (.tuple #[]) ∧ ∃ ys, St.Mv a b xs ys ∧ St.Srt (wtOf l) a b ys ∧ Row g ys w' ∧ w.grownBy w' (some g) := by
  have HR := Lib.hid h; have HX := Lib.hid hxn; have HLN := Lib.hid hln; have HC := Lib.hid hc; have HIR := Lib.hid hr; have HINC := Lib.hid hinc
  have hn1 : (n : Int) ≤ 1000000 := by omega
  have b1 : (b : Int) ≤ n := by omega
  have ab1 : (a : Int) ≤ b := by omega
  clear h hxn hln hc hr hinc
  by_cases hab2 : a = b
  · subst hab2
    go_enter Try.func81, Try.ntmps81
    go_wp2
    refine wp_loop_rounds 1 ?_
    rw [rounds_succ]
    go_wp2
    go_end0
    exact ⟨rfl, xs, St.Mv.refl _ _ _, fun i j h1 h2 h3 => by omega, HR.out, World.grownBy.refl _ _⟩
  have ab2 : a < b := by omega
  clear hab2
  go_enter Try.func81, Try.ntmps81
  go_wp2
  go_loopw [8, 9] (fun x _ wr => ∃ i : Nat, a + 1 ≤ i ∧ i ≤ b ∧ x = .int .i64 i ∧ ∃ ys, Hid (St.Mv a i xs ys ∧ St.Srt (wtOf l) a i ys) ∧ Row g ys wr ∧ w.grownBy wr (some g)) (fun x _ _ => b - (intOf x).toNat)
  case atStart =>
    exact ⟨a + 1, by omega, by omega, by go_num, xs, Lib.hid ⟨St.Mv.refl _ _ _, fun i j h1 h2 h3 => by omega⟩, HR.out, World.grownBy.refl _ _⟩
  case round =>
    obtain ⟨i, hi, hib, rfl, ys, hS, hrow, hg⟩ := hrel
    have HROW := Lib.hid hrow; have HG := Lib.hid hg
    clear hrow hg
    have i1 : (a : Int) + 1 ≤ i := by omega
    by_cases hlt : i < b
    · have i2 : (i : Int) < b := by omega
      have hlen : ys.length = n := hS.out.1.len.trans HX.out
      have hst : St.Ins (wtOf l) a i i (St.v ys i) ys := St.Ins.start hS.out.2 (HINC.out.start hS.out.1 hlt (by rw [HX.out]; omega))
      have HST := Lib.hid hst
      have hmv : St.Mv a (i + 1) xs ys := hS.out.1.mono (Nat.le_refl _) (by omega)
      have HMV := Lib.hid hmv
      clear hst hmv hlen
      go_wp2_with fail
      go_loopw [9] (fun y wx => ∃ j : Nat, a ≤ j ∧ j ≤ i ∧ y = .int .i64 j ∧ ∃ zs, Hid (St.Mv a (i + 1) xs zs ∧ St.Ins (wtOf l) a i j (St.v ys i) zs) ∧ Row g zs wx ∧ w.grownBy wx (some g)) (fun y _ => (intOf y).toNat)
      case atStart => exact ⟨i, by omega, Nat.le_refl _, rfl, ys, Lib.hid ⟨HMV.out, HST.out⟩, HROW.out, HG.out⟩
      case round =>
        obtain ⟨j, hj, hji, rfl, zs, hZ, hrow, hg⟩ := hrel
        have hlen : zs.length = n := hZ.out.1.len.trans HX.out
        have hzr := HIR.out.mv hZ.out.1
        have j1 : (a : Int) ≤ j := by omega
        have j2 : (j : Int) ≤ i := by omega
        have HROW2 := Lib.hid hrow; have HG2 := Lib.hid hg
        by_cases hja : j = a
        · subst hja
          have hd : decide ((j : Int) < j) = false := by simp
          have HEND := Lib.hid (hZ.out.2.stop (Nat.le_refl _) (.inl rfl))
          clear hrow hg hlen hzr HST HMV HROW HG
          go_wp2_with fail
          go_quiet (fail)
          go_wp2
          go_roundw
          case rel => exact ⟨i + 1, by omega, by omega, by go_num, zs, Lib.hid ⟨hZ.out.1, HEND.out⟩, HROW2.out.drewN _, only_drewN HG2.out _⟩
          case measure => simp [intOf]; omega
        · have hja2 : (a : Int) < j := by omega
          have hj1 : (1 : Int) ≤ j := by omega
          have c1 := hrow.cell (i := j) (by omega)
          have c2 := hrow.cell (i := j - 1) (by omega)
          have f1 := hrow.frozen j
          have f2 := hrow.frozen (j - 1)
          have hgl := hrow.lt
          have hw := hZ.out.2.at_
          by_cases hcmp : wtOf l (St.v zs j) < wtOf l (St.v zs (j - 1))
          · have hz := cmpI_lt hcmp
            have hcall := fun k => cmp_at HC.out hg (by rw [HLN.out]; exact hn) (by rw [HLN.out]; exact hzr) (i := j) (j := j - 1) (by omega) (by omega) rfl k
            have HSTEP := Lib.hid (hZ.out.2.step (by omega) hji (by omega) (by rw [← hw]; exact hcmp))
            generalize cmpI (wtOf l (St.v zs j)) (wtOf l (St.v zs (j - 1))) = z at *
            have hlz : zs.length = n := hlen
            have HLZ := Lib.hid hlz
            have esw : St.swp zs j (j - 1) = (zs.set j (St.v zs (j - 1))).set (j - 1) (St.v zs j) := rfl
            generalize hx : St.v zs j = x at *
            generalize hy : St.v zs (j - 1) = y at *
            have HCALL := Lib.hid hcall; have ESW := Lib.hid esw
            clear hrow hg hlen hzr hw hcmp hcall hlz esw hx hy HST HMV HROW HG hS
            go_wp2_with fail
            go_quiet ((go_at_call 37; exact Calls.quiet_of (HCALL.out _)))
            go_wp2
            go_region
            go_wp2
            go_roundw
            case rel =>
              have hl := HLZ.out
              exact ⟨j - 1, by omega, by omega, by congr 1; omega, _, Lib.hid ⟨hZ.out.1.trans (St.Mv.swap (by omega) (by omega) (by omega) (by omega) (by omega) (by omega)), HSTEP.out⟩, (by rw [ESW.out]; exact ((HROW2.out.drewN _).set j y).set (j - 1) x), only_setCell (only_setCell (only_drewN HG2.out _) (.inl rfl) _) (.inl rfl) _⟩
            case measure => simp [intOf]; omega
          · have hz := cmpI_ge hcmp
            have hcall := fun k => cmp_at HC.out hg (by rw [HLN.out]; exact hn) (by rw [HLN.out]; exact hzr) (i := j) (j := j - 1) (by omega) (by omega) rfl k
            have HEND := Lib.hid (hZ.out.2.stop hj (.inr (by rw [← hw]; omega)))
            generalize cmpI (wtOf l (St.v zs j)) (wtOf l (St.v zs (j - 1))) = z at *
            generalize hx : St.v zs j = x at *
            generalize hy : St.v zs (j - 1) = y at *
            have HCALL := Lib.hid hcall
            clear hrow hg hlen hzr hw hcmp hcall hx hy HST HMV HROW HG hS
            go_wp2_with fail
            go_quiet ((go_at_call 37; exact Calls.quiet_of (HCALL.out _)))
            go_wp2
            go_roundw
            case rel => exact ⟨i + 1, by omega, by omega, by go_num, zs, Lib.hid ⟨hZ.out.1, HEND.out⟩, HROW2.out.drewN _, only_drewN HG2.out _⟩
            case measure => simp [intOf]; omega
    · have hibq : i = b := by omega
      subst hibq
      go_wp2
      go_end0
      exact ⟨rfl, ys, hS.out.1, hS.out.2, HROW.out, HG.out⟩
end Go.Proofs.Ytobaodkcjjgkdaa
namespace Go.Proofs.Ytobaodkcjjgkdaa.St
variable {wt : Int → Int}

/-- The thing at place a moved q places to the right. -/
def sft (xs : List Int) (a : Nat) : Nat → List Int
  | 0 => xs
  | q + 1 => swp (sft xs a q) (a + q) (a + q + 1)
theorem sft_length (xs : List Int) (a q : Nat) : (sft xs a q).length = xs.length := by
  induction q with
  | zero => rfl
  | succ q ih => rw [sft, swp_length, ih]
theorem v_sft (xs : List Int) (a : Nat) (q : Nat) : a + q < xs.length → ∀ k, v (sft xs a q) k = if a ≤ k ∧ k < a + q then v xs (k + 1) else if k = a + q then v xs a else v xs k := by
  induction q with
  | zero =>
    intro _ k
    rw [if_neg (by omega)]
    by_cases h : k = a + 0
    · rw [if_pos h, h]; rfl
    · rw [if_neg h]; rfl
  | succ q ih =>
    intro h k
    have ih := ih (by omega)
    rw [sft, v_swp _ _ _ _ (by rw [sft_length]; omega) (by rw [sft_length]; omega), ih (a + q), ih (a + q + 1), ih k]
    by_cases k1 : k = a + q + 1
    · rw [if_pos k1, if_neg (by omega), if_pos rfl, if_neg (by omega), if_pos (by omega)]
    · rw [if_neg k1]
      by_cases k2 : k = a + q
      · rw [if_pos k2, if_neg (by omega), if_neg (by omega), if_pos (by omega), k2]
      · rw [if_neg k2]
        by_cases k3 : a ≤ k ∧ k < a + q
        · rw [if_pos k3, if_pos (by omega)]
        · rw [if_neg k3, if_neg k2, if_neg (by omega), if_neg (by omega)]
theorem sft_mv {xs : List Int} {a b : Nat} (q : Nat) : a + q < xs.length → a + q < b → Mv a b xs (sft xs a q) := by
  induction q with
  | zero => intro _ _; exact Mv.refl _ _ _
  | succ q ih =>
    intro h1 h2
    exact (ih (by omega) (by omega)).trans (Mv.swap (by rw [sft_length]; omega) (by rw [sft_length]; omega) (by omega) (by omega) (by omega) (by omega))
/-- The one thing of the left run, moved to its place in the right one. -/
theorem one_srt {a b i : Nat} {xs : List Int} (hb : b ≤ xs.length) (S : Srt wt (a + 1) b xs) (L : Lss a (a + 1) b xs) (h1 : a + 1 ≤ i) (h2 : i ≤ b)
    (lo : i = a + 1 ∨ wt (v xs (i - 1)) < wt (v xs a)) (hi : i = b ∨ wt (v xs a) ≤ wt (v xs i)) : Srt wt a b (sft xs a (i - 1 - a)) := by
  have g := v_sft xs a (i - 1 - a) (by omega)
  have low : ∀ k, a + 1 ≤ k → k < i → R wt (v xs k) (v xs a) := fun k k1 k2 => by
    rcases lo with lo | lo
    · omega
    · by_cases e : k = i - 1
      · subst e; exact .inl lo
      · exact (S k (i - 1) k1 (by omega) (by omega)).trans (.inl lo)
  have high : ∀ k, i ≤ k → k < b → R wt (v xs a) (v xs k) := fun k k1 k2 => by
    have hl := L a k (Nat.le_refl _) (by omega) (by omega) k2
    rcases hi with hi | hi
    · omega
    · have h0 : R wt (v xs a) (v xs i) := by
        have := L a i (Nat.le_refl _) (by omega) (by omega) (by omega)
        unfold R; omega
      by_cases e : k = i
      · subst e; exact h0
      · exact h0.trans (S i k h1 (by omega) k2)
  intro p q p1 pq q2
  rw [g p, g q]
  by_cases c1 : a ≤ p ∧ p < a + (i - 1 - a)
  · rw [if_pos c1]
    by_cases c2 : a ≤ q ∧ q < a + (i - 1 - a)
    · rw [if_pos c2]; exact S _ _ (by omega) (by omega) (by omega)
    · rw [if_neg c2]
      by_cases c3 : q = a + (i - 1 - a)
      · rw [if_pos c3]; exact low _ (by omega) (by omega)
      · rw [if_neg c3]; exact S _ _ (by omega) (by omega) q2
  · rw [if_neg c1]
    by_cases c4 : p = a + (i - 1 - a)
    · rw [if_pos c4, if_neg (by omega), if_neg (by omega)]
      exact high q (by omega) q2
    · rw [if_neg c4, if_neg (by omega), if_neg (by omega)]
      exact S p q (by omega) pq q2

/-- The thing at place m moved q places to the left. -/
def sfl (xs : List Int) (m : Nat) : Nat → List Int
  | 0 => xs
  | q + 1 => swp (sfl xs m q) (m - q) (m - q - 1)
theorem sfl_length (xs : List Int) (m q : Nat) : (sfl xs m q).length = xs.length := by
  induction q with
  | zero => rfl
  | succ q ih => rw [sfl, swp_length, ih]
theorem v_sfl (xs : List Int) (m : Nat) (q : Nat) : q ≤ m → m < xs.length → ∀ k, v (sfl xs m q) k = if m - q < k ∧ k ≤ m then v xs (k - 1) else if k = m - q then v xs m else v xs k := by
  induction q with
  | zero =>
    intro _ _ k
    rw [if_neg (by omega)]
    by_cases h : k = m - 0
    · rw [if_pos h, h]; rfl
    · rw [if_neg h]; rfl
  | succ q ih =>
    intro h hm k
    have ih := ih (by omega) hm
    rw [sfl, v_swp _ _ _ _ (by rw [sfl_length]; omega) (by rw [sfl_length]; omega), ih (m - q), ih (m - q - 1), ih k]
    by_cases k1 : k = m - q - 1
    · rw [if_pos k1, if_neg (by omega), if_pos rfl, if_neg (by omega), if_pos (by omega)]
    · rw [if_neg k1]
      by_cases k2 : k = m - q
      · rw [if_pos k2, if_neg (by omega), if_neg (by omega), if_pos (by omega), k2]
      · rw [if_neg k2]
        by_cases k3 : m - q < k ∧ k ≤ m
        · rw [if_pos k3, if_pos (by omega)]
        · rw [if_neg k3, if_neg k2, if_neg (by omega), if_neg (by omega)]
theorem sfl_mv {xs : List Int} {a m b : Nat} (q : Nat) : a + q ≤ m → m < xs.length → m < b → Mv a b xs (sfl xs m q) := by
  induction q with
  | zero => intro _ _ _; exact Mv.refl _ _ _
  | succ q ih =>
    intro h1 h2 h3
    exact (ih (by omega) h2 h3).trans (Mv.swap (by rw [sfl_length]; omega) (by rw [sfl_length]; omega) (by omega) (by omega) (by omega) (by omega))
/-- The one thing of the right run, moved to its place in the left one. -/
theorem last_srt {a m i : Nat} {xs : List Int} (hb : m < xs.length) (S : Srt wt a m xs) (L : Lss a m (m + 1) xs) (h1 : a ≤ i) (h2 : i ≤ m)
    (lo : i = a ∨ wt (v xs (i - 1)) ≤ wt (v xs m)) (hi : i = m ∨ wt (v xs m) < wt (v xs i)) : Srt wt a (m + 1) (sfl xs m (m - i)) := by
  have g := v_sfl xs m (m - i) (by omega) hb
  have low : ∀ k, a ≤ k → k < i → R wt (v xs k) (v xs m) := fun k k1 k2 => by
    rcases lo with lo | lo
    · omega
    · have h0 : R wt (v xs (i - 1)) (v xs m) := by
        have := L (i - 1) m (by omega) (by omega) (Nat.le_refl _) (by omega)
        unfold R; omega
      by_cases e : k = i - 1
      · subst e; exact h0
      · exact (S k (i - 1) k1 (by omega) (by omega)).trans h0
  have high : ∀ k, i ≤ k → k < m → R wt (v xs m) (v xs k) := fun k k1 k2 => by
    rcases hi with hi | hi
    · omega
    · by_cases e : k = i
      · subst e; exact .inl hi
      · exact R.trans (.inl hi) (S i k h1 (by omega) k2)
  have hmi : m - (m - i) = i := by omega
  intro p q p1 pq q2
  rw [g p, g q, hmi]
  by_cases c1 : i < p ∧ p ≤ m
  · rw [if_pos c1, if_pos (by omega)]
    exact S _ _ (by omega) (by omega) (by omega)
  · rw [if_neg c1]
    by_cases c4 : p = i
    · rw [if_pos c4, if_pos (by omega)]
      exact high _ (by omega) (by omega)
    · rw [if_neg c4]
      by_cases c2 : i < q ∧ q ≤ m
      · rw [if_pos c2]; exact S _ _ p1 (by omega) (by omega)
      · rw [if_neg c2]
        by_cases c3 : q = i
        · rw [if_pos c3]; exact low p p1 (by omega)
        · rw [if_neg c3]; exact S p q p1 pq (by omega)
end Go.Proofs.Ytobaodkcjjgkdaa.St
namespace Go.Proofs.Ytobaodkcjjgkdaa
open Go Go.RowKit

set_option maxRecDepth 1000000 in
set_option maxHeartbeats 8000000 in
theorem sym_one (g c a b : Nat) (l : List Edge) (xs : List Int) (n : Nat) (hxn : xs.length = n) (hln : l.length = n) (w : World) (h : Row g xs w) (hc : Cmpr g c l w) (hr : InR n xs)
    (hS : St.Srt (wtOf l) (a + 1) b xs) (hL : St.Lss a (a + 1) b xs) (hab : a + 1 < b) (hb : b ≤ n) (hn : n ≤ 1000000) :
    Calls Try.prog 82 #[.slice (some ⟨g, 0, none⟩) n n, .int .i64 a, .int .i64 ((a + 1 : Nat) : Int), .int .i64 b, cmpF c] w fun e w' => e = .returned (.tuple #[]) ∧ ∃ ys, St.Mv a b xs ys ∧ St.Srt (wtOf l) a b ys ∧ Row g ys w' ∧ w.grownBy w' (some g) := by
  have HR := Lib.hid h; have HX := Lib.hid hxn; have HLN := Lib.hid hln; have HC := Lib.hid hc; have HIR := Lib.hid hr; have HS := Lib.hid hS; have HL := Lib.hid hL
  obtain ⟨m, hm⟩ : ∃ m, m = a + 1 := ⟨_, rfl⟩
  rw [← hm]
  have HM := Lib.hid hm
  have hn1 : (n : Int) ≤ 1000000 := by omega
  have b1 : (b : Int) ≤ n := by omega
  have m1 : (m : Int) < b := by omega
  have hd : (((m : Int) - a) == 1) = true := by simp; omega
  clear h hxn hln hc hr hS hL hm
  go_enter Try.func82, Try.ntmps82
  go_wp2
  go_loopw [10, 11] (fun x y wr => ∃ i j : Nat, m ≤ i ∧ i ≤ j ∧ j ≤ b ∧ x = .int .i64 i ∧ y = .int .i64 j ∧ Hid ((i = m ∨ wtOf l (St.v xs (i - 1)) < wtOf l (St.v xs a)) ∧ (j = b ∨ wtOf l (St.v xs a) ≤ wtOf l (St.v xs j))) ∧ Row g xs wr ∧ w.grownBy wr (some g)) (fun x y _ => (intOf y).toNat - (intOf x).toNat)
  case atStart => exact ⟨m, b, Nat.le_refl _, by omega, Nat.le_refl _, rfl, rfl, Lib.hid ⟨.inl rfl, .inl rfl⟩, HR.out, World.grownBy.refl _ _⟩
  case round =>
    obtain ⟨i, j, hi, hij, hj, rfl, rfl, hQ, hrow, hg⟩ := hrel
    have i1 : (m : Int) ≤ i := by omega
    have i2 : (i : Int) ≤ j := by omega
    have i3 : (j : Int) ≤ b := by omega
    have HROW := Lib.hid hrow; have HG := Lib.hid hg
    by_cases hlt : i < j
    · have hlt1 : (i : Int) < j := by omega
      obtain ⟨h, hh⟩ : ∃ h, h = (i + j) / 2 := ⟨_, rfl⟩
      have q0 : (0 : Int) ≤ ((i : Int) + j) / 2 := by omega
      have q1 : ((i : Int) + j) / 2 < n := by omega
      have hz0 : (0 : Int) ≤ (a : Int) := by omega
      have hz1 : (a : Int) < n := by have := HM.out; omega
      have c1 := hrow.cell (i := (i + j) / 2) (by rw [HX.out]; omega)
      have c2 := hrow.cell (i := a) (by rw [HX.out]; omega)
      rw [← hh] at c1
      have hidx : (((i : Int) + j) / 2).toNat = h := by omega
      have HH := Lib.hid hh
      by_cases hcmp : wtOf l (St.v xs h) < wtOf l (St.v xs a)
      · have hz := cmpI_lt hcmp
        have hcall := fun k => cmp_at HC.out hg (by rw [HLN.out]; exact hn) (by rw [HLN.out]; exact HIR.out) (i := h) (j := a) (by rw [HX.out, hh]; omega) (by rw [HX.out]; omega) rfl k
        generalize cmpI (wtOf l (St.v xs h)) (wtOf l (St.v xs a)) = z at *
        have hq2 : (h + 1 = m ∨ wtOf l (St.v xs (h + 1 - 1)) < wtOf l (St.v xs a)) ∧ (j = b ∨ wtOf l (St.v xs a) ≤ wtOf l (St.v xs j)) := ⟨.inr hcmp, hQ.out.2⟩
        have HQ2 := Lib.hid hq2
        generalize hx : St.v xs h = x at *
        generalize hy : St.v xs a = y at *
        have HCALL := Lib.hid hcall
        clear hrow hg hcmp hcall hx hy HR hh hq2
        go_wp2_with fail
        go_quiet ((go_at_call 37; exact Calls.quiet_of (HCALL.out _)))
        go_wp2
        go_roundw
        case rel => exact ⟨h + 1, j, by have := HH.out; omega, by have := HH.out; omega, hj, by congr 1; omega, rfl, Lib.hid (by simpa using HQ2.out), HROW.out.drewN _, only_drewN HG.out _⟩
        case measure => simp [intOf]; omega
      · have hz := cmpI_ge hcmp
        have hcall := fun k => cmp_at HC.out hg (by rw [HLN.out]; exact hn) (by rw [HLN.out]; exact HIR.out) (i := h) (j := a) (by rw [HX.out, hh]; omega) (by rw [HX.out]; omega) rfl k
        generalize cmpI (wtOf l (St.v xs h)) (wtOf l (St.v xs a)) = z at *
        have HQ2 := Lib.hid (show (i = m ∨ wtOf l (St.v xs (i - 1)) < wtOf l (St.v xs a)) ∧ (h = b ∨ wtOf l (St.v xs a) ≤ wtOf l (St.v xs h)) from ⟨hQ.out.1, .inr (by omega)⟩)
        generalize hx : St.v xs h = x at *
        generalize hy : St.v xs a = y at *
        have HCALL := Lib.hid hcall
        have HXX := Lib.hid hx
        clear hrow hg hcmp hcall hx hy HR hh
        go_wp2_with fail
        go_quiet ((go_at_call 37; exact Calls.quiet_of (HCALL.out _)))
        go_wp2
        go_roundw
        case rel => exact ⟨i, h, hi, by have := HH.out; omega, by have := HH.out; omega, rfl, by congr 1; omega, Lib.hid (by rw [HXX.out]; exact HQ2.out), HROW.out.drewN _, only_drewN HG.out _⟩
        case measure => simp [intOf]; omega
    · have hij2 : i = j := by omega
      subst hij2
      have HSRT := Lib.hid (St.one_srt (by rw [HX.out]; exact hb) HS.out HL.out (by rw [← HM.out]; exact hi) hj (by rw [← HM.out]; exact hQ.out.1) hQ.out.2)
      have ham : a + 1 ≤ i := by have := HM.out; omega
      have ham1 : (a : Int) + 1 ≤ i := by omega
      clear hrow hg HR
      go_wp2_with fail
      go_loopw [13] (fun x wx => ∃ k : Nat, a ≤ k ∧ k ≤ i - 1 ∧ x = .int .i64 k ∧ Row g (St.sft xs a (k - a)) wx ∧ w.grownBy wx (some g)) (fun x _ => i - (intOf x).toNat)
      case atStart => exact ⟨a, Nat.le_refl _, by omega, rfl, by rw [Nat.sub_self]; exact HROW.out, HG.out⟩
      case round =>
        obtain ⟨k, hk, hki, rfl, hrow, hg⟩ := hrel
        have hlen := St.sft_length xs a (k - a)
        rw [HX.out] at hlen
        have hstep : k + 1 ≤ i - 1 → St.sft xs a (k + 1 - a) = ((St.sft xs a (k - a)).set k (St.v (St.sft xs a (k - a)) (k + 1))).set (k + 1) (St.v (St.sft xs a (k - a)) k) := fun _ => by
          rw [show k + 1 - a = (k - a) + 1 by omega]
          show St.swp _ (a + (k - a)) (a + (k - a) + 1) = _
          rw [show a + (k - a) = k by omega]
          rfl
        generalize hzs : St.sft xs a (k - a) = zs at *
        have HROW2 := Lib.hid hrow; have HG2 := Lib.hid hg; have HZS := Lib.hid hzs; have HSTEP := Lib.hid hstep
        clear hzs hstep HROW HG
        by_cases hlt2 : k < i - 1
        · have k1 : (k : Int) < i - 1 := by omega
          have k2 : (k : Int) + 1 < n := by omega
          have c1 := hrow.cell (i := k) (by omega)
          have c2 := hrow.cell (i := k + 1) (by omega)
          have f1 := hrow.frozen k
          have f2 := hrow.frozen (k + 1)
          have hgl := hrow.lt
          generalize hx : St.v zs k = x at *
          generalize hy : St.v zs (k + 1) = y at *
          clear hrow hg hlen hx hy
          go_wp2
          go_region
          go_wp2
          go_roundw
          case rel => exact ⟨k + 1, by omega, by omega, by go_num, by rw [HSTEP.out (by omega)]; exact ((HROW2.out.set k y).set (k + 1) x).drew, only_drew (only_setCell (only_setCell HG2.out (.inl rfl) _) (.inl rfl) _)⟩
          case measure => simp [intOf]; omega
        · have hke : k = i - 1 := by omega
          have k3 : ¬ (k : Int) < i - 1 := by omega
          clear hrow hg hlen
          go_wp2
          refine bodyPost_ret (results_none rfl _ _ _) rfl ?_
          refine ⟨rfl, zs, ?_, ?_, HROW2.out, HG2.out⟩
          · rw [← HZS.out]
            exact St.sft_mv (k - a) (by rw [HX.out]; omega) (by omega)
          · rw [← HZS.out, show k - a = i - 1 - a by omega]
            exact HSRT.out
end Go.Proofs.Ytobaodkcjjgkdaa
namespace Go.Proofs.Ytobaodkcjjgkdaa
open Go Go.RowKit

set_option maxRecDepth 1000000 in
set_option maxHeartbeats 8000000 in
theorem sym_last (g c a m : Nat) (l : List Edge) (xs : List Int) (n : Nat) (hxn : xs.length = n) (hln : l.length = n) (w : World) (h : Row g xs w) (hc : Cmpr g c l w) (hr : InR n xs)
    (hS : St.Srt (wtOf l) a m xs) (hL : St.Lss a m (m + 1) xs) (ham : a + 1 < m) (hb : m + 1 ≤ n) (hn : n ≤ 1000000) :
    Calls Try.prog 82 #[.slice (some ⟨g, 0, none⟩) n n, .int .i64 a, .int .i64 m, .int .i64 ((m + 1 : Nat) : Int), cmpF c] w fun e w' => e = .returned (.tuple #[]) ∧ ∃ ys, St.Mv a (m + 1) xs ys ∧ St.Srt (wtOf l) a (m + 1) ys ∧ Row g ys w' ∧ w.grownBy w' (some g) := by
  have HR := Lib.hid h; have HX := Lib.hid hxn; have HLN := Lib.hid hln; have HC := Lib.hid hc; have HIR := Lib.hid hr; have HS := Lib.hid hS; have HL := Lib.hid hL
  obtain ⟨b, hm⟩ : ∃ b, b = m + 1 := ⟨_, rfl⟩
  rw [← hm]
  have HM := Lib.hid hm
  have hn1 : (n : Int) ≤ 1000000 := by omega
  have b1 : (b : Int) ≤ n := by omega
  have m1 : (m : Int) < n := by omega
  have m0 : (0 : Int) ≤ (m : Int) := by omega
  have a1 : (a : Int) + 1 < m := by omega
  have hd : (((m : Int) - a) == 1) = false := by simp; omega
  have hd2 : (((b : Int) - m) == 1) = true := by simp; omega
  clear h hxn hln hc hr hS hL hm
  go_enter Try.func82, Try.ntmps82
  go_wp2
  go_loopw [14, 15] (fun x y wr => ∃ i j : Nat, a ≤ i ∧ i ≤ j ∧ j ≤ m ∧ x = .int .i64 i ∧ y = .int .i64 j ∧ Hid ((i = a ∨ wtOf l (St.v xs (i - 1)) ≤ wtOf l (St.v xs m)) ∧ (j = m ∨ wtOf l (St.v xs m) < wtOf l (St.v xs j))) ∧ Row g xs wr ∧ w.grownBy wr (some g)) (fun x y _ => (intOf y).toNat - (intOf x).toNat)
  case atStart => exact ⟨a, m, Nat.le_refl _, by omega, Nat.le_refl _, rfl, rfl, Lib.hid ⟨.inl rfl, .inl rfl⟩, HR.out, World.grownBy.refl _ _⟩
  case round =>
    obtain ⟨i, j, hi, hij, hj, rfl, rfl, hQ, hrow, hg⟩ := hrel
    have i1 : (a : Int) ≤ i := by omega
    have i2 : (i : Int) ≤ j := by omega
    have i3 : (j : Int) ≤ m := by omega
    have HROW := Lib.hid hrow; have HG := Lib.hid hg
    by_cases hlt : i < j
    · have hlt1 : (i : Int) < j := by omega
      obtain ⟨h, hh⟩ : ∃ h, h = (i + j) / 2 := ⟨_, rfl⟩
      have q0 : (0 : Int) ≤ ((i : Int) + j) / 2 := by omega
      have q1 : ((i : Int) + j) / 2 < n := by omega
      have c1 := hrow.cell (i := (i + j) / 2) (by rw [HX.out]; omega)
      have c2 := hrow.cell (i := m) (by rw [HX.out]; omega)
      rw [← hh] at c1
      have hidx : (((i : Int) + j) / 2).toNat = h := by omega
      have HH := Lib.hid hh
      by_cases hcmp : wtOf l (St.v xs m) < wtOf l (St.v xs h)
      · have hz := cmpI_lt hcmp
        have hcall := fun k => cmp_at HC.out hg (by rw [HLN.out]; exact hn) (by rw [HLN.out]; exact HIR.out) (i := m) (j := h) (by rw [HX.out]; omega) (by rw [HX.out, hh]; omega) rfl k
        generalize cmpI (wtOf l (St.v xs m)) (wtOf l (St.v xs h)) = z at *
        have HQ2 := Lib.hid (show (i = a ∨ wtOf l (St.v xs (i - 1)) ≤ wtOf l (St.v xs m)) ∧ (h = m ∨ wtOf l (St.v xs m) < wtOf l (St.v xs h)) from ⟨hQ.out.1, .inr hcmp⟩)
        generalize hx : St.v xs h = x at *
        generalize hy : St.v xs m = y at *
        have HCALL := Lib.hid hcall
        have HXX := Lib.hid hx
        clear hrow hg hcmp hcall hx hy HR hh
        go_wp2_with fail
        go_quiet ((go_at_call 37; exact Calls.quiet_of (HCALL.out _)))
        go_wp2
        go_roundw
        case rel => exact ⟨i, h, hi, by have := HH.out; omega, by have := HH.out; omega, rfl, by congr 1; omega, Lib.hid (by rw [HXX.out]; exact HQ2.out), HROW.out.drewN _, only_drewN HG.out _⟩
        case measure => simp [intOf]; omega
      · have hz : decide (cmpI (wtOf l (St.v xs m)) (wtOf l (St.v xs h)) < 0) = false := decide_eq_false (cmpI_ge hcmp)
        have hcall := fun k => cmp_at HC.out hg (by rw [HLN.out]; exact hn) (by rw [HLN.out]; exact HIR.out) (i := m) (j := h) (by rw [HX.out]; omega) (by rw [HX.out, hh]; omega) rfl k
        generalize cmpI (wtOf l (St.v xs m)) (wtOf l (St.v xs h)) = z at *
        have HQ2 := Lib.hid (show (h + 1 = a ∨ wtOf l (St.v xs (h + 1 - 1)) ≤ wtOf l (St.v xs m)) ∧ (j = m ∨ wtOf l (St.v xs m) < wtOf l (St.v xs j)) from ⟨.inr (by rw [Nat.add_sub_cancel]; omega), hQ.out.2⟩)
        generalize hx : St.v xs h = x at *
        generalize hy : St.v xs m = y at *
        have HCALL := Lib.hid hcall
        clear hrow hg hcmp hcall hx hy HR hh
        go_wp2_with fail
        go_quiet ((go_at_call 37; exact Calls.quiet_of (HCALL.out _)))
        go_wp2
        go_roundw
        case rel => exact ⟨h + 1, j, by have := HH.out; omega, by have := HH.out; omega, hj, by congr 1; omega, rfl, Lib.hid (by simpa using HQ2.out), HROW.out.drewN _, only_drewN HG.out _⟩
        case measure => simp [intOf]; omega
    · have hij2 : i = j := by omega
      subst hij2
      have HSRT := Lib.hid (St.last_srt (by rw [HX.out]; exact hb) HS.out HL.out hi hj hQ.out.1 hQ.out.2)
      clear hrow hg HR
      go_wp2_with fail
      go_loopw [17] (fun x wx => ∃ k : Nat, i ≤ k ∧ k ≤ m ∧ x = .int .i64 k ∧ Row g (St.sfl xs m (m - k)) wx ∧ w.grownBy wx (some g)) (fun x _ => (intOf x).toNat)
      case atStart => exact ⟨m, by omega, Nat.le_refl _, rfl, by rw [Nat.sub_self]; exact HROW.out, HG.out⟩
      case round =>
        obtain ⟨k, hk, hki, rfl, hrow, hg⟩ := hrel
        have hlen := St.sfl_length xs m (m - k)
        rw [HX.out] at hlen
        have hstep : i < k → St.sfl xs m (m - (k - 1)) = ((St.sfl xs m (m - k)).set k (St.v (St.sfl xs m (m - k)) (k - 1))).set (k - 1) (St.v (St.sfl xs m (m - k)) k) := fun _ => by
          rw [show m - (k - 1) = (m - k) + 1 by omega]
          show St.swp _ (m - (m - k)) (m - (m - k) - 1) = _
          rw [show m - (m - k) = k by omega]
          rfl
        generalize hzs : St.sfl xs m (m - k) = zs at *
        have HROW2 := Lib.hid hrow; have HG2 := Lib.hid hg; have HZS := Lib.hid hzs; have HSTEP := Lib.hid hstep
        clear hzs hstep HROW HG
        by_cases hlt2 : i < k
        · have k1 : (i : Int) < k := by omega
          have k2 : (k : Int) < n := by omega
          have k3 : (1 : Int) ≤ k := by omega
          have c1 := hrow.cell (i := k) (by omega)
          have c2 := hrow.cell (i := k - 1) (by omega)
          have f1 := hrow.frozen k
          have f2 := hrow.frozen (k - 1)
          have hgl := hrow.lt
          generalize hx : St.v zs k = x at *
          generalize hy : St.v zs (k - 1) = y at *
          clear hrow hg hlen hx hy
          go_wp2
          go_region
          go_wp2
          go_roundw
          case rel => exact ⟨k - 1, by omega, by omega, by congr 1; omega, by rw [HSTEP.out hlt2]; exact ((HROW2.out.set k y).set (k - 1) x).drew, only_drew (only_setCell (only_setCell HG2.out (.inl rfl) _) (.inl rfl) _)⟩
          case measure => simp [intOf]; omega
        · have hke : k = i := by omega
          have k3 : ¬ (i : Int) < k := by omega
          clear hrow hg hlen
          go_wp2
          refine bodyPost_ret (results_none rfl _ _ _) rfl ?_
          refine ⟨rfl, zs, ?_, ?_, HROW2.out, HG2.out⟩
          · rw [← HZS.out]
            exact St.sfl_mv (m - k) (by omega) (by rw [HX.out]; omega) (by have := HM.out; omega)
          · rw [← HZS.out, show m - k = m - i by omega, HM.out]
            exact HSRT.out
end Go.Proofs.Ytobaodkcjjgkdaa
