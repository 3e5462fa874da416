/- The reference's Weight, walked. The reference's Swap, walked. numbers, edges, example of the laws, in plain words. works returns true. KruskalOrders, KruskalGrows, KruskalSwaps walked. KruskalGrows, KruskalSwaps walked. What came in, opened; what a law that answers true owes its row. slices.IndexFunc and slices.DeleteFunc over edges, walked. -/
import Derived.Test.YtobaodkcjjgkdaaMa10
import Derived.Maps.AppendAt
import Derived.Test.YtobaodkcjjgkdaaRows
import Derived.ProofKit
import Derived.OpenShut
import Derived.ChangeOld
import Derived.Deep.Slices
import Derived.Deep.Fields
import Derived.ChangeSame
import Derived.Lib.SmallJoins
import Derived.Carry
import Derived.Laws.IdiomCopy
import Derived.Lib.SlBuf
namespace Go.Proofs.Ytobaodkcjjgkdaa
open Go Go.RowKit Go.Proofs.YtobaodkcjjgkdaaW.PrintWords

theorem fit_sum (z : Int) : fitV z = sumV z ∧ (if fitB z = true then 0 else 7) = sumE z := by
  unfold fitV sumV sumE
  by_cases h : -9223372036854775808 ≤ z ∧ z < 9223372036854775808
  · have d : fitB z = true := decide_eq_true h
    rw [d, if_pos h, if_pos h]; exact ⟨rfl, rfl⟩
  · have d : fitB z = false := decide_eq_false h
    rw [d, if_neg h, if_neg h]; exact ⟨rfl, rfl⟩

set_option maxRecDepth 1000000 in
set_option maxHeartbeats 4000000 in
theorem rweight_any (n : Int) (A : Option Addr) (c : Nat) (l : List Edge) (w : World) (hE : Edges A l w) (hl : l.length ≤ 1000000) (hc : l.length ≤ c) (hw : WOk l) :
    Calls Try.prog 21 #[.int .i64 n, .slice A l.length c] w fun e w' => e = .returned (.tuple #[.int .i64 (weiV n l), .int .i64 (weiE n l)]) ∧ Below w.heap.size w w' := by
  have HE := Lib.hid hE; have HW := Lib.hid hw
  clear hE hw
  by_cases he : newE n l = 0
  · have hd : (newE n l != 0) = false := by rw [he]; rfl
    have HV : Hid (weiV n l = sumV (wSum n l) ∧ weiE n l = sumE (wSum n l)) := Lib.hid ⟨if_pos he, if_pos he⟩
    clear he
    go_enter Try.func21, Try.ntmps21
    go_wp2_with (go_at_call 19; refine (rforest_any n A c l w HE.out hl hc).mono ?_; rintro e w1 ⟨vo, rfl, ho, hb⟩; refine Hid.out ?_)
    obtain ⟨B, cb, rfl, -, -, hO⟩ := ho
    have HB := Lib.hid hb; have HE1 := Lib.hid (HE.out.on hb); have HO := Lib.hid hO
    clear hb hO
    refine Lib.hid ?_
    have hfl := forF_len n l
    go_wp2_with (go_at_call 45; refine (rsum_any A B c cb l (forF n l) w1 HE1.out HO.out (forF_mem n l) hl (Nat.le_trans hfl hl) (wts_ok HW.out (forF_mem n l))).mono ?_; rintro e w2 ⟨⟨r, ds, rfl, hdg, hv, -⟩, hb⟩; refine Hid.out ?_)
    have HB2 := Lib.hid (HB.out.trans (hb.mono HB.out.size))
    have HS := Lib.hid (int_any r ds w2 hdg)
    rw [hv, show (wts l (forF n l)).sum = wSum n l from rfl] at HS
    have HF := Lib.hid (fit_sum (wSum n l))
    clear hb hdg hv
    refine Lib.hid ?_
    go_wp2_with fail
    refine HS.out.mono ?_
    rintro e w3 ⟨rfl, hb⟩
    refine Hid.out ?_
    have HB3 := Lib.hid (HB2.out.trans (hb.mono HB2.out.size))
    clear hb hfl
    refine Lib.hid ?_
    cases hfb : fitB (wSum n l) with
    | true =>
      rw [hfb] at HF
      have HX := Lib.hid HF.out
      generalize fitV (wSum n l) = fv at *
      clear HF hfb
      go_wp2_with fail
      go_ret2
      exact ⟨by rw [HV.out.1, HV.out.2, ← HX.out.1, ← HX.out.2]; rfl, HB3.out⟩
    | false =>
      rw [hfb] at HF
      have hz : fitV (wSum n l) = 0 := by unfold fitV; rw [hfb]; rfl
      have HX := Lib.hid HF.out
      have HZ := Lib.hid hz
      clear HF hfb hz
      go_wp2_with fail
      go_ret2
      exact ⟨by rw [HV.out.1, HV.out.2, ← HX.out.1, ← HX.out.2, HZ.out]; rfl, HB3.out⟩
  · have hd : (newE n l != 0) = true := by simp [he]
    have HV : Hid (weiV n l = 0 ∧ weiE n l = newE n l) := Lib.hid ⟨if_neg he, if_neg he⟩
    clear he
    go_enter Try.func21, Try.ntmps21
    go_wp2_with (go_at_call 19; refine (rforest_any n A c l w HE.out hl hc).mono ?_; rintro e w1 ⟨vo, rfl, ho, hb⟩; refine Hid.out ?_)
    have HB := Lib.hid hb
    clear hb ho
    refine Lib.hid ?_
    go_wp2
    go_ret2
    exact ⟨by rw [HV.out.1, HV.out.2]; rfl, HB.out⟩
end Go.Proofs.Ytobaodkcjjgkdaa
namespace Go.Proofs.Ytobaodkcjjgkdaa
open Go Go.RowKit Go.Proofs.YtobaodkcjjgkdaaW.PrintWords

theorem ecells_app (l r : List Edge) : ecells (l ++ r) = ecells l ++ ecells r := by unfold ecells; rw [List.flatMap_append]
attribute [local go_sem ↓] app_appS
set_option maxRecDepth 1000000 in
theorem app_edges (A : Option Addr) (c : Nat) (l : List Edge) (W : World) (hE : Edges A l W) (hl : l.length ≤ 1000000) :
    ∃ v w', (appS #[22, 22] 22 #[.slice none 0 0, .slice A l.length c]).run Try.prog W = .ok v w' ∧ w'.ownsRow W.heap.size 36 3 v l.length (ecells l) ∧ Below W.heap.size W w' := by
  obtain ⟨i0, hi, hz0, hz1, hz2⟩ := info_parts info_edge
  cases A with
  | none =>
    have h0 : l = [] := by
      rcases Nat.eq_zero_or_pos l.length with h | h
      · exact List.eq_nil_of_length_eq_zero h
      · obtain ⟨b, o, e, -⟩ := hE h
        cases e
    subst h0
    refine ⟨.slice none 0 0, W, ?_, ⟨rfl, .inl ⟨rfl, rfl⟩⟩, Below.refl _ _⟩
    simp [appS, Builtin.append_, run_underlying Try.underlying22, sizeOf, typeInfo, hi, Builtin.lenOf, Builtin.firstCells]
  | some ad =>
    obtain ⟨v', w', hr, h2, h3, _, h5⟩ := run_append_own_at (P := Try.prog) W W.heap.size 22 22 36 i0 (.agg #[.int .i64 0, .int .i64 0, .int .i64 0]) 3 24 Try.underlying22 hi hz0 hz1 hz2 rfl (by decide) (.slice none 0 0) 0 [] ⟨rfl, .inl ⟨rfl, rfl⟩⟩ ad l.length c (ecells l) (ecells_len l) (by
        intro j u hj
        have hjl : j < l.length * 3 := by
          have := (List.getElem?_eq_some_iff.1 hj).1
          rwa [ecells_len] at this
        obtain ⟨b, o, e, hc⟩ := hE (by omega)
        injection e with e
        subst e
        have hji : j / 3 < l.length := by omega
        obtain ⟨k0, k1, k2⟩ := hc (j / 3) hji
        obtain ⟨g0, g1, g2⟩ := ecells_at l (j / 3) hji
        rw [Addr.add_lit]
        rcases (by omega : j = j / 3 * 3 ∨ j = j / 3 * 3 + 1 ∨ j = j / 3 * 3 + 2) with h | h | h
        · rw [h] at hj ⊢; rw [g0] at hj; cases hj; exact k0
        · rw [h] at hj ⊢; rw [g1] at hj; cases hj; exact k1
        · rw [h] at hj ⊢; rw [g2] at hj; cases hj; exact k2) (ecells_one l) (by unfold maxLen; omega) (by omega) (Nat.le_refl _)
    rw [Nat.zero_add, List.nil_append] at h2
    exact ⟨v', w', hr, h2, (Below.refl _ _).grown h3 (Nat.le_refl _) (fun k hk => by simp [Value.ownBlock] at hk)⟩
theorem app_one (B n : Nat) (v : Value) (xs : List Value) (U V X : Int) (W : World) (h : W.ownsRow B 36 3 v n xs) (hB : B ≤ W.heap.size) (hn : n ≤ 1000000) :
    ∃ v' w', (appS #[22, 22] 22 #[v, .slice (some ⟨W.heap.size, 0, none⟩) 1 1]).run Try.prog (W.alloc (.cells #[.int .i64 U, .int .i64 V, .int .i64 X] 36)) = .ok v' w' ∧ w'.ownsRow B 36 3 v' (n + 1) (xs ++ [.int .i64 U, .int .i64 V, .int .i64 X]) ∧ Below B W w' := by
  obtain ⟨i0, hi, hz0, hz1, hz2⟩ := info_parts info_edge
  obtain ⟨v', w', hr, h2, h3, _, h5⟩ := run_append_own_at (P := Try.prog) (W.alloc (.cells #[.int .i64 U, .int .i64 V, .int .i64 X] 36)) B 22 22 36 i0 (.agg #[.int .i64 0, .int .i64 0, .int .i64 0]) 3 24 Try.underlying22 hi hz0 hz1 hz2 rfl (by decide) v n xs (h.alloc _) ⟨W.heap.size, 0, none⟩ 1 1 [.int .i64 U, .int .i64 V, .int .i64 X] rfl (World.news_of_block (cs := #[.int .i64 U, .int .i64 V, .int .i64 X]) (t := 36) (fr := (0, 0)) (block_new _ _ _ rfl)) (by simp [Value.oneCell']) (by unfold maxLen; omega) (by omega) (by simp; omega)
  exact ⟨v', w', hr, h2, ((Below.refl B W).alloc hB _).grown h3 (by simp; omega) (fun k hk => (own_ge h k hk).1)⟩
theorem drop_at {a b : List Int} {i : Nat} (hi : i < a.length) (h : ∀ j, j < i → St.v a j ∈ b) (hn : St.v a i ∉ b) : Hp.dropF a b = St.v a i := by
  have e : a = a.take i ++ St.v a i :: a.drop (i + 1) := by
    rw [show St.v a i = a[i] from St.getD_at hi, ← List.drop_eq_getElem_cons hi, List.take_append_drop]
  have hm : ∀ y ∈ a.take i, y ∈ b := fun y hy => by
    obtain ⟨j, hj, rfl⟩ := List.getElem_of_mem hy
    rw [List.length_take] at hj
    have := h j (by omega)
    rwa [show St.v a j = a[j] from St.getD_at (by omega), ← List.getElem_take (h := by rw [List.length_take]; omega)] at this
  generalize St.v a i = x at *
  rw [e]
  exact Hp.dropF_some hm hn
theorem drop_end {a b : List Int} (h : ∀ j, j < a.length → St.v a j ∈ b) : Hp.dropF a b = -1 := by
  refine Hp.dropF_none fun y hy => ?_
  obtain ⟨j, hj, rfl⟩ := List.getElem_of_mem hy
  have := h j hj
  rwa [show St.v a j = a[j] from St.getD_at hj] at this
theorem vld_app {n : Nat} {l : List Edge} {x : Edge} (h : Vld n l) (h1 : 0 ≤ x.U ∧ x.U < n ∧ 0 ≤ x.V ∧ x.V < n ∧ x.U ≠ x.V) : Vld n (l ++ [x]) := fun e he => by
  rcases List.mem_append.1 he with he | he
  · exact h e he
  · rw [List.mem_singleton.1 he]; exact h1

set_option maxRecDepth 1000000 in
set_option maxHeartbeats 8000000 in
theorem rswap_any (n : Int) (A : Option Addr) (c : Nat) (l : List Edge) (x : Edge) (w : World) (hE : Edges A l w) (hl : l.length ≤ 1000000) (hcc : l.length ≤ c) :
    Calls Try.prog 23 #[.int .i64 n, .slice A l.length c, .agg #[.int .i64 x.U, .int .i64 x.V, .int .i64 x.W]] w fun e w' => e = .returned (.tuple #[.int .i64 (swV n l x), .int .i64 (swE n l x)]) ∧ Below w.heap.size w w' := by
  have HE := Lib.hid hE
  have hb0 : Below w.heap.size w (w.alloc (.cells #[.int .i64 x.U, .int .i64 x.V, .int .i64 x.W] 36)) := (Below.refl _ _).alloc (Nat.le_refl _) _
  have HB0 := Lib.hid hb0
  have HE0 := Lib.hid (hE.on hb0)
  have hbx : (w.alloc (.cells #[.int .i64 x.U, .int .i64 x.V, .int .i64 x.W] 36)).heap[w.heap.size]? = some (.cells #[.int .i64 x.U, .int .i64 x.V, .int .i64 x.W] 36 (0, 0)) := block_new _ _ _ rfl
  have HBX := Lib.hid hbx
  clear hE hb0 hbx
  by_cases he : newE n l = 0
  · obtain ⟨k, rfl, hk, hm, hv⟩ := newE_zero he
    have hk1 : (k : Int) ≤ 4096 := by omega
    have hd : (newE k l != 0) = false := by rw [he]; rfl
    have HFO : Hid (forF k l = accF k l (ordL l)) := Lib.hid (by unfold forF; rw [if_pos he, Int.toNat_natCast])
    have hse : swE k l x = if x.U < 0 ∨ (k : Int) ≤ x.U ∨ x.V < 0 ∨ (k : Int) ≤ x.V then 3 else if x.U = x.V then 9 else 0 := by unfold swE; rw [if_neg (by simpa using he)]
    have HZ := Lib.hid he; have HV := Lib.hid hv
    clear he hv
    by_cases hbad : x.U < 0 ∨ (k : Int) ≤ x.U ∨ x.V < 0 ∨ (k : Int) ≤ x.V
    · rw [if_pos hbad] at hse
      have HR : Hid (swE k l x = 3 ∧ swV k l x = 0) := Lib.hid ⟨hse, by unfold swV; rw [hse, if_neg (by decide)]⟩
      rw [HR.out.1, HR.out.2]
      clear hse HR
      obtain ⟨U, V, W⟩ := x
      simp only at *
      by_cases h1 : U < 0
      · clear hbad
        go_enter Try.func23, Try.ntmps23
        go_wp2_with (go_at_call 19; refine (rforest_any k A c l _ HE0.out hl hcc).mono ?_; rintro e w1 ⟨vo, rfl, ho, hb⟩; obtain ⟨hc1, -⟩ := bcell hb; have g := fun o => hc1 w.heap.size o (by simp); clear hc1; have HB := Lib.hid (HB0.out.trans (hb.mono (by simp)));  clear hb ho)
        go_ret2
        exact ⟨rfl, HB.out⟩
      · by_cases h2 : (k : Int) ≤ U
        · clear hbad
          go_enter Try.func23, Try.ntmps23
          go_wp2_with (go_at_call 19; refine (rforest_any k A c l _ HE0.out hl hcc).mono ?_; rintro e w1 ⟨vo, rfl, ho, hb⟩; obtain ⟨hc1, -⟩ := bcell hb; have g := fun o => hc1 w.heap.size o (by simp); clear hc1; have HB := Lib.hid (HB0.out.trans (hb.mono (by simp)));  clear hb ho)
          go_ret2
          exact ⟨rfl, HB.out⟩
        · by_cases h3 : V < 0
          · clear hbad
            go_enter Try.func23, Try.ntmps23
            go_wp2_with (go_at_call 19; refine (rforest_any k A c l _ HE0.out hl hcc).mono ?_; rintro e w1 ⟨vo, rfl, ho, hb⟩; obtain ⟨hc1, -⟩ := bcell hb; have g := fun o => hc1 w.heap.size o (by simp); clear hc1; have HB := Lib.hid (HB0.out.trans (hb.mono (by simp)));  clear hb ho)
            go_ret2
            exact ⟨rfl, HB.out⟩
          · have h4 : (k : Int) ≤ V := by omega
            clear hbad
            go_enter Try.func23, Try.ntmps23
            go_wp2_with (go_at_call 19; refine (rforest_any k A c l _ HE0.out hl hcc).mono ?_; rintro e w1 ⟨vo, rfl, ho, hb⟩; obtain ⟨hc1, -⟩ := bcell hb; have g := fun o => hc1 w.heap.size o (by simp); clear hc1; have HB := Lib.hid (HB0.out.trans (hb.mono (by simp)));  clear hb ho)
            go_ret2
            exact ⟨rfl, HB.out⟩
    · rw [if_neg hbad] at hse
      obtain ⟨U, V, W⟩ := x
      simp only at *
      have h1 : 0 ≤ U := by omega
      have h2 : U < k := by omega
      have h3 : 0 ≤ V := by omega
      have h4 : V < k := by omega
      clear hbad
      by_cases h5 : U = V
      · rw [if_pos h5] at hse
        have HR : Hid (swE k l ⟨U, V, W⟩ = 9 ∧ swV k l ⟨U, V, W⟩ = 0) := Lib.hid ⟨hse, by unfold swV; rw [hse, if_neg (by decide)]⟩
        rw [HR.out.1, HR.out.2]
        clear hse HR
        subst h5
        go_enter Try.func23, Try.ntmps23
        go_wp2_with (go_at_call 19; refine (rforest_any k A c l _ HE0.out hl hcc).mono ?_; rintro e w1 ⟨vo, rfl, ho, hb⟩; obtain ⟨hc1, -⟩ := bcell hb; have g := fun o => hc1 w.heap.size o (by simp); clear hc1; have HB := Lib.hid (HB0.out.trans (hb.mono (by simp)));  clear hb ho)
        go_ret2
        exact ⟨rfl, HB.out⟩
      · rw [if_neg h5] at hse
        have HR : Hid (swE k l ⟨U, V, W⟩ = 0 ∧ swV k l ⟨U, V, W⟩ = Hp.dropF (accF k l (ordL l)) (accF k (l ++ [⟨U, V, W⟩]) (ordL (l ++ [⟨U, V, W⟩])))) := Lib.hid ⟨hse, by unfold swV; rw [hse, if_pos rfl, HFO.out, Int.toNat_natCast]⟩
        rw [HR.out.1, HR.out.2]
        clear hse HR
        have h5b : (U == V) = false := by simpa using h5
        have HV2 := Lib.hid (vld_app (x := ⟨U, V, W⟩) HV.out ⟨h1, h2, h3, h4, h5⟩)
        obtain ⟨L, hL⟩ : ∃ L, L = l ++ [(⟨U, V, W⟩ : Edge)] := ⟨_, rfl⟩
        rw [← hL] at HV2 ⊢
        have HL := Lib.hid hL
        have hll : L.length = l.length + 1 := by rw [hL]; simp
        have hbl := forF_len k l
        rw [HFO.out] at hbl
        have hbl2 := growF_len L (ordL L) (Uf.iota k) []
        rw [ordL_len] at hbl2
        have hbL : (accF k L (ordL L)).length ≤ L.length := by unfold accF; simpa using hbl2
        generalize hAC : accF k l (ordL l) = a at *
        have HBC : Hid (∃ q, q = accF k L (ordL L)) := Lib.hid ⟨_, rfl⟩
        clear h5 hL hAC hbl2
        obtain ⟨i0, hi, hz0, hz1, hz2⟩ := info_parts info_edge
        go_enter Try.func23, Try.ntmps23
        go_wp2_with fail
        refine (rforest_any k A c l _ HE0.out hl hcc).mono ?_
        rintro e w1 ⟨vo, rfl, ho, hb⟩
        refine Hid.out ?_
        rw [HFO.out] at ho
        obtain ⟨B, cb, rfl, -, -, hO⟩ := ho
        obtain ⟨hc1, -⟩ := bcell hb
        have g := fun o => hc1 w.heap.size o (by simp)
        have hB1 : Below w.heap.size w w1 := HB0.out.trans (hb.mono (by simp))
        obtain ⟨v2, w2, hr1, ho2, hb2⟩ := app_edges A c l w1 (HE0.out.on hb) hl
        have hB2 : Below w.heap.size w w2 := hB1.trans (hb2.mono hB1.size)
        have hz : w.heap.size < w1.heap.size := block_lt ((hb.block _ (by simp)).trans HBX.out)
        have g2 : ∀ o, w2.cell? ⟨w.heap.size, o, none⟩ = #[Value.int .i64 U, Value.int .i64 V, Value.int .i64 W][o]? := fun o => (hb2.cell (p := ⟨w.heap.size, o, none⟩) hz).trans ((g o).trans (cells_of_block HBX.out o))
        have gx0 : w2.cell? ⟨w.heap.size, 0, none⟩ = some (.int .i64 U) := g2 0
        have gx1 : w2.cell? ⟨w.heap.size, 1, none⟩ = some (.int .i64 V) := g2 1
        have gx2 : w2.cell? ⟨w.heap.size, 2, none⟩ = some (.int .i64 W) := g2 2
        obtain ⟨v3, w3, hr2, ho3, hb3⟩ := app_one w1.heap.size l.length v2 (ecells l) U V W w2 ho2 hb2.size hl
        have hB3 : Below w.heap.size w w3 := hB2.trans (hb3.mono (Nat.le_of_lt hz))
        have e3 : ecells l ++ [.int .i64 U, .int .i64 V, .int .i64 W] = ecells L := by rw [HL.out, ecells_app]; rfl
        rw [e3, ← hll] at ho3
        obtain ⟨A3, c3, rfl, hE3, hc3⟩ := Edges.ofOwn ho3
        have hO3 : IntsR B a w3 := hO.on (hb2.trans hb3)
        have HB3 := Lib.hid hB3; have HE3 := Lib.hid hE3; have HO3 := Lib.hid hO3
        clear hO hc1 hB1 ho2 hb2 hB2 g2 ho3 hb3 hB3 e3 hE3 hO3 hb hz
        refine Lib.hid ?_
        have hL1 : L.length ≤ 1000000 := by omega
        have HC3 := Lib.hid hc3
        clear hll hc3
        go_wp2_with fail
        refine (rgrown_any k (by omega) A3 c3 L w3 HE3.out hL1 HC3.out HV2.out).mono ?_
        rintro e w4 ⟨v4, rfl, hr, hb4⟩
        refine Hid.out ?_
        obtain ⟨B4, cb4, rfl, -, -, hO4⟩ := hr
        have HB4 := Lib.hid (HB3.out.trans (hb4.mono HB3.out.size)); have HA4 := Lib.hid (HO3.out.on hb4)
        have hbL' : (accF k L (ordL L)).length ≤ 1000000 := by omega
        have HO4 := Lib.hid hO4
        clear hb4 hO4 hbL
        generalize hq : accF k L (ordL L) = q at *
        have HQ := Lib.hid hq
        have al1 : (a.length : Int) ≤ 1000000 := by omega
        have ql1 : (q.length : Int) ≤ 1000000 := by omega
        clear hq g gx0 gx1 gx2 hr1 hr2
        refine Lib.hid ?_
        go_wp2_with fail
        go_loopw [12] (fun i wr => ∃ j : Nat, j ≤ a.length ∧ i = .int .i64 j ∧ Hid (∀ m, m < j → St.v a m ∈ q) ∧ Below w4.heap.size w4 wr) (fun i _ => a.length - (intOf i).toNat)
        case atStart => exact ⟨0, by omega, rfl, Lib.hid (fun m hm => by omega), Below.refl _ _⟩
        case round =>
          obtain ⟨j, hj, rfl, hI, hbr⟩ := hrel
          have HBR := Lib.hid hbr
          have HBW := Lib.hid (HB4.out.trans (hbr.mono HB4.out.size))
          by_cases hlt : j < a.length
          · have hlt1 : (j : Int) < a.length := by omega
            obtain ⟨ba, oa, rfl, hca⟩ := HA4.out (by omega)
            have ka0 := (hbr.cell (p := ⟨ba, oa + j, none⟩) (World.block_lt_of_cell? w4 _ (hca j hlt))).trans (hca j hlt)
            have hVA := Lib.hid (show ∃ y, St.v a j = y from ⟨_, rfl⟩)
            obtain ⟨y, hy⟩ := hVA.out
            rw [hy] at ka0
            have HY := Lib.hid hy
            clear hbr hca hVA hy
            obtain ⟨wo, rfl⟩ : ∃ wo : World, wo = wr := ⟨_, rfl⟩
            go_wp2_with fail
            go_loopw [13, 14] (fun f i wr => ∃ m : Nat, m ≤ q.length ∧ i = .int .i64 m ∧ ∃ F : Bool, f = .bool F ∧ Hid (F = true ↔ y ∈ q.take m) ∧ Below wo.heap.size wo wr) (fun _ i _ => q.length - (intOf i).toNat)
            case atStart => exact ⟨0, by omega, rfl, false, rfl, Lib.hid (by simp), Below.refl _ _⟩
            case round =>
              obtain ⟨m, hm, rfl, F, rfl, hF, hbi⟩ := hrel
              by_cases hmt : m < q.length
              · have hmt1 : (m : Int) < q.length := by omega
                obtain ⟨bq, oq, rfl, hcq⟩ := HO4.out (by omega)
                have hbq := HBR.out.trans (hbi.mono HBR.out.size)
                have kq := (hbq.cell (p := ⟨bq, oq + m, none⟩) (World.block_lt_of_cell? w4 _ (hcq m hmt))).trans (hcq m hmt)
                have ka := (hbi.cell (p := ⟨ba, oa + j, none⟩) (World.block_lt_of_cell? wo _ ka0)).trans ka0
                have hts : q.take (m + 1) = q.take m ++ [St.v q m] := Wd.take_succ hmt
                have HTS := Lib.hid hts; have HBI := Lib.hid hbi
                generalize St.v q m = z at *
                clear hcq hbq hts hbi
                by_cases hyz : y = z
                · have hb1 : (y == z) = true := by simp [hyz]
                  have hF1 : true = true ↔ y ∈ q.take (m + 1) := by rw [HTS.out, hyz]; simp
                  have HF1 := Lib.hid hF1
                  clear hF1 hyz
                  go_wp2_with fail
                  go_quiet (fail)
                  go_wp2_with fail
                  go_roundw
                  case rel => exact ⟨m + 1, by omega, by go_num, true, rfl, Lib.hid (by simpa using HF1.out), below_drewN' HBI.out _⟩
                  case measure => simp [intOf]; omega
                · have hb1 : (y == z) = false := by simp [hyz]
                  have hF1 : F = true ↔ y ∈ q.take (m + 1) := by rw [HTS.out, List.mem_append, List.mem_singleton, hF.out]; simp [hyz]
                  have HF1 := Lib.hid hF1
                  clear hF1 hyz
                  go_wp2_with fail
                  go_quiet (fail)
                  go_wp2_with fail
                  go_roundw
                  case rel => exact ⟨m + 1, by omega, by go_num, F, rfl, HF1, below_drewN' HBI.out _⟩
                  case measure => simp [intOf]; omega
              · have hmm : m = q.length := by omega
                subst hmm
                have hF1 := hF.out
                rw [List.take_length] at hF1
                have ka := (hbi.cell (p := ⟨ba, oa + j, none⟩) (World.block_lt_of_cell? wo _ ka0)).trans ka0
                have HF1 := Lib.hid hF1; have HBI := Lib.hid hbi
                clear hF hF1 hbi
                cases F with
                | true =>
                  go_wp2_with fail
                  go_roundw
                  case rel =>
                    refine ⟨j + 1, by omega, by go_num, Lib.hid fun m hm' => ?_, HBR.out.trans (HBI.out.mono HBR.out.size)⟩
                    by_cases e : m = j
                    · rw [e, HY.out]; exact HF1.out.1 rfl
                    · exact hI.out m (by omega)
                  case measure => simp [intOf]; omega
                | false =>
                  have hD : Hp.dropF a (accF k L (ordL L)) = y := by
                    rw [HQ.out, ← HY.out]
                    exact drop_at hlt hI.out (by rw [HY.out]; exact fun h => by have := HF1.out.2 h; cases this)
                  have HD := Lib.hid hD
                  clear hD
                  go_wp2_with fail
                  go_ret2
                  exact ⟨by rw [HD.out]; rfl, HBW.out.trans (HBI.out.mono HBW.out.size)⟩
          · have hjj : j = a.length := by omega
            subst hjj
            have hD : Hp.dropF a (accF k L (ordL L)) = -1 := by rw [HQ.out]; exact drop_end hI.out
            have HD := Lib.hid hD
            clear hD hbr
            go_wp2_with fail
            go_ret2
            exact ⟨by rw [HD.out]; rfl, HBW.out⟩
  · have hd : (newE n l != 0) = true := by simp [he]
    have HV : Hid (swE n l x = newE n l ∧ swV n l x = 0) := Lib.hid (by
      have : swE n l x = newE n l := by unfold swE; rw [if_pos he]
      exact ⟨this, by unfold swV; rw [this, if_neg he]⟩)
    clear he
    go_enter Try.func23, Try.ntmps23
    go_wp2_with (go_at_call 19; refine (rforest_any n A c l _ HE0.out hl hcc).mono ?_; rintro e w1 ⟨vo, rfl, ho, hb⟩; obtain ⟨hc1, -⟩ := bcell hb; have g := fun o => hc1 w.heap.size o (by simp); clear hc1; have HB := Lib.hid (HB0.out.trans (hb.mono (by simp)));  clear hb ho)
    go_ret2
    exact ⟨by rw [HV.out.1, HV.out.2]; rfl, HB.out⟩
end Go.Proofs.Ytobaodkcjjgkdaa
namespace Go.Proofs.Ytobaodkcjjgkdaa
open Go Go.RowKit Go.Proofs.YtobaodkcjjgkdaaW.PrintWords
open PKruskalSwaps (seepagelaw17_numbers.l0 seepagelaw17_numbers.f seepagelaw17_edges.l0 seepagelaw17_edges.f)

theorem num_l0 (xs ys : List Int) (hl : xs.length = ys.length) (hx : xs.length ≤ 1000000) : ∀ d i : Nat, i + d = xs.length → xs.take i = ys.take i → ∃ k, seepagelaw17_numbers.l0 k xs ys (i : Int) = some (decide (xs = ys)) := by
  intro d
  induction d with
  | zero =>
    intro i hi he
    refine ⟨1, ?_⟩
    rw [seepagelaw17_numbers.l0, if_neg (by omega)]
    rw [List.take_of_length_le (by omega), List.take_of_length_le (by omega)] at he
    rw [he, decide_eq_true rfl]
  | succ d ih =>
    intro i hi he
    have hi1 : i < xs.length := by omega
    have hi2 : i < ys.length := by omega
    have e1 : rd xs (i : Int) = xs[i] := by unfold rd; simp [List.getD_eq_getElem?_getD, hi1]
    have e2 : rd ys (i : Int) = ys[i] := by unfold rd; simp [List.getD_eq_getElem?_getD, hi2]
    by_cases hv : xs[i] = ys[i]
    · obtain ⟨k, hk⟩ := ih (i + 1) (by omega) (by rw [List.take_succ_eq_append_getElem hi1, List.take_succ_eq_append_getElem hi2, he, hv])
      refine ⟨k + 1, ?_⟩
      rw [seepagelaw17_numbers.l0, if_pos (by omega), if_pos (by omega), if_pos (by omega), e1, e2, if_pos hv, wrap_small _ (by omega) (by omega)]
      exact_mod_cast hk
    · refine ⟨1, ?_⟩
      rw [seepagelaw17_numbers.l0, if_pos (by omega), if_pos (by omega), if_pos (by omega), e1, e2, if_neg hv]
      rw [decide_eq_false]
      intro e
      subst e
      exact hv rfl
theorem num_f (xs ys : List Int) (hx : xs.length ≤ 1000000) : ∃ k, seepagelaw17_numbers.f k xs ys = some (decide (xs = ys)) := by
  by_cases hl : xs.length = ys.length
  · obtain ⟨k, hk⟩ := num_l0 xs ys hl hx xs.length 0 (by omega) (by simp)
    refine ⟨k, ?_⟩
    rw [seepagelaw17_numbers.f, if_pos (by omega)]
    exact hk
  · refine ⟨0, ?_⟩
    rw [seepagelaw17_numbers.f, if_neg (by omega), decide_eq_false]
    intro e
    rw [e] at hl
    exact hl rfl
theorem numbers_any (A B : Option Addr) (ca cb : Nat) (xs ys : List Int) (w : World) (hA : IntsR A xs w) (hB : IntsR B ys w) (hx : xs.length ≤ 1000000) (hy : ys.length ≤ 1000000) (h1 : xs.length ≤ ca) (h2 : ys.length ≤ cb) :
    Calls Try.prog 12 #[.slice A xs.length ca, .slice B ys.length cb] w fun e w' => e = .returned (.bool (decide (xs = ys))) ∧ ∃ n, w' = w.drewN n := by
  obtain ⟨k, hk⟩ := num_f xs ys hx
  refine (PKruskalSwaps.seepagelaw17_numbers.calls k A ca xs B cb ys _ w (intsC hA hx) h1 (intsC hB hy) h2 hk).mono ?_
  rintro e w' ⟨rfl, hd⟩
  exact ⟨rfl, hd.out⟩
theorem Edge.dec (a b : Edge) : (a = b) ↔ (a.U = b.U ∧ a.V = b.V ∧ a.W = b.W) := by
  constructor
  · rintro rfl; exact ⟨rfl, rfl, rfl⟩
  · obtain ⟨_, _, _⟩ := a
    obtain ⟨_, _, _⟩ := b
    rintro ⟨h1, h2, h3⟩
    simp only at h1 h2 h3
    subst h1 h2 h3; rfl
theorem edg_l0 (l : List Edge) (hx : l.length ≤ 1000000) : ∀ d i : Nat, i + d = l.length → ∃ k, seepagelaw17_edges.l0 k (l.map toS) (l.map toS) (i : Int) = some true := by
  intro d
  induction d with
  | zero =>
    intro i hi
    refine ⟨1, ?_⟩
    rw [seepagelaw17_edges.l0, if_neg (by rw [List.length_map]; omega)]
  | succ d ih =>
    intro i hi
    obtain ⟨k, hk⟩ := ih (i + 1) (by omega)
    refine ⟨k + 1, ?_⟩
    rw [seepagelaw17_edges.l0, if_pos (by rw [List.length_map]; omega), if_pos (by omega), if_pos (by rw [List.length_map]; omega), if_neg (by simp), wrap_small _ (by omega) (by omega)]
    exact_mod_cast hk
theorem edges_any (A B : Option Addr) (ca cb : Nat) (l : List Edge) (w : World) (hA : Edges A l w) (hB : Edges B l w) (hx : l.length ≤ 1000000) (h1 : l.length ≤ ca) (h2 : l.length ≤ cb) :
    Calls Try.prog 15 #[.slice A l.length ca, .slice B l.length cb] w fun e w' => e = .returned (.bool true) ∧ ∃ n, w' = w.drewN n := by
  obtain ⟨k, hk⟩ := edg_l0 l hx l.length 0 (by omega)
  have hl : (l.map toS).length = l.length := List.length_map ..
  have h := PKruskalSwaps.seepagelaw17_edges.calls k A ca (l.map toS) B cb (l.map toS) true w (edgesC hA hx) (by omega) (edgesC hB hx) (by omega) (by rw [seepagelaw17_edges.f, if_pos rfl]; exact hk)
  rw [hl] at h
  refine h.mono ?_
  rintro e w' ⟨rfl, hd⟩
  exact ⟨rfl, hd.out⟩
def exE : List Edge := [⟨0, 1, 4⟩, ⟨1, 2, 2⟩, ⟨2, 0, 2⟩, ⟨0, 1, 1⟩, ⟨3, 4, -5⟩]
theorem Edges.ofC {A : Option Addr} {l : List Edge} {w : World} (h : Kd.C PKruskalSwaps.k36 w A l.length (l.map toS)) (hA : 0 < l.length → ∀ ad, A = some ad → ad.spot = none) : Edges A l w := by
  intro hn
  obtain ⟨ad, e, hc⟩ := h.2.2 hn
  obtain ⟨b, o, s⟩ := ad
  have hs : s = none := hA hn _ e
  subst hs
  refine ⟨b, o, e, fun j hj => ?_⟩
  have hj2 : j < (l.map toS).length := by rw [List.length_map]; exact hj
  obtain ⟨c, -, hK, hcell⟩ := hc j _ (List.getElem?_eq_getElem hj2)
  obtain rfl := PKruskalSwaps.k36_open hK
  have hg : (l.map toS)[j] = toS (l.getD j edge0) := by rw [List.getElem_map]; simp [List.getD_eq_getElem?_getD, hj]
  rw [hg] at hcell
  have c0 := hcell 0 _ rfl
  have c1 := hcell 1 _ rfl
  have c2 := hcell 2 _ rfl
  rw [add_off] at c0 c1 c2
  exact ⟨c0, c1, c2⟩
theorem example_any (w : World) :
    Calls Try.prog 34 #[] w fun e w' => (∃ B cb, e = .returned (.slice B exE.length cb) ∧ exE.length ≤ cb ∧ Edges B exE w') ∧ Below w.heap.size w w' := by
  refine (PKruskalSwaps.seepagelaw17_example.calls (exE.map toS) w rfl).mono ?_
  rintro e w' ⟨v, rfl, hR, hb⟩
  obtain ⟨B, cb, rfl, h1, h2⟩ := Kd.R_reads hR
  refine ⟨⟨B, cb, rfl, h1, Edges.ofC h2 fun hn ad e => ?_⟩, hb⟩
  obtain ⟨g, cap, e2, -⟩ := Kd.R_form hR hn
  injection e2 with e2 _ _
  rw [e] at e2
  injection e2 with e2
  rw [e2]
theorem ord_ex : ordL exE = [4, 3, 1, 2, 0] := (Hp.ord_uniq (by decide) (by decide)).symm
theorem new_ex : newE 6 exE = 0 := by decide
theorem for_ex : forF 6 exE = [4, 3, 1] := by
  unfold forF
  rw [if_pos new_ex, ord_ex]; decide
theorem wei_ex : weiV 6 exE = -2 ∧ weiE 6 exE = 0 := by
  have h : wSum 6 exE = -2 := by unfold wSum; rw [for_ex]; decide
  unfold weiV weiE
  rw [if_pos new_ex, if_pos new_ex, h]; decide
end Go.Proofs.Ytobaodkcjjgkdaa
namespace Go.Proofs.Ytobaodkcjjgkdaa
open Go Go.RowKit

theorem ord_ex2 : ordL (exE ++ [⟨0, 2, 1⟩]) = [4, 3, 5, 1, 2, 0] := (Hp.ord_uniq (by decide) (by decide)).symm
theorem swap_ex : swV 6 exE ⟨0, 2, 1⟩ = 1 ∧ swE 6 exE ⟨0, 2, 1⟩ = 0 := by
  have h : swE 6 exE ⟨0, 2, 1⟩ = 0 := by unfold swE; rw [new_ex]; decide
  refine ⟨?_, h⟩
  unfold swV
  rw [h, if_pos rfl, for_ex, ord_ex2]; decide
set_option maxRecDepth 1000000 in
set_option maxHeartbeats 8000000 in
theorem works_any (w : World) :
    Calls Try.prog 16 #[] w fun e w' => e = .returned (.bool true) ∧ Below w.heap.size w w' := by
  go_enter Try.func16, Try.ntmps16
  go_wp2_with fail
  refine (example_any w).mono ?_
  rintro e w1 ⟨⟨B, cb, rfl, hcb, hE⟩, hb⟩
  refine Hid.out ?_
  have HB1 := Lib.hid hb
  have HF := Lib.hid (forest_any 6 B cb exE w1 hE (by decide))
  rw [for_ex, new_ex] at HF
  clear hb hE hcb
  refine Lib.hid ?_
  go_wp2_with fail
  refine HF.out.mono ?_
  rintro e w2 ⟨vo, rfl, ho, hb⟩
  refine Hid.out ?_
  obtain ⟨BF, cf, rfl, hO, hcf⟩ := IntsR.ofOwn ho
  have HB2 := Lib.hid (HB1.out.trans (hb.mono HB1.out.size)); have HO2 := Lib.hid hO; have HCF := Lib.hid hcf
  clear hb ho hO HF hcf
  refine Lib.hid ?_
  go_wp2_with fail
  refine (example_any w2).mono ?_
  rintro e w3 ⟨⟨B3, cb3, rfl, hcb, hE⟩, hb⟩
  refine Hid.out ?_
  have HB3 := Lib.hid (HB2.out.trans (hb.mono HB2.out.size)); have HO3 := Lib.hid (HO2.out.on hb)
  have HF := Lib.hid (weight_any 6 B3 cb3 exE w3 hE (by decide) (by unfold WOk exE; decide))
  rw [wei_ex.1, wei_ex.2] at HF
  clear hb hE hcb HO2
  refine Lib.hid ?_
  go_wp2_with fail
  refine HF.out.mono ?_
  rintro e w4 ⟨rfl, hb⟩
  refine Hid.out ?_
  have HB4 := Lib.hid (HB3.out.trans (hb.mono HB3.out.size)); have HO4 := Lib.hid (HO3.out.on hb)
  clear hb HO3 HF
  refine Lib.hid ?_
  go_wp2_with fail
  refine (example_any w4).mono ?_
  rintro e w5 ⟨⟨B5, cb5, rfl, hcb, hE⟩, hb⟩
  refine Hid.out ?_
  have HB5 := Lib.hid (HB4.out.trans (hb.mono HB4.out.size)); have HO5 := Lib.hid (HO4.out.on hb)
  have HF := Lib.hid (swap_any 6 B5 cb5 exE ⟨0, 2, 1⟩ w5 hE (by decide))
  rw [swap_ex.1, swap_ex.2] at HF
  clear hb hE hcb HO4
  refine Lib.hid ?_
  go_wp2_with fail
  refine HF.out.mono ?_
  rintro e w6 ⟨rfl, hb⟩
  refine Hid.out ?_
  have HB6 := Lib.hid (HB5.out.trans (hb.mono HB5.out.size)); have HO6 := Lib.hid (HO5.out.on hb)
  have hr : IntsR (some ⟨w6.heap.size, 0, none⟩) [4, 3, 1] (w6.alloc (.cells #[.int .i64 4, .int .i64 3, .int .i64 1] 3)) := IntsR.ofRow ⟨block_new _ _ _ rfl⟩
  have HN := Lib.hid (numbers_any BF (some ⟨w6.heap.size, 0, none⟩) cf 3 [4, 3, 1] [4, 3, 1] _ (HO6.out.on ((Below.refl _ _).alloc (Nat.le_refl _) (.cells #[.int .i64 4, .int .i64 3, .int .i64 1] 3))) hr (by decide) (by decide) HCF.out (by decide))
  clear hb HO5 HF hr
  refine Lib.hid ?_
  go_wp2_with fail
  refine HN.out.mono ?_
  rintro e w7 ⟨rfl, nq, rfl⟩
  refine Hid.out ?_
  clear HN
  refine Lib.hid ?_
  go_wp2_with fail
  trace_state
  go_ret
  exact ⟨rfl, below_drewN' (HB6.out.alloc HB6.out.size _) _⟩
end Go.Proofs.Ytobaodkcjjgkdaa
namespace Go.Proofs.Ytobaodkcjjgkdaa
open Go Go.RowKit Go.Proofs.YtobaodkcjjgkdaaW.PrintWords

theorem drawn_below {w w' : World} (h : ∃ n, w' = w.drewN n) : Below w.heap.size w w' := by
  obtain ⟨n, rfl⟩ := h
  exact below_drewN' (Below.refl _ _) n
set_option maxRecDepth 1000000 in
theorem app_copy (A : Option Addr) (c : Nat) (l : List Edge) (W : World) (hE : Edges A l W) (hl : l.length ≤ 1000000) :
    ∃ B c' w', (appS #[22, 22] 22 #[.slice (some ⟨W.heap.size, 0, none⟩) 0 0, .slice A l.length c]).run Try.prog (W.alloc (.cells #[] 36)) = .ok (.slice B l.length c') w' ∧ Edges B l w' ∧ l.length ≤ c' ∧ Below W.heap.size W w' := by
  obtain ⟨i0, hi, hz0, hz1, hz2⟩ := info_parts info_edge
  cases A with
  | none =>
    have h0 : l = [] := by
      rcases Nat.eq_zero_or_pos l.length with h | h
      · exact List.eq_nil_of_length_eq_zero h
      · obtain ⟨b, o, e, -⟩ := hE h
        cases e
    subst h0
    refine ⟨some ⟨W.heap.size, 0, none⟩, 0, W.alloc (.cells #[] 36), ?_, fun h => absurd h (by simp), Nat.le_refl _, (Below.refl _ _).alloc (Nat.le_refl _) _⟩
    simp [appS, Builtin.append_, run_underlying Try.underlying22, sizeOf, typeInfo, hi, Builtin.lenOf, Builtin.firstCells, storeCells]
  | some ad =>
    obtain ⟨v', w', hr, h2, h3, _, h5⟩ := run_append_own_at (P := Try.prog) (W.alloc (.cells #[] 36)) W.heap.size 22 22 36 i0 (.agg #[.int .i64 0, .int .i64 0, .int .i64 0]) 3 24 Try.underlying22 hi hz0 hz1 hz2 rfl (by decide) (.slice (some ⟨W.heap.size, 0, none⟩) 0 0) 0 [] (World.ownsRow_made W #[] 0 (Nat.le_refl _) (Nat.zero_le _) rfl) ad l.length c (ecells l) (ecells_len l) (by
        intro j u hj
        have hjl : j < l.length * 3 := by
          have := (List.getElem?_eq_some_iff.1 hj).1
          rwa [ecells_len] at this
        obtain ⟨b, o, e, hc⟩ := hE (by omega)
        injection e with e
        subst e
        have hji : j / 3 < l.length := by omega
        obtain ⟨k0, k1, k2⟩ := hc (j / 3) hji
        obtain ⟨g0, g1, g2⟩ := ecells_at l (j / 3) hji
        rw [Addr.add_lit]
        refine Lib.cell?_alloc_some _ ?_
        rcases (by omega : j = j / 3 * 3 ∨ j = j / 3 * 3 + 1 ∨ j = j / 3 * 3 + 2) with h | h | h
        · rw [h] at hj ⊢; rw [g0] at hj; cases hj; exact k0
        · rw [h] at hj ⊢; rw [g1] at hj; cases hj; exact k1
        · rw [h] at hj ⊢; rw [g2] at hj; cases hj; exact k2) (ecells_one l) (by unfold maxLen; omega) (by omega) (by simp)
    rw [Nat.zero_add, List.nil_append] at h2
    obtain ⟨B, c', rfl, hE2, hc2⟩ := Edges.ofOwn h2
    exact ⟨B, c', w', hr, hE2, hc2, ((Below.refl _ _).alloc (Nat.le_refl _) _).grown h3 (by simp) (fun k hk => by simp [Value.ownBlock] at hk; omega)⟩
attribute [local go_sem ↓] app_appS
set_option maxRecDepth 1000000 in
set_option maxHeartbeats 8000000 in
theorem orders_any (A : Option Addr) (c : Nat) (l : List Edge) (w : World) (hE : Edges A l w) (hc : l.length ≤ c) :
    Calls Try.prog 3 #[.slice A l.length c] w fun e w' => e = .returned (.bool true) ∧ Below w.heap.size w w' := by
  have HE := Lib.hid hE; have HC := Lib.hid hc
  clear hE hc
  by_cases hl : 150 < l.length
  · have hl1 : (150 : Int) < l.length := by omega
    go_enter Try.func3, Try.ntmps3
    go_wp2_with fail
    go_ret
    exact ⟨rfl, Below.refl _ _⟩
  · have hl1 : (l.length : Int) ≤ 150 := by omega
    obtain ⟨B, c', w1, hr, hE1, hc1, hb1⟩ := app_copy A c l w HE.out (by omega)
    have HE1 := Lib.hid hE1; have HC1 := Lib.hid hc1; have HB1 := Lib.hid hb1; have HEA := Lib.hid (HE.out.on hb1)
    clear hE1 hc1 hb1
    go_enter Try.func3, Try.ntmps3
    go_wp2_with fail
    refine (order_any B c' l w1 HE1.out (by omega)).mono ?_
    rintro e w2 ⟨g, zs, rfl, hg, hord, hrow, hb⟩
    refine Hid.out ?_
    have hzl := hord.len
    have hzs := hord.eq
    subst hzs
    have HR2 := Lib.hid (IntsR.ofRow hrow); have HB2 := Lib.hid (HB1.out.trans (hb.mono HB1.out.size)); have HE2 := Lib.hid (HE1.out.on hb); have HEA2 := Lib.hid (HEA.out.on hb)
    have HZL := Lib.hid hzl
    clear hg hord hrow hb hzl hr
    refine Lib.hid ?_
    go_wp2_with fail
    refine (rorder_any A c l w2 HEA2.out (by omega) HC.out).mono ?_
    rintro e w3 ⟨v, rfl, hr3, hb⟩
    refine Hid.out ?_
    obtain ⟨BR, cr, rfl, hcr, -, hR3⟩ := hr3
    rw [HZL.out] at hcr ⊢
    have HB3 := Lib.hid (HB2.out.trans (hb.mono HB2.out.size)); have HE3 := Lib.hid (HE2.out.on hb); have HEA3 := Lib.hid (HEA2.out.on hb)
    have HN := Lib.hid (numbers_any (some ⟨g, 0, none⟩) BR l.length cr (ordL l) (ordL l) w3 (HR2.out.on hb) hR3 (by rw [HZL.out]; omega) (by rw [HZL.out]; omega) (by rw [HZL.out]; exact Nat.le_refl _) (by rw [HZL.out]; exact hcr))
    rw [HZL.out, decide_eq_true rfl] at HN
    clear hb hR3 hcr
    refine Lib.hid ?_
    go_wp2_with fail
    refine HN.out.mono ?_
    rintro e w4 ⟨rfl, hd⟩
    refine Hid.out ?_
    have hb := drawn_below hd
    have HB4 := Lib.hid (HB3.out.trans (hb.mono HB3.out.size))
    have HED := Lib.hid (edges_any B A c' c l w4 (HE3.out.on hb) (HEA3.out.on hb) (by omega) HC1.out HC.out)
    clear HN hd hb
    refine Lib.hid ?_
    go_wp2_with fail
    refine HED.out.mono ?_
    rintro e w5 ⟨rfl, hd⟩
    refine Hid.out ?_
    have HB5 := Lib.hid (HB4.out.trans ((drawn_below hd).mono HB4.out.size))
    clear HED hd
    refine Lib.hid ?_
    go_wp2_with fail
    refine (works_any _).mono ?_
    rintro e w6 ⟨rfl, hb⟩
    refine Hid.out ?_
    have HB6 := Lib.hid (HB5.out.trans (hb.mono HB5.out.size))
    clear hb
    refine Lib.hid ?_
    go_wp2_with fail
    go_ret
    exact ⟨rfl, HB6.out⟩
theorem small_any (n : Int) (A : Option Addr) (c : Nat) (l : List Edge) (w : World) (hE : Edges A l w) (hl : l.length ≤ 1000000) (hc : l.length ≤ c) :
    Calls Try.prog 17 #[.int .i64 n, .slice A l.length c] w fun e w' => e = .returned (.bool (decide ((n ≤ 60 ∨ 4096 < n) ∧ l.length ≤ 150))) ∧ Below w.heap.size w w' := by
  have hl2 : (l.map toS).length = l.length := List.length_map ..
  have h := PKruskalSwaps.seepagelaw13_Small.calls n A c (l.map toS) (decide ((n ≤ 60 ∨ 4096 < n) ∧ l.length ≤ 150)) w (edgesC hE hl) (by omega) (by
    rw [PKruskalSwaps.seepagelaw13_Small.f, hl2]
    by_cases h1 : n ≤ 60
    · rw [if_pos h1]
      congr 1
      exact decide_eq_decide.2 (by omega)
    · rw [if_neg h1]
      by_cases h2 : n > 4096
      · rw [if_pos h2]
        congr 1
        exact decide_eq_decide.2 (by omega)
      · rw [if_neg h2]
        congr 1
        exact (decide_eq_false (by omega)).symm)
  rw [hl2] at h
  refine h.mono ?_
  rintro e w' ⟨rfl, hd⟩
  exact ⟨rfl, hd.below⟩
/-- What is too large for a law. -/
theorem smallN (n : Int) (A : Option Addr) (c : Nat) (m : Nat) (w : World) (hm : 150 < m) :
    Calls Try.prog 17 #[.int .i64 n, .slice A m c] w fun e w' => e = .returned (.bool false) ∧ Below w.heap.size w w' := by
  have hm1 : (150 : Int) < m := by omega
  by_cases h1 : n ≤ 60
  · go_enter Try.func17, Try.ntmps17
    go_wp2_with fail
    go_ret
    exact ⟨congrArg (fun b => Ending.returned (.bool b)) (decide_eq_false (by omega : ¬ (m : Int) ≤ 150)), Below.refl _ _⟩
  · by_cases h2 : 4096 < n
    · go_enter Try.func17, Try.ntmps17
      go_wp2_with fail
      go_ret
      exact ⟨congrArg (fun b => Ending.returned (.bool b)) (decide_eq_false (by omega : ¬ (m : Int) ≤ 150)), Below.refl _ _⟩
    · go_enter Try.func17, Try.ntmps17
      go_wp2_with fail
      go_ret
      exact ⟨rfl, Below.refl _ _⟩
theorem small_no (n : Int) (A : Option Addr) (c : Nat) (l : List Edge) (w : World) (hE : Edges A l w) (hc : l.length ≤ c) (h : ¬ ((n ≤ 60 ∨ 4096 < n) ∧ l.length ≤ 150)) :
    Calls Try.prog 17 #[.int .i64 n, .slice A l.length c] w fun e w' => e = .returned (.bool false) ∧ Below w.heap.size w w' := by
  by_cases hl : l.length ≤ 150
  · have := small_any n A c l w hE (by omega) hc
    rwa [decide_eq_false h] at this
  · exact smallN n A c l.length w (by omega)
theorem small_yes (n : Int) (A : Option Addr) (c : Nat) (l : List Edge) (w : World) (hE : Edges A l w) (hc : l.length ≤ c) (h : (n ≤ 60 ∨ 4096 < n) ∧ l.length ≤ 150) :
    Calls Try.prog 17 #[.int .i64 n, .slice A l.length c] w fun e w' => e = .returned (.bool true) ∧ Below w.heap.size w w' := by
  have := small_any n A c l w hE (by omega) hc
  rwa [decide_eq_true h] at this
end Go.Proofs.Ytobaodkcjjgkdaa
namespace Go.Proofs.Ytobaodkcjjgkdaa
open Go Go.RowKit Go.Proofs.YtobaodkcjjgkdaaW.PrintWords

attribute [local go_sem ↓] app_appS
set_option maxRecDepth 1000000 in
set_option maxHeartbeats 8000000 in
theorem grows_any (n : Int) (A : Option Addr) (c : Nat) (l : List Edge) (w : World) (hE : Edges A l w) (hc : l.length ≤ c) (hw : WOk l) :
    Calls Try.prog 4 #[.int .i64 n, .slice A l.length c] w fun e w' => e = .returned (.bool true) ∧ Below w.heap.size w w' := by
  have HE := Lib.hid hE; have HC := Lib.hid hc; have HW := Lib.hid hw
  clear hE hc hw
  by_cases hs : (n ≤ 60 ∨ 4096 < n) ∧ l.length ≤ 150
  · have HS := Lib.hid (small_yes n A c l w HE.out HC.out hs)
    have hl : l.length ≤ 150 := hs.2
    have hl1 : (l.length : Int) ≤ 150 := by omega
    clear hs
    go_enter Try.func4, Try.ntmps4
    go_wp2_with fail
    refine HS.out.mono ?_
    rintro e w0 ⟨rfl, hb0⟩
    refine Hid.out ?_
    obtain ⟨B, c', w1, hr, hE1, hc1, hb1⟩ := app_copy A c l w0 (HE.out.on hb0) (by omega)
    have HE1 := Lib.hid hE1; have HC1 := Lib.hid hc1; have HB1 := Lib.hid (hb0.trans (hb1.mono hb0.size)); have HA1 := Lib.hid ((HE.out.on hb0).on hb1)
    clear hE1 hc1 hb1 hb0 HS
    refine Lib.hid ?_
    go_wp2_with fail
    refine (forest_any n B c' l w1 HE1.out (by omega)).mono ?_
    rintro e w2 ⟨vo, rfl, ho, hb⟩
    refine Hid.out ?_
    obtain ⟨BF, cf, rfl, hO, hcf⟩ := IntsR.ofOwn ho
    have HO2 := Lib.hid hO; have HCF := Lib.hid hcf; have HE2 := Lib.hid (HE1.out.on hb); have HA2 := Lib.hid (HA1.out.on hb)
    have HB2 := Lib.hid (HB1.out.trans (hb.mono HB1.out.size))
    clear hb ho hO hcf hr
    refine Lib.hid ?_
    go_wp2_with fail
    refine (rforest_any n A c l w2 HA2.out (by omega) HC.out).mono ?_
    rintro e w3 ⟨v, rfl, hr3, hb⟩
    refine Hid.out ?_
    obtain ⟨BR, cr, rfl, hcr, -, hR3⟩ := hr3
    have HO3 := Lib.hid (HO2.out.on hb); have HR3 := Lib.hid hR3; have HCR := Lib.hid hcr; have HE3 := Lib.hid (HE2.out.on hb); have HA3 := Lib.hid (HA2.out.on hb)
    have HB3 := Lib.hid (HB2.out.trans (hb.mono HB2.out.size))
    clear hb hcr hR3
    refine Lib.hid ?_
    go_wp2_with fail
    refine (weight_any n B c' l w3 HE3.out (by omega) HW.out).mono ?_
    rintro e w4 ⟨rfl, hb⟩
    refine Hid.out ?_
    have HO4 := Lib.hid (HO3.out.on hb); have HR4 := Lib.hid (HR3.out.on hb); have HE4 := Lib.hid (HE3.out.on hb); have HA4 := Lib.hid (HA3.out.on hb)
    have HB4 := Lib.hid (HB3.out.trans (hb.mono HB3.out.size))
    clear hb
    refine Lib.hid ?_
    go_wp2_with fail
    refine (rweight_any n A c l w4 HA4.out (by omega) HC.out HW.out).mono ?_
    rintro e w5 ⟨rfl, hb⟩
    refine Hid.out ?_
    have HE5 := Lib.hid (HE4.out.on hb); have HA5 := Lib.hid (HA4.out.on hb)
    have HB5 := Lib.hid (HB4.out.trans (hb.mono HB4.out.size))
    have hfl := forF_len n l
    have HN := Lib.hid (numbers_any BF BR cf cr (forF n l) (forF n l) w5 (HO4.out.on hb) (HR4.out.on hb) (by omega) (by omega) HCF.out HCR.out)
    rw [decide_eq_true rfl] at HN
    have HQ := Lib.hid (show (newE n l == newE n l) = true ∧ (weiV n l == weiV n l) = true ∧ (weiE n l == weiE n l) = true from ⟨beq_self_eq_true _, beq_self_eq_true _, beq_self_eq_true _⟩)
    clear hb hfl
    refine Lib.hid ?_
    go_wp2_with fail
    refine HN.out.mono ?_
    rintro e w6 ⟨rfl, hd⟩
    refine Hid.out ?_
    have hb := drawn_below hd
    have HB6 := Lib.hid (HB5.out.trans (hb.mono HB5.out.size))
    have HED := Lib.hid (edges_any B A c' c l w6 (HE5.out.on hb) (HA5.out.on hb) (by omega) HC1.out HC.out)
    obtain ⟨q1, q2, q3⟩ := HQ.out
    clear HN hd hb
    refine Lib.hid ?_
    go_wp2_with fail
    refine HED.out.mono ?_
    rintro e w7 ⟨rfl, hd⟩
    refine Hid.out ?_
    have HB7 := Lib.hid (HB6.out.trans ((drawn_below hd).mono HB6.out.size))
    clear HED hd
    refine Lib.hid ?_
    go_wp2_with fail
    refine (works_any _).mono ?_
    rintro e w8 ⟨rfl, hb⟩
    refine Hid.out ?_
    have HB8 := Lib.hid (HB7.out.trans (hb.mono HB7.out.size))
    clear hb
    refine Lib.hid ?_
    go_wp2_with fail
    go_ret
    exact ⟨rfl, HB8.out⟩
  · have HS := Lib.hid (small_no n A c l w HE.out HC.out hs)
    clear hs
    go_enter Try.func4, Try.ntmps4
    go_wp2_with fail
    refine HS.out.mono ?_
    rintro e w0 ⟨rfl, hb0⟩
    refine Hid.out ?_
    have HB := Lib.hid hb0
    clear hb0 HS
    refine Lib.hid ?_
    go_wp2_with fail
    refine (works_any _).mono ?_
    rintro e w1 ⟨rfl, hb⟩
    refine Hid.out ?_
    have HB1 := Lib.hid (HB.out.trans (hb.mono HB.out.size))
    clear hb
    refine Lib.hid ?_
    go_wp2_with fail
    go_ret
    exact ⟨rfl, HB1.out⟩

set_option maxRecDepth 1000000 in
set_option maxHeartbeats 8000000 in
theorem swaps_any (n : Int) (A : Option Addr) (c : Nat) (l : List Edge) (x : Edge) (w : World) (hE : Edges A l w) (hc : l.length ≤ c) :
    Calls Try.prog 5 #[.int .i64 n, .slice A l.length c, .agg #[.int .i64 x.U, .int .i64 x.V, .int .i64 x.W]] w fun e w' => e = .returned (.bool true) ∧ Below w.heap.size w w' := by
  have hb0 : Below w.heap.size w (w.alloc (.cells #[.int .i64 x.U, .int .i64 x.V, .int .i64 x.W] 36)) := (Below.refl _ _).alloc (Nat.le_refl _) _
  have hbx : (w.alloc (.cells #[.int .i64 x.U, .int .i64 x.V, .int .i64 x.W] 36)).heap[w.heap.size]? = some (.cells #[.int .i64 x.U, .int .i64 x.V, .int .i64 x.W] 36 (0, 0)) := block_new _ _ _ rfl
  have HE := Lib.hid (hE.on hb0); have HC := Lib.hid hc; have HB := Lib.hid hb0; have HX := Lib.hid hbx
  clear hE hc hb0 hbx
  by_cases hs : (n ≤ 60 ∨ 4096 < n) ∧ l.length ≤ 150
  · have HS := Lib.hid (small_yes n A c l _ HE.out HC.out hs)
    have hl : l.length ≤ 150 := hs.2
    have hl1 : (l.length : Int) ≤ 150 := by omega
    clear hs
    go_enter Try.func5, Try.ntmps5
    go_wp2_with fail
    refine HS.out.mono ?_
    rintro e w0 ⟨rfl, hb0⟩
    refine Hid.out ?_
    obtain ⟨B, c', w1, hr, hE1, hc1, hb1⟩ := app_copy A c l w0 (HE.out.on hb0) (by omega)
    have hbb := hb0.trans (hb1.mono hb0.size)
    have hx1 := (hbb.block _ (by simp)).trans HX.out
    have x0 : w1.cell? ⟨w.heap.size, 0, none⟩ = some (.int .i64 x.U) := cells_of_block hx1 0
    have x1 : w1.cell? ⟨w.heap.size, 1, none⟩ = some (.int .i64 x.V) := cells_of_block hx1 1
    have x2 : w1.cell? ⟨w.heap.size, 2, none⟩ = some (.int .i64 x.W) := cells_of_block hx1 2
    have HX1 := Lib.hid hx1
    have HE1 := Lib.hid hE1; have HC1 := Lib.hid hc1; have HB1 := Lib.hid (HB.out.trans (hbb.mono HB.out.size)); have HA1 := Lib.hid ((HE.out.on hb0).on hb1)
    clear hE1 hc1 hb1 hb0 HS hbb hx1
    refine Lib.hid ?_
    go_wp2_with fail
    refine (swap_any n B c' l x w1 HE1.out (by omega)).mono ?_
    rintro e w2 ⟨rfl, hb⟩
    refine Hid.out ?_
    have hx1 := (hb.block _ (block_lt HX1.out)).trans HX1.out
    have y0 : w2.cell? ⟨w.heap.size, 0, none⟩ = some (.int .i64 x.U) := cells_of_block hx1 0
    have y1 : w2.cell? ⟨w.heap.size, 1, none⟩ = some (.int .i64 x.V) := cells_of_block hx1 1
    have y2 : w2.cell? ⟨w.heap.size, 2, none⟩ = some (.int .i64 x.W) := cells_of_block hx1 2
    have HE2 := Lib.hid (HE1.out.on hb); have HA2 := Lib.hid (HA1.out.on hb)
    have HB2 := Lib.hid (HB1.out.trans (hb.mono HB1.out.size))
    clear hb hr x0 x1 x2 hx1
    refine Lib.hid ?_
    go_wp2_with fail
    refine (rswap_any n A c l x w2 HA2.out (by omega) HC.out).mono ?_
    rintro e w3 ⟨rfl, hb⟩
    refine Hid.out ?_
    have HE3 := Lib.hid (HE2.out.on hb); have HA3 := Lib.hid (HA2.out.on hb)
    have HB3 := Lib.hid (HB2.out.trans (hb.mono HB2.out.size))
    have HED := Lib.hid (edges_any B A c' c l w3 HE3.out HA3.out (by omega) HC1.out HC.out)
    have q1 : (swV n l x == swV n l x) = true := beq_self_eq_true _
    have q2 : (swE n l x == swE n l x) = true := beq_self_eq_true _
    clear hb y0 y1 y2
    refine Lib.hid ?_
    go_wp2_with fail
    refine HED.out.mono ?_
    rintro e w7 ⟨rfl, hd⟩
    refine Hid.out ?_
    have HB7 := Lib.hid (HB3.out.trans ((drawn_below hd).mono HB3.out.size))
    clear HED hd
    refine Lib.hid ?_
    go_wp2_with fail
    refine (works_any _).mono ?_
    rintro e w8 ⟨rfl, hb⟩
    refine Hid.out ?_
    have HB8 := Lib.hid (HB7.out.trans (hb.mono HB7.out.size))
    clear hb
    refine Lib.hid ?_
    go_wp2_with fail
    go_ret
    exact ⟨rfl, HB8.out⟩
  · have HS := Lib.hid (small_no n A c l _ HE.out HC.out hs)
    clear hs
    go_enter Try.func5, Try.ntmps5
    go_wp2_with fail
    refine HS.out.mono ?_
    rintro e w0 ⟨rfl, hb0⟩
    refine Hid.out ?_
    have HB0 := Lib.hid (HB.out.trans (hb0.mono HB.out.size))
    clear hb0 HS
    refine Lib.hid ?_
    go_wp2_with fail
    refine (works_any _).mono ?_
    rintro e w1 ⟨rfl, hb⟩
    refine Hid.out ?_
    have HB1 := Lib.hid (HB0.out.trans (hb.mono HB0.out.size))
    clear hb
    refine Lib.hid ?_
    go_wp2_with fail
    go_ret
    exact ⟨rfl, HB1.out⟩
end Go.Proofs.Ytobaodkcjjgkdaa
namespace Go.Proofs.Ytobaodkcjjgkdaa
open Go Go.RowKit Go.ChangeShapes Go.WideShapes Go.ChangeAt

theorem own : ownKnob Try.prog.godebug = none := by kernel_rfl
theorem laidOut : laidOutB Try.prog = true := by kernel_rfl
theorem list_of {α : Type} (d : α) (p : Nat → α → Prop) : ∀ n, (∀ i, i < n → ∃ x, p i x) → ∃ l : List α, l.length = n ∧ ∀ i, i < n → p i (l.getD i d)
  | 0, _ => ⟨[], rfl, fun i h => by omega⟩
  | n + 1, h => by
    obtain ⟨l, hl, hp⟩ := list_of d p n fun i hi => h i (by omega)
    obtain ⟨x, hx⟩ := h n (by omega)
    refine ⟨l ++ [x], by rw [List.length_append, hl]; rfl, fun i hi => ?_⟩
    rw [List.getD_eq_getElem?_getD]
    by_cases e : i = n
    · subst e
      rw [List.getElem?_append_right (by omega), hl]
      simpa using hx
    · rw [List.getElem?_append_left (by omega), ← List.getD_eq_getElem?_getD]
      exact hp i (by omega)
def I64 (z : Int) : Prop := -9223372036854775808 ≤ z ∧ z < 9223372036854775808
theorem i64_wf {z : Int} (h : (Lit.int .i64 z).wf = true) : I64 z := by
  have : -9223372036854775808 ≤ z ∧ z ≤ 9223372036854775807 := by simpa [Lit.wf, IntKind.min, IntKind.max, IntKind.signed, IntKind.bits] using h
  exact ⟨this.1, by omega⟩
set_option maxRecDepth 100000 in
theorem open_edges {H : Type} {enc : TypeId × Value → H} {W : World} {base : Nat} {v : Value} {d : DataW H} {p : List MemPlace} (hv : Value.okWide Try.prog W .any base 22 v) (h : DataW.Trod enc Try.prog W 0 (fun _ => true) true 22 v d p) :
    ∃ A l c, v = .slice A l.length c ∧ l.length ≤ c ∧ Edges A l W ∧ ∀ e ∈ l, I64 e.U ∧ I64 e.V ∧ I64 e.W := by
  obtain ⟨A, n, c, rfl⟩ := okWide_slice Try.underlying22 hv
  obtain ⟨fuel, hf⟩ := h
  rcases Go.Deep.open_slice Try.underlying22 hf with ⟨hcs, -⟩ | ⟨a, len, cap, m, k, D, Pl, hcs, -, hle, -, hm, -, hx⟩
  · have e : A = none ∧ n = 0 ∧ c = 0 := by simpa [Value.cells] using hcs
    obtain ⟨rfl, rfl, rfl⟩ := e
    exact ⟨none, [], 0, rfl, Nat.le_refl _, fun h => absurd h (by simp), fun e he => absurd he (by simp)⟩
  · have e : A = some a ∧ n = len ∧ c = cap := by simpa [Value.cells] using hcs
    obtain ⟨rfl, rfl, rfl⟩ := e
    have hmc : m = c := by simpa using hm
    have hsz : Try.prog.cellsOf 36 = 3 := by kernel_rfl
    have each : ∀ i, i < n → ∃ x : Edge, (W.cell? (a.add (i * 3)) = some (.int .i64 x.U) ∧ W.cell? (a.add (i * 3 + 1)) = some (.int .i64 x.V) ∧ W.cell? (a.add (i * 3 + 2)) = some (.int .i64 x.W)) ∧ I64 x.U ∧ I64 x.V ∧ I64 x.W := fun i hi => by
      obtain ⟨cs', h1, h2⟩ := hx i (by omega)
      rw [hsz] at h1
      obtain ⟨_, hlen, hcell⟩ := World.cells?_some h1
      obtain ⟨xs, q, -, -, -, hxl, hq⟩ := DataW.trod_struct Try.underlying36 h2
      match cs', hlen, xs, hxl with
      | [v0, v1, v2], _, [y0, y1, y2], _ =>
        have g0 := hq 0 _ rfl
        have g1 := hq 1 _ rfl
        have g2 := hq 2 _ rfl
        have s1 : Try.prog.cellsOf 3 = 1 := by kernel_rfl
        have s2 : Try.prog.cellsOf 2 = 1 := by kernel_rfl
        simp [s1, s2] at g0 g1 g2
        obtain ⟨z0, e0, -, w0⟩ := DataW.trod_int Try.underlying3 g0
        obtain ⟨z1, e1, -, w1⟩ := DataW.trod_int Try.underlying3 g1
        obtain ⟨z2, e2, -, w2⟩ := DataW.trod_int Try.underlying2 g2
        have c0 := hcell 0 (by omega)
        have c1 := hcell 1 (by omega)
        have c2 := hcell 2 (by omega)
        rw [Go.Deep.add_add] at c0 c1 c2
        injection e0 with e0
        injection e1 with e1
        injection e2 with e2
        subst e0 e1 e2
        exact ⟨⟨z0, z1, z2⟩, ⟨c0, c1, c2⟩, i64_wf w0, i64_wf w1, i64_wf w2⟩
    obtain ⟨l, hl, hp⟩ := list_of edge0 _ n each
    refine ⟨some a, l, c, by rw [hl], by omega, fun hn => ?_, fun e he => ?_⟩
    · have hs := World.cell?_spot (hp 0 (by omega)).1.1
      obtain ⟨b, o, s⟩ := a
      have hs : s = none := by simpa [Addr.add] using hs
      subst hs
      refine ⟨b, o, rfl, fun j hj => ?_⟩
      obtain ⟨⟨c0, c1, c2⟩, -⟩ := hp j (by omega)
      rw [add_off] at c0 c1 c2
      exact ⟨c0, c1, c2⟩
    · obtain ⟨i, hi, rfl⟩ := List.getElem_of_mem he
      have := (hp i (by omega)).2
      rwa [show l.getD i edge0 = l[i] by simp [List.getD_eq_getElem?_getD, hi]] at this

set_option maxRecDepth 100000 in
theorem open_edge {H : Type} {enc : TypeId × Value → H} {W : World} {base : Nat} {v : Value} {d : DataW H} {p : List MemPlace} (hv : Value.okWide Try.prog W .any base 36 v) (h : DataW.Trod enc Try.prog W 0 (fun _ => true) true 36 v d p) :
    ∃ a b c, v = .agg #[.int .i64 a, .int .i64 b, .int .i64 c] ∧ I64 a ∧ I64 b ∧ I64 c := by
  obtain ⟨v0, v1, v2, y0, y1, y2, n, rfl, -, -, g0, g1, g2⟩ := Go.Joins.open_agg3 Try.underlying36 (by kernel_rfl) (by kernel_rfl) hv h
  obtain ⟨z0, e0, -, w0⟩ := DataW.trod_int Try.underlying3 g0
  obtain ⟨z1, e1, -, w1⟩ := DataW.trod_int Try.underlying3 g1
  obtain ⟨z2, e2, -, w2⟩ := DataW.trod_int Try.underlying2 g2
  injection e0 with e0
  injection e1 with e1
  injection e2 with e2
  subst e0 e1 e2
  exact ⟨_, _, _, rfl, i64_wf w0, i64_wf w1, i64_wf w2⟩
/-- Edges of 64 bits. -/
def E64 (l : List Edge) : Prop := ∀ e ∈ l, I64 e.U ∧ I64 e.V ∧ I64 e.W
theorem E64.w {l : List Edge} (h : E64 l) : WOk l := fun e he => (h e he).2.2
theorem orders_row (A : Option Addr) (c : Nat) (l : List Edge) (w : World) (hE : Edges A l w) (hc : l.length ≤ c) (_ : E64 l) :
    Calls Try.prog 3 #[.slice A l.length c] w fun e w' => e = .returned (.bool true) ∧ Below w.heap.size w w' := orders_any A c l w hE hc
theorem grows_row (n : Int) (A : Option Addr) (c : Nat) (l : List Edge) (w : World) (_ : I64 n) (hE : Edges A l w) (hc : l.length ≤ c) (h : E64 l) :
    Calls Try.prog 4 #[.int .i64 n, .slice A l.length c] w fun e w' => e = .returned (.bool true) ∧ Below w.heap.size w w' := grows_any n A c l w hE hc h.w
theorem swaps_row (n : Int) (A : Option Addr) (c : Nat) (l : List Edge) (x : Edge) (w : World) (_ : I64 n) (hE : Edges A l w) (hc : l.length ≤ c) (_ : E64 l) (_ : I64 x.U ∧ I64 x.V ∧ I64 x.W) :
    Calls Try.prog 5 #[.int .i64 n, .slice A l.length c, .agg #[.int .i64 x.U, .int .i64 x.V, .int .i64 x.W]] w fun e w' => e = .returned (.bool true) ∧ Below w.heap.size w w' := swaps_any n A c l x w hE hc
/-- What a law that answers true, and turns nothing that was there, owes its row. -/
theorem trodAll_below {H : Type} {enc : TypeId × Value → H} {P : Program} (hl : laidOutB P = true) {W W' : World} (hb : Below W.heap.size W W') :
    ∀ {ts : List TypeId} {vs : List Value} {ds : List (DataW H)} {ps : List MemPlace}, (ts.all fun t => P.readableRec t && decide (t < P.types.size)) = true → (∀ x ∈ ps, x.block < W.heap.size) →
      DataW.TrodAll enc P W 0 (fun _ => true) true ts vs ds ps → DataW.TrodAll enc P W' 0 (fun b => decide (b < W.heap.size)) true ts vs ds ps
  | [], vs, ds, ps, _, _, h => by cases vs <;> cases ds <;> simp [DataW.TrodAll] at h ⊢; exact h
  | t :: ts, vs, ds, ps, hr, hlt, h => by
    obtain ⟨v, vs', d, ds', p, q, rfl, rfl, rfl, h0, h1⟩ := trodAll_cons h
    simp only [List.all_cons, Bool.and_eq_true, decide_eq_true_eq] at hr
    exact trodAll_cons_mk (Below.trod hl hr.1.1 hr.1.2 h0 hb fun x hx => hlt x (List.mem_append.2 (.inl hx))) (trodAll_below hl hb hr.2 (fun x hx => hlt x (List.mem_append.2 (.inr hx))) h1)
theorem answered {H : Type} {enc : TypeId × Value → H} {P : Program} {f : Func} {s : ChangeSpec} {W W' : World} {args : Array Value} {ds gs : List (DataW H)} {before : List MemPlace}
    (hl : laidOutB P = true) (hr : (f.params.toList.all fun t => P.readableRec t && decide (t < P.types.size)) = true) (hv : s.vars = []) (hres : f.resultTypes = #[4]) (h4 : P.underlying 4 = some .bool)
    (hW : DataW.Whole enc P f.params.toList s.vars false W args.toList ds gs before)
    (hfn : s.fn H (ds ++ gs) = { results := [.lit (.bool true)], args := ds, vars := [] }) (hb : Below W.heap.size W W') :
    s.post enc P f false true false false W args (.bool true) W' := by
  have hW' := hW
  have hlt := hW.lt
  obtain ⟨p, q, hA, hV, rfl, -, -⟩ := hW
  rw [hv] at hV
  obtain ⟨rfl, rfl⟩ := trodVars_none hV
  refine ⟨ds, [], p ++ [], [], p, [], hW', ?_, ?_, ?_, hb.frame _, fun h => by cases h⟩
  · rw [hfn, hres]; exact trodAll_mk1 (shut_bool h4 true)
  · rw [hfn]; exact trodAll_below hl hb hr (fun x hx => hlt x (by simpa using hx)) hA
  · rw [hfn, hv]; rfl
end Go.Proofs.Ytobaodkcjjgkdaa
namespace Go.Proofs.Ytobaodkcjjgkdaa
open Go Go.RowKit

set_option maxRecDepth 1000000 in
set_option maxHeartbeats 2000000 in
theorem clone_own (A : Option Addr) (c : Nat) (l : List Edge) (w : World) (hE : Edges A l w) (hl : l.length ≤ 1000000) :
    Calls Try.prog 48 #[.slice A l.length c] w fun e w' => ∃ v, e = .returned v ∧ w'.ownsRow w.heap.size 36 3 v l.length (ecells l) ∧ Below w.heap.size w w' := by
  obtain ⟨i0, hi, hz0, hz1, hz2⟩ := info_parts info_edge
  have q22 : ∀ (w : World) (a : Option Addr) (n c n' c' : Nat), (binOp .eql 22 (.slice a n c) (.slice none n' c')).run Try.prog w = .ok (.bool a.isNone) w := fun w a n c n' c' => Lib.run_eql_slice_nil w _ _ a n c n' c' Try.underlying22
  have HE := Lib.hid hE
  clear hE
  cases A with
  | none =>
    have h0 : l = [] := by
      rcases Nat.eq_zero_or_pos l.length with h | h
      · exact List.eq_nil_of_length_eq_zero h
      · obtain ⟨b, o, e, -⟩ := HE.out h
        cases e
    subst h0
    go_enter Try.func48, Try.ntmps48
    go_wp2
    go_ret
    exact ⟨_, rfl, ⟨rfl, .inl ⟨rfl, rfl⟩⟩, Below.refl _ _⟩
  | some ad =>
    go_enter Try.func48, Try.ntmps48
    go_wp2_with (at_builtin; refine wpList_append_own _ rfl _ _ 22 rfl w.heap.size 36 i0 (.agg #[.int .i64 0, .int .i64 0, .int .i64 0]) 3 24 Try.underlying22 hi hz0 hz1 hz2 rfl (by decide) _ _ _ rfl (World.ownsRow_made w #[] 0 (Nat.le_refl _) (Nat.zero_le _) rfl) ad l.length c (ecells l) rfl ?qc1 ?qc2 ?qc3 ?qc4 ?qc5 ?qc6 ?_)
    case qc1 => exact ecells_len l
    case qc2 =>
      intro j u hj
      have hjl : j < l.length * 3 := by
        have := (List.getElem?_eq_some_iff.1 hj).1
        rwa [ecells_len] at this
      obtain ⟨b, o, e, hc⟩ := HE.out (by omega)
      injection e with e
      subst e
      have hji : j / 3 < l.length := by omega
      obtain ⟨k0, k1, k2⟩ := hc (j / 3) hji
      obtain ⟨g0, g1, g2⟩ := ecells_at l (j / 3) hji
      rw [Addr.add_lit]
      refine Lib.cell?_alloc_some _ ?_
      rcases (by omega : j = j / 3 * 3 ∨ j = j / 3 * 3 + 1 ∨ j = j / 3 * 3 + 2) with h | h | h
      · rw [h] at hj ⊢; rw [g0] at hj; cases hj; exact k0
      · rw [h] at hj ⊢; rw [g1] at hj; cases hj; exact k1
      · rw [h] at hj ⊢; rw [g2] at hj; cases hj; exact k2
    case qc3 => exact ecells_one l
    case qc4 => unfold maxLen; omega
    case qc5 => omega
    case qc6 => simp
    intro v' w1 hown hgrow hnil
    have HB : Hid (Below w.heap.size w w1) := Lib.hid (((Below.refl _ w).alloc (Nat.le_refl _) _).grown hgrow (by simp) (by intro k hk; simp [Value.ownBlock] at hk; omega))
    have HO := Lib.hid hown
    clear hown hgrow hnil
    go_wp2
    go_ret
    exact ⟨_, rfl, HO.out, HB.out⟩

abbrev ovF (pt : Nat) : Value := .func (.func 51) #[] #[.pointer (some ⟨pt, 0, none⟩)]
set_option maxRecDepth 100000 in
theorem under1_any (th : Int) (pt : Nat) (x : Edge) (w : World) (hc : w.cell? ⟨pt, 0, none⟩ = some (.int .i64 th)) :
    Calls Try.prog 51 #[.agg #[.int .i64 x.U, .int .i64 x.V, .int .i64 x.W], .pointer (some ⟨pt, 0, none⟩)] w fun e w' => e = .returned (.bool (decide (th < x.W))) ∧ Below w.heap.size w w' := by
  have q : pt < w.heap.size := World.block_lt_of_cell? w _ hc
  go_enter Try.func51, Try.ntmps51
  go_wp2
  go_ret
  exact ⟨rfl, (Below.refl _ _).alloc (Nat.le_refl _) _⟩
/-- The first edge that is heavier. -/
def IdxR (th : Int) (l : List Edge) (r : Int) : Prop := (r = -1 ∧ ∀ j, j < l.length → (l.getD j edge0).W ≤ th) ∨ ∃ i : Nat, r = i ∧ i < l.length ∧ th < (l.getD i edge0).W ∧ ∀ j, j < i → (l.getD j edge0).W ≤ th

set_option maxRecDepth 1000000 in
set_option maxHeartbeats 4000000 in
theorem index_any (th : Int) (pt : Nat) (B : Option Addr) (c : Nat) (l : List Edge) (w : World) (hE : Edges B l w) (hl : l.length ≤ 1000000) (hc : w.cell? ⟨pt, 0, none⟩ = some (.int .i64 th)) :
    Calls Try.prog 72 #[.slice B l.length c, ovF pt] w fun e w' => (∃ r, e = .returned (.int .i64 r) ∧ IdxR th l r) ∧ Below w.heap.size w w' := by
  have HE := Lib.hid hE; have HC := Lib.hid hc
  have l1 : (l.length : Int) ≤ 1000000 := by omega
  clear hE hc
  go_enter Try.func72, Try.ntmps72
  go_wp2_with fail
  go_loopw [8] (fun x wr => ∃ k : Nat, k ≤ l.length ∧ x = .int .i64 k ∧ Hid (∀ j, j < k → (l.getD j edge0).W ≤ th) ∧ Below w.heap.size w wr) (fun x _ => l.length - (intOf x).toNat)
  case atStart => exact ⟨0, by omega, rfl, Lib.hid (fun j hj => by omega), Below.refl _ _⟩
  case round =>
    obtain ⟨k, hk, rfl, hI, hb⟩ := hrel
    by_cases hlt : k < l.length
    · have hlt1 : (k : Int) < l.length := by omega
      obtain ⟨b, o, rfl, hcE⟩ := HE.out (by omega)
      have hbl := World.block_lt_of_cell? w _ (hcE k hlt).1
      obtain ⟨ku, kv, kw⟩ := hcE k hlt
      have ku := (hb.cell (p := ⟨b, o + k * 3, none⟩) hbl).trans ku
      have kv := (hb.cell (p := ⟨b, o + k * 3 + 1, none⟩) hbl).trans kv
      have kw := (hb.cell (p := ⟨b, o + k * 3 + 2, none⟩) hbl).trans kw
      have HX := Lib.hid (show ∃ X, l.getD k edge0 = X from ⟨_, rfl⟩)
      obtain ⟨X, hX⟩ := HX.out
      have HXE := Lib.hid hX
      rw [hX] at ku kv kw
      have HU := Lib.hid (under1_any th pt X wr ((hb.cell (p := ⟨pt, 0, none⟩) (World.block_lt_of_cell? w _ HC.out)).trans HC.out))
      have HB := Lib.hid hb
      clear hcE hbl hX HX hb
      go_wp2_with fail
      refine HU.out.mono ?_
      rintro e w1 ⟨rfl, hb1⟩
      refine Hid.out ?_
      have HB1 := Lib.hid (HB.out.trans (hb1.mono HB.out.size))
      clear hb1 ku kv kw HU
      refine Lib.hid ?_
      by_cases hw : th < X.W
      · have hR : IdxR th l k := .inr ⟨k, rfl, hlt, by rw [HXE.out]; exact hw, hI.out⟩
        have HR := Lib.hid hR
        clear hR
        go_wp2_with fail
        go_ret
        exact ⟨⟨_, rfl, HR.out⟩, HB1.out⟩
      · have hd : decide (th < X.W) = false := decide_eq_false hw
        have HI : Hid (∀ j, j < k + 1 → (l.getD j edge0).W ≤ th) := Lib.hid fun j hj => by
          by_cases e : j = k
          · rw [e, HXE.out]; omega
          · exact hI.out j (by omega)
        clear hw
        go_wp2_with fail
        go_roundw
        case rel => exact ⟨k + 1, by omega, by go_num, HI, HB1.out⟩
        case measure => simp [intOf]; omega
    · have hkk : k = l.length := by omega
      subst hkk
      have HR : Hid (IdxR th l (-1)) := Lib.hid (.inl ⟨rfl, hI.out⟩)
      have HB := Lib.hid hb
      clear hI hb
      go_wp2_with fail
      go_ret
      exact ⟨⟨_, rfl, HR.out⟩, HB.out⟩
end Go.Proofs.Ytobaodkcjjgkdaa
