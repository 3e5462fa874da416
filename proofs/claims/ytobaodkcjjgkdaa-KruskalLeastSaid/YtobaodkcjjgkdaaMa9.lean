/- The reference's New, walked. Rows of edges and of numbers, in the print tool's words. The reference's Order: what it computes, in plain Lean. The reference's joined and grown: what they compute, in plain Lean. The reference's Forest, walked. Wide integers: Int, walked. -/
import Derived.Test.YtobaodkcjjgkdaaMa8
import Derived.Deep.QuietTactic
import Derived.BigQuiet
import Derived.Test.YtobaodkcjjgkdaaPKruskalSwapsx2
import Derived.Test.YtobaodkcjjgkdaaPKruskalSwapsx3
import Derived.Test.YtobaodkcjjgkdaaPKruskalSwapsx4
namespace Go.Proofs.Ytobaodkcjjgkdaa
open Go Go.RowKit

theorem below_drewN {B : Nat} {a b : World} (h : Below B a b) (n : Nat) : Below B a (b.drewN n) := ⟨h.os, h.tape, h.output, h.size, h.block⟩
/-- A graph of the reference in memory. -/
def GrfR (n : Nat) (l : List Edge) (gp : Nat) (w : World) : Prop := ∃ B c, w.heap[gp]? = some (.cells #[.bool true, .int .i64 n, .slice B l.length c] 104 (0, 0)) ∧ Edges B l w
def RNewP (n : Int) (l : List Edge) (w : World) (pv : Value) (w' : World) : Prop := (newE n l ≠ 0 ∧ pv = .pointer none) ∨ (newE n l = 0 ∧ ∃ (k : Nat) (gp : Nat), n = k ∧ pv = .pointer (some ⟨gp, 0, none⟩) ∧ w.heap.size ≤ gp ∧ GrfR k l gp w')

set_option maxRecDepth 1000000 in
set_option maxHeartbeats 8000000 in
theorem rnew_any (n : Int) (A : Option Addr) (c : Nat) (l : List Edge) (w : World) (hE : Edges A l w) (hl : l.length ≤ 1000000) :
    Calls Try.prog 40 #[.int .i64 n, .slice A l.length c] w fun e w' => ∃ pv, e = .returned (.tuple #[pv, .int .i64 (newE n l)]) ∧ RNewP n l w pv w' ∧ Below w.heap.size w w' := by
  obtain ⟨i0, hi, hz0, hz1, hz2⟩ := info_parts info_edge
  have HE := Lib.hid hE
  clear hE
  by_cases hbad : n < 0 ∨ 4096 < n ∨ 16384 < l.length
  · have hne : newE n l = 2 := if_pos hbad
    have HP : Hid (∀ W, RNewP n l w (.pointer none) W) := Lib.hid (fun W => .inl ⟨by rw [hne]; decide, rfl⟩)
    rw [hne]
    by_cases h1 : n < 0
    · clear hbad
      go_enter Try.func40, Try.ntmps40
      go_wp2
      go_ret2
      exact ⟨_, rfl, HP.out _, Below.refl _ _⟩
    · by_cases h2 : 4096 < n
      · clear hbad
        go_enter Try.func40, Try.ntmps40
        go_wp2
        go_ret2
        exact ⟨_, rfl, HP.out _, Below.refl _ _⟩
      · have h3 : (16384 : Int) < l.length := by omega
        clear hbad
        go_enter Try.func40, Try.ntmps40
        go_wp2
        go_ret2
        exact ⟨_, rfl, HP.out _, Below.refl _ _⟩
  · have hne : newE n l = firstE n l := if_neg hbad
    obtain ⟨k, rfl⟩ := Int.eq_ofNat_of_zero_le (a := n) (by omega)
    have hk1 : (k : Int) ≤ 4096 := by omega
    have hm1 : (l.length : Int) ≤ 16384 := by omega
    have HNE := Lib.hid hne
    clear hbad hne
    go_enter Try.func40, Try.ntmps40
    go_wp2_with fail
    go_loopw [6] (fun x wr => ∃ j : Nat, j ≤ l.length ∧ x = .int .i64 j ∧ Hid (firstE k (l.drop j) = newE k l) ∧ Below w.heap.size w wr) (fun x _ => l.length - (intOf x).toNat)
    case atStart => exact ⟨0, by omega, rfl, Lib.hid (by rw [HNE.out]; rfl), Below.refl _ _⟩
    case round =>
      obtain ⟨j, hj, rfl, hI, hb⟩ := hrel
      by_cases hlt : j < l.length
      · have hlt1 : (j : Int) < l.length := by omega
        obtain ⟨b, o, rfl, hc⟩ := HE.out (by omega)
        have hbl := World.block_lt_of_cell? w _ (hc j hlt).1
        have ce : ∀ i, wr.cell? ⟨b, i, none⟩ = w.cell? ⟨b, i, none⟩ := fun i => hb.cell (p := ⟨b, i, none⟩) hbl
        obtain ⟨ku, kv, -⟩ := hc j hlt
        rw [← ce] at ku kv
        have hst : firstE k (l.drop j) = firstE k (l.getD j edge0 :: l.drop (j + 1)) := by rw [List.drop_eq_getElem_cons hlt]; simp [List.getD_eq_getElem?_getD, hlt]
        rw [hI.out, firstE] at hst
        generalize l.getD j edge0 = E at *
        obtain ⟨U, V, W⟩ := E
        simp only at ku kv hst
        have HB := Lib.hid hb
        by_cases hbad : U < 0 ∨ (k : Int) ≤ U ∨ V < 0 ∨ (k : Int) ≤ V
        · rw [if_pos hbad] at hst
          have HP : Hid (∀ W, RNewP k l w (.pointer none) W) := Lib.hid (fun W => .inl ⟨by rw [hst]; decide, rfl⟩)
          have HN := Lib.hid hst
          clear hI hb hc ce hbl hst
          by_cases h1 : U < 0
          · clear hbad
            go_wp2
            go_ret2
            exact ⟨_, by rw [HN.out]; rfl, HP.out _, HB.out⟩
          · by_cases h2 : (k : Int) ≤ U
            · clear hbad
              go_wp2
              go_ret2
              exact ⟨_, by rw [HN.out]; rfl, HP.out _, HB.out⟩
            · by_cases h3 : V < 0
              · clear hbad
                go_wp2
                go_ret2
                exact ⟨_, by rw [HN.out]; rfl, HP.out _, HB.out⟩
              · have h4 : (k : Int) ≤ V := by omega
                clear hbad
                go_wp2
                go_ret2
                exact ⟨_, by rw [HN.out]; rfl, HP.out _, HB.out⟩
        · rw [if_neg hbad] at hst
          have h1 : 0 ≤ U := by omega
          have h2 : U < k := by omega
          have h3 : 0 ≤ V := by omega
          have h4 : V < k := by omega
          clear hbad
          by_cases h5 : U = V
          · rw [if_pos h5] at hst
            have HP : Hid (∀ W, RNewP k l w (.pointer none) W) := Lib.hid (fun W => .inl ⟨by rw [hst]; decide, rfl⟩)
            have HN := Lib.hid hst
            subst h5
            clear hI hb hc ce hbl hst
            go_wp2_with fail
            go_quiet (fail)
            go_wp2
            go_ret2
            exact ⟨_, by rw [HN.out]; rfl, HP.out _, below_drewN HB.out _⟩
          · rw [if_neg h5] at hst
            have hne5 : (U == V) = false := by simp [h5]
            have HI := Lib.hid hst.symm
            clear hI hb hc ce hbl hst
            go_wp2_with fail
            go_quiet (fail)
            go_wp2
            go_roundw
            case rel => exact ⟨j + 1, by omega, by go_num, HI, below_drewN HB.out _⟩
            case measure => simp [intOf]; omega
      · have hkk : j = l.length := by omega
        subst hkk
        have hz := hI.out
        rw [List.drop_length, firstE] at hz
        have HZ2 : Hid (newE k l = 0) := Lib.hid hz.symm
        have HB := Lib.hid hb
        have HE1 := Lib.hid (HE.out.on hb)
        clear hI hb hz
        cases A with
        | none =>
          have h0 : l = [] := by
            rcases Nat.eq_zero_or_pos l.length with h | h
            · exact List.eq_nil_of_length_eq_zero h
            · obtain ⟨b, o, e, -⟩ := HE.out h
              cases e
          subst h0
          go_wp2
          go_ret2
          have hz := HB.out.size
          exact ⟨_, by rw [HZ2.out]; rfl, .inr ⟨HZ2.out, k, wr.heap.size + 1, rfl, rfl, by omega, _, _, block_new _ _ _ (by simp), fun h => absurd h (by simp)⟩, (HB.out.alloc hz _).alloc (by simp; omega) _⟩
        | some ad =>
          go_wp2_with (at_builtin; refine wpList_append_own _ rfl _ _ 22 rfl wr.heap.size 36 i0 (.agg #[.int .i64 0, .int .i64 0, .int .i64 0]) 3 24 Try.underlying22 hi hz0 hz1 hz2 rfl (by decide) _ _ _ rfl (World.ownsRow_made wr #[] 0 (Nat.le_refl _) (Nat.zero_le _) rfl) ad l.length c (ecells l) rfl ?qc1 ?qc2 ?qc3 ?qc4 ?qc5 ?qc6 ?_)
          case qc1 => exact ecells_len l
          case qc2 =>
            intro j u hj
            have hjl : j < l.length * 3 := by
              have := (List.getElem?_eq_some_iff.1 hj).1
              rwa [ecells_len] at this
            obtain ⟨b, o, e, hc⟩ := HE1.out (by omega)
            injection e with e
            subst e
            have hji : j / 3 < l.length := by omega
            obtain ⟨k0, k1, k2⟩ := hc (j / 3) hji
            obtain ⟨g0, g1, g2⟩ := ecells_at l (j / 3) hji
            rw [Addr.add_lit]
            refine Lib.cell?_alloc_some _ ?_
            rcases (by omega : j = j / 3 * 3 ∨ j = j / 3 * 3 + 1 ∨ j = j / 3 * 3 + 2) with h | h | h
            · rw [h] at hj ⊢; rw [g0] at hj; cases hj; exact k0
            · rw [h] at hj ⊢; rw [g1] at hj; cases hj; exact k1
            · rw [h] at hj ⊢; rw [g2] at hj; cases hj; exact k2
          case qc3 => exact ecells_one l
          case qc4 => unfold maxLen; omega
          case qc5 => omega
          case qc6 => simp
          intro v' w1 hown hgrow hnil
          have HB1 : Hid (Below w.heap.size w w1) := Lib.hid ((HB.out.alloc HB.out.size _).grown hgrow (by simp; have := HB.out.size; omega) (by intro k hk; simp [Value.ownBlock] at hk; have := HB.out.size; omega))
          obtain ⟨B, c', rfl, hE2, -⟩ := Edges.ofOwn hown
          have HE2 := Lib.hid hE2
          clear hown hgrow hnil hE2
          go_wp2
          go_ret2
          exact ⟨_, by rw [HZ2.out]; rfl, .inr ⟨HZ2.out, k, _, rfl, rfl, HB1.out.size, B, c', block_new _ _ _ rfl, HE2.out.on ((Below.refl _ _).alloc (Nat.le_refl _) _)⟩, HB1.out.alloc HB1.out.size _⟩
end Go.Proofs.Ytobaodkcjjgkdaa
namespace Go.Proofs.Ytobaodkcjjgkdaa
open Go Go.RowKit Go.Proofs.YtobaodkcjjgkdaaW.PrintWords

abbrev PS36 := PKruskalSwaps.S36
def toE (s : PS36) : Edge := ⟨s.f0, s.f1, s.f2⟩
def toS (e : Edge) : PS36 := ⟨e.U, e.V, e.W⟩
theorem toE_toS (l : List Edge) : (l.map toS).map toE = l := by
  rw [List.map_map]
  exact List.map_id l
theorem add_off (b o i : Nat) : (⟨b, o, none⟩ : Addr).add i = ⟨b, o + i, none⟩ := by
  unfold Addr.add
  split
  · rename_i e; subst e; rfl
  · rfl
theorem edgesC {A : Option Addr} {l : List Edge} {w : World} (h : Edges A l w) (hl : l.length ≤ 1000000) : Kd.C PKruskalSwaps.k36 w A (l.map toS).length (l.map toS) := by
  refine ⟨rfl, by rw [List.length_map]; omega, fun hn => ?_⟩
  rw [List.length_map] at hn
  obtain ⟨b, o, rfl, hc⟩ := h hn
  refine ⟨_, rfl, fun j p hj => ?_⟩
  have hjl : j < l.length := by
    have := (List.getElem?_eq_some_iff.1 hj).1
    rwa [List.length_map] at this
  have hp : p = toS l[j] := by
    rw [List.getElem?_map, List.getElem?_eq_getElem hjl] at hj
    exact (Option.some.inj hj).symm
  obtain ⟨c0, c1, c2⟩ := hc j hjl
  rw [show l.getD j edge0 = l[j] by simp [List.getD_eq_getElem?_getD, hjl]] at c0 c1 c2
  subst hp
  refine ⟨_, rfl, PKruskalSwaps.k36_mk w _, fun i u hi => ?_⟩
  rw [add_off]
  match i, hi with
  | 0, hi => cases hi; exact c0
  | 1, hi => cases hi; exact c1
  | 2, hi => cases hi; exact c2
  | i + 3, hi => simp at hi
theorem intsC {A : Option Addr} {xs : List Int} {w : World} (h : IntsR A xs w) (hl : xs.length ≤ 1000000) : Kd.C (Kd.int .i64) w A xs.length xs := by
  refine ⟨rfl, by omega, fun hn => ?_⟩
  obtain ⟨b, o, rfl, hc⟩ := h hn
  refine ⟨_, rfl, fun j p hj => ?_⟩
  have hjl := (List.getElem?_eq_some_iff.1 hj).1
  have hp : p = St.v xs j := by
    rw [List.getElem?_eq_getElem hjl] at hj
    rw [show St.v xs j = xs[j] from St.getD_at hjl]
    exact (Option.some.inj hj).symm
  subst hp
  refine ⟨[.int .i64 (St.v xs j)], rfl, rfl, fun i u hi => ?_⟩
  rw [add_off]
  match i, hi with
  | 0, hi =>
    cases hi
    show w.cell? ⟨b, o + (j * 1 + 0), none⟩ = _
    rw [show j * 1 + 0 = j by omega]
    exact hc j hjl
  | i + 1, hi => simp at hi
theorem intsR_ofC {A : Option Addr} {xs : List Int} {w : World} (h : Kd.C (Kd.int .i64) w A xs.length xs) (hA : 0 < xs.length → ∀ ad, A = some ad → ad.spot = none) : IntsR A xs w := by
  intro hn
  obtain ⟨ad, e, hc⟩ := h.2.2 hn
  obtain ⟨b, o, s⟩ := ad
  have hs : s = none := hA hn _ e
  subst hs
  refine ⟨b, o, e, fun j hj => ?_⟩
  obtain ⟨c, -, hK, hcell⟩ := hc j _ (List.getElem?_eq_getElem hj)
  have hc1 : c = [.int .i64 xs[j]] := hK
  subst hc1
  have := hcell 0 _ rfl
  rw [add_off, show j * (Kd.int .i64).sz + 0 = j from Nat.mul_one j] at this
  rw [this, show St.v xs j = xs[j] from St.getD_at hj]
/-- A row of numbers that a reference function hands back. -/
def RowR (w : World) (v : Value) (xs : List Int) : Prop := ∃ B cb, v = .slice B xs.length cb ∧ xs.length ≤ cb ∧ Kd.C (Kd.int .i64) w B xs.length xs ∧ IntsR B xs w
theorem RowR.on {w w' : World} {v : Value} {xs : List Int} (h : RowR w v xs) (hb : Below w.heap.size w w') : RowR w' v xs := by
  obtain ⟨B, cb, e, h1, h2, h3⟩ := h
  exact ⟨B, cb, e, h1, Kd.C_below h2 hb, h3.on hb⟩
theorem RowR.ofR {w : World} {e base : Nat} {ok : Nat → Prop} {v : Value} {xs : List Int} (h : (Kd.int .i64).R e w base ok v xs) : RowR w v xs := by
  obtain ⟨B, cb, rfl, h1, h2⟩ := Kd.R_reads h
  refine ⟨B, cb, rfl, h1, h2, intsR_ofC h2 fun hn ad e => ?_⟩
  obtain ⟨g, cap, e2, -⟩ := Kd.R_form h hn
  injection e2 with e2 _ _
  rw [e] at e2
  injection e2 with e2
  rw [e2]
theorem RowR.nil (w : World) : RowR w (.slice none 0 0) [] := ⟨none, 0, rfl, Nat.le_refl _, ⟨rfl, by decide, fun h => absurd h (by decide)⟩, fun h => absurd h (by decide)⟩
end Go.Proofs.Ytobaodkcjjgkdaa
namespace Go.Proofs.Ytobaodkcjjgkdaa
open Go Go.RowKit Go.Proofs.YtobaodkcjjgkdaaW.PrintWords
open PKruskalSwaps (seepageref17_Order.l0 seepageref17_Order.l1 seepageref17_Order.f)

theorem rd_mid (A B : List Int) (i : Int) (k : Nat) (hk : k = A.length) : rd (A ++ i :: B) (k : Int) = i := by
  subst hk
  unfold rd
  rw [Int.toNat_natCast, List.getD_eq_getElem?_getD]
  simp
theorem set_two (A B : List Int) (a i : Int) : ((A ++ a :: i :: B).set (A.length + 1) a).set A.length i = A ++ i :: a :: B := by
  rw [List.set_append_right _ _ (by omega), List.set_append_right _ _ (by omega)]
  simp
/-- Sorted, of the first i places. -/
def Part (l : List Edge) (i : Nat) (S : List Int) : Prop := S.Perm ((List.range i).map Int.ofNat) ∧ S.Pairwise (fun a b => ordLe l a b = true)
theorem part_rng {l : List Edge} {i : Nat} {S : List Int} (h : Part l i S) : ∀ x ∈ S, 0 ≤ x ∧ x < i := by
  intro x hx
  obtain ⟨j, hj, rfl⟩ := List.mem_map.1 (h.1.mem_iff.1 hx)
  have := List.mem_range.1 hj
  exact ⟨Int.natCast_nonneg j, by show (j : Int) < _; omega⟩
theorem wrap_small (z : Int) (h0 : -1000000 ≤ z) (h1 : z ≤ 1000001) : wrap64 z = z := by unfold wrap64; omega
theorem rd36 (ls : List PS36) (i : Int) (h : 0 ≤ i ∧ i < ls.length) : (PKruskalSwaps.rd_T36 ls i).f2 = wtOf (ls.map toE) i := by
  unfold PKruskalSwaps.rd_T36 wtOf
  have hi : i.toNat < ls.length := by omega
  simp [List.getD_eq_getElem?_getD, hi, toE]
theorem ord_l1 (ls : List PS36) (hl : ls.length ≤ 1000000) (R : List Int) (i : Nat) (hi : i < ls.length) (next : ∀ S, Part (ls.map toE) (i + 1) S → ∃ k, seepageref17_Order.l0 k ls S ((i : Int) + 1) = some R) :
    ∀ (m : Nat) (A B : List Int), A.length = m → (A ++ B).Perm ((List.range i).map Int.ofNat) → (A ++ B).Pairwise (fun a b => ordLe (ls.map toE) a b = true) → (∀ b ∈ B, wtOf (ls.map toE) i < wtOf (ls.map toE) b) → ∃ k, seepageref17_Order.l1 k ls (A ++ (i : Int) :: B) i (m : Int) = some R := by
  intro m
  induction m with
  | zero =>
    intro A B hA hp hs hB
    have e : A = [] := List.eq_nil_of_length_eq_zero hA
    subst e
    obtain ⟨k, hk⟩ := next ((i : Int) :: B) ⟨by
      rw [List.range_succ, List.map_append]
      exact ((hp.cons _).trans (List.perm_append_singleton _ _).symm), List.pairwise_cons.2 ⟨fun b hb => by
        have := hB b hb
        unfold ordLe
        simp only [decide_eq_true_eq]
        omega, hs⟩⟩
    refine ⟨k + 1, ?_⟩
    rw [seepageref17_Order.l1, if_neg (by omega), wrap_small _ (by omega) (by omega)]
    exact hk
  | succ m ih =>
    intro A B hA hp hs hB
    obtain ⟨A', a, rfl⟩ : ∃ A' a, A = A' ++ [a] := ⟨A.dropLast, A.getLast (by intro e; rw [e] at hA; simp at hA), (List.dropLast_concat_getLast _).symm⟩
    have hA' : A'.length = m := by simpa using hA
    have hr : ∀ x ∈ A' ++ [a] ++ B, 0 ≤ x ∧ x < i := fun x hx => by
      obtain ⟨j, hj, rfl⟩ := List.mem_map.1 (hp.mem_iff.1 hx)
      have := List.mem_range.1 hj
      exact ⟨Int.natCast_nonneg j, by show (j : Int) < _; omega⟩
    have ha := hr a (by simp)
    have hlen : (A' ++ [a] ++ B).length = i := by rw [hp.length_eq]; simp
    simp only [List.length_append, List.length_singleton] at hlen
    have e0 : A' ++ [a] ++ (i : Int) :: B = A' ++ a :: (i : Int) :: B := by simp
    have r1 : rd (A' ++ a :: (i : Int) :: B) ((m : Int) + 1) = i := by
      have := rd_mid (A' ++ [a]) B (i : Int) (m + 1) (by simp [hA'])
      rw [e0] at this
      exact_mod_cast this
    have r2 : rd (A' ++ a :: (i : Int) :: B) (m : Int) = a := rd_mid A' ((i : Int) :: B) a m hA'.symm
    have w1 : wrap64 ((m : Int) + 1 - 1) = m := by rw [wrap_small _ (by omega) (by omega)]; omega
    have ln : ((A' ++ a :: (i : Int) :: B).length : Int) = i + 1 := by simp; omega
    have f1 := rd36 ls i ⟨by omega, by omega⟩
    have f2 := rd36 ls a ⟨by omega, by omega⟩
    by_cases hw : wtOf (ls.map toE) i < wtOf (ls.map toE) a
    · obtain ⟨k, hk⟩ := ih A' (a :: B) hA' (by simpa using hp) (by simpa using hs) (fun b hb => by
        rcases List.mem_cons.1 hb with rfl | hb
        · exact hw
        · exact hB b hb)
      refine ⟨k + 1, ?_⟩
      push_cast
      rw [e0, seepageref17_Order.l1, if_pos (by omega), if_pos (by omega), r1, w1, r2, ln, if_pos (by omega), if_pos (by omega), if_pos (by omega), if_pos (by omega), if_pos (by omega), if_pos (by omega), if_pos (by omega), f1, f2, if_pos hw]
      rw [show ((m : Int) + 1).toNat = A'.length + 1 by omega, show ((m : Int)).toNat = A'.length by omega, set_two]
      exact hk
    · obtain ⟨k, hk⟩ := next (A' ++ a :: (i : Int) :: B) ⟨by
        rw [List.range_succ, List.map_append, ← e0]
        exact List.perm_middle.trans ((hp.cons _).trans (List.perm_append_singleton _ _).symm), by
        rw [← e0]
        obtain ⟨p1, p2, p3⟩ := List.pairwise_append.1 hs
        refine List.pairwise_append.2 ⟨p1, List.pairwise_cons.2 ⟨fun b hb => by
          have := hB b hb
          unfold ordLe
          simp only [decide_eq_true_eq]
          omega, p2⟩, fun x hx b hb => ?_⟩
        rcases List.mem_cons.1 hb with rfl | hb
        · have hxi := hr x (List.mem_append_left _ hx)
          have hxa : ordLe (ls.map toE) x a = true := by
            rcases List.mem_append.1 hx with h | h
            · exact (List.pairwise_append.1 p1).2.2 x h a (by simp)
            · rw [List.mem_singleton.1 h]; unfold ordLe; simp
          unfold ordLe at hxa ⊢
          simp only [decide_eq_true_eq] at hxa ⊢
          omega
        · exact p3 x hx b hb⟩
      refine ⟨k + 1, ?_⟩
      push_cast
      rw [e0, seepageref17_Order.l1, if_pos (by omega), if_pos (by omega), r1, w1, r2, ln, if_pos (by omega), if_pos (by omega), if_pos (by omega), if_pos (by omega), if_pos (by omega), if_pos (by omega), if_pos (by omega), f1, f2, if_neg hw, wrap_small _ (by omega) (by omega)]
      exact hk
theorem ord_l0 (ls : List PS36) (hl : ls.length ≤ 1000000) : ∀ (d i : Nat) (S : List Int), i + d = ls.length → Part (ls.map toE) i S → ∃ k, seepageref17_Order.l0 k ls S (i : Int) = some (ordL (ls.map toE)) := by
  intro d
  induction d with
  | zero =>
    intro i S hi hp
    refine ⟨1, ?_⟩
    rw [seepageref17_Order.l0, if_neg (by omega)]
    congr 1
    refine Hp.ord_uniq ?_ hp.2
    rw [List.length_map, show ls.length = i by omega]
    exact hp.1
  | succ d ih =>
    intro i S hi hp
    have hlen : S.length = i := by rw [hp.1.length_eq]; simp
    obtain ⟨k, hk⟩ := ord_l1 ls hl _ i (by omega) (fun S' hS' => by
      have := ih (i + 1) S' (by omega) hS'
      exact_mod_cast this) i S [] hlen (by simpa using hp.1) (by simpa using hp.2) (fun b hb => by simp at hb)
    refine ⟨k + 1, ?_⟩
    rw [seepageref17_Order.l0, if_pos (by omega), if_pos (by omega)]
    exact hk
theorem ord_f (ls : List PS36) (hl : ls.length ≤ 1000000) : ∃ k, seepageref17_Order.f k ls = some (ordL (ls.map toE)) := ord_l0 ls hl ls.length 0 [] (by omega) ⟨List.Perm.refl _, List.Pairwise.nil⟩
theorem rorder_any (A : Option Addr) (c : Nat) (l : List Edge) (w : World) (hE : Edges A l w) (hl : l.length ≤ 1000000) (hc : l.length ≤ c) :
    Calls Try.prog 14 #[.slice A l.length c] w fun e w' => ∃ v, e = .returned v ∧ RowR w' v (ordL l) ∧ Below w.heap.size w w' := by
  obtain ⟨k, hk⟩ := ord_f (l.map toS) (by rw [List.length_map]; exact hl)
  rw [toE_toS] at hk
  have h := PKruskalSwaps.seepageref17_Order.calls k A c (l.map toS) (ordL l) w (edgesC hE hl) (by rw [List.length_map]; exact hc) hk
  rw [List.length_map] at h
  refine h.mono ?_
  rintro e w' ⟨v, rfl, hR, hb⟩
  exact ⟨v, rfl, .ofR hR, hb⟩
end Go.Proofs.Ytobaodkcjjgkdaa
namespace Go.Proofs.Ytobaodkcjjgkdaa
open Go Go.RowKit Go.Proofs.YtobaodkcjjgkdaaW.PrintWords
open PKruskalSwaps (seepageref17_joined.j0 seepageref17_joined.l0 seepageref17_joined.f seepageref17_grown.l0 seepageref17_grown.l1 seepageref17_grown.f seepageref17_Order.f)

theorem rd_v (K : List Int) (i : Nat) : rd K (i : Int) = St.v K i := by unfold rd St.v; rw [Int.toNat_natCast]
theorem join_l0 (K : List Int) (hl : K.length ≤ 1000000) (lo hi : Int) : ∀ (d i : Nat), i + d = K.length → ∃ k, seepageref17_joined.l0 k K lo hi ((K.take i).map fun t => if t = hi then lo else t) (i : Int) = some (K.map fun t => if t = hi then lo else t) := by
  intro d
  induction d with
  | zero =>
    intro i hd
    refine ⟨1, ?_⟩
    rw [seepageref17_joined.l0, if_neg (by omega), List.take_of_length_le (by omega)]
  | succ d ih =>
    intro i hd
    have hi' : i < K.length := by omega
    obtain ⟨k, hk⟩ := ih (i + 1) (by omega)
    have hv : rd K (i : Int) = K[i] := by rw [rd_v]; exact St.getD_at hi'
    rw [List.take_succ_eq_append_getElem hi', List.map_append] at hk
    simp only [List.map_cons, List.map_nil] at hk
    push_cast at hk
    refine ⟨k + 1, ?_⟩
    rw [seepageref17_joined.l0, if_pos (by omega), if_pos (by omega), hv, wrap_small _ (by omega) (by omega)]
    have hlen : (List.map (fun t => if t = hi then lo else t) (List.take i K)).length < 17592186044416 := by simp; omega
    by_cases e : K[i] = hi
    · rw [if_pos e] at hk ⊢
      rw [if_pos hlen]
      exact hk
    · rw [if_neg e] at hk ⊢
      rw [if_pos hlen]
      exact hk
theorem join_f (K : List Int) (hl : K.length ≤ 1000000) (x y : Nat) (hx : x < K.length) (hy : y < K.length) : ∃ k, seepageref17_joined.f k K (x : Int) (y : Int) = some (Uf.joined K x y) := by
  have go : ∀ lo hi, ∃ k, seepageref17_joined.j0 k K lo hi = some (K.map fun t => if t = hi then lo else t) := fun lo hi => by
    obtain ⟨k, hk⟩ := join_l0 K hl lo hi K.length 0 (by omega)
    exact ⟨k + 1, by rw [seepageref17_joined.j0]; exact hk⟩
  unfold Uf.joined
  by_cases h : St.v K x > St.v K y
  · obtain ⟨k, hk⟩ := go (St.v K y) (St.v K x)
    refine ⟨k, ?_⟩
    rw [seepageref17_joined.f, if_pos (by omega), if_pos (by omega), if_pos (by omega), if_pos (by omega), rd_v, rd_v, if_pos h, hk]
    rw [show max (St.v K x) (St.v K y) = St.v K x by omega, show min (St.v K x) (St.v K y) = St.v K y by omega]
  · obtain ⟨k, hk⟩ := go (St.v K x) (St.v K y)
    refine ⟨k, ?_⟩
    rw [seepageref17_joined.f, if_pos (by omega), if_pos (by omega), if_pos (by omega), if_pos (by omega), rd_v, rd_v, if_neg h, hk]
    rw [show max (St.v K x) (St.v K y) = St.v K y by omega, show min (St.v K x) (St.v K y) = St.v K x by omega]
theorem up {α : Type} (g : Nat → Option α) (h : ∀ k, LeO (g k) (g (k + 1))) {k : Nat} {r : α} (hk : g k = some r) : ∀ d, g (k + d) = some r
  | 0 => hk
  | d + 1 => h _ r (up g h hk d)
theorem up2 {α : Type} (g : Nat → Option α) (h : ∀ k, LeO (g k) (g (k + 1))) {k m : Nat} {r : α} (hk : g k = some r) (hm : k ≤ m) : g m = some r := by
  have := up g h hk (m - k)
  rwa [show k + (m - k) = m by omega] at this
theorem rd36U (ls : List PS36) {n : Nat} (hv : Vld n (ls.map toE)) (i : Int) (h : 0 ≤ i ∧ i < ls.length) : (PKruskalSwaps.rd_T36 ls i).f0 = (eU (ls.map toE) i : Int) ∧ (PKruskalSwaps.rd_T36 ls i).f1 = (eV (ls.map toE) i : Int) := by
  have hi : i.toNat < ls.length := by omega
  have he := hv (toE ls[i.toNat]) (List.mem_map.2 ⟨_, List.getElem_mem hi, rfl⟩)
  have e : PKruskalSwaps.rd_T36 ls i = ls[i.toNat] := by
    unfold PKruskalSwaps.rd_T36
    simp [List.getD_eq_getElem?_getD, hi]
  have e2 : (ls.map toE).getD i.toNat edge0 = toE ls[i.toNat] := by simp [List.getD_eq_getElem?_getD, hi]
  unfold eU eV
  rw [e, e2]
  simp only [toE] at he ⊢
  omega
theorem grow_l1 (ls : List PS36) {n : Nat} (hn : n ≤ 1000000) (hv : Vld n (ls.map toE)) (os : List Int) (ho : ∀ x ∈ os, 0 ≤ x ∧ x < ls.length) (hol : os.length ≤ 1000000) :
    ∀ (d j : Nat) (K out : List Int), j + d = os.length → K.length = n → out.length ≤ j → ∃ k, seepageref17_grown.l1 k ls K os out (j : Int) = some (out ++ Hp.growD (ls.map toE) (os.drop j) K) := by
  intro d
  induction d with
  | zero =>
    intro j K out hj hK _
    refine ⟨1, ?_⟩
    rw [seepageref17_grown.l1, if_neg (by omega), List.drop_of_length_le (by omega)]
    simp [Hp.growD]
  | succ d ih =>
    intro j K out hj hK hout
    have hjl : j < os.length := by omega
    have hr : rd os (j : Int) = os[j] := by rw [rd_v]; exact St.getD_at hjl
    have hx := ho _ (List.getElem_mem hjl)
    obtain ⟨f0, f1⟩ := rd36U ls hv os[j] hx
    have hlt := Hp.ends_lt hv (i := os[j]) (by rw [List.length_map]; exact hx)
    rw [List.drop_eq_getElem_cons hjl, Hp.growD]
    by_cases he : St.v K (eU (ls.map toE) os[j]) = St.v K (eV (ls.map toE) os[j])
    · obtain ⟨k, hk⟩ := ih (j + 1) K out (by omega) hK (by omega)
      refine ⟨k + 1, ?_⟩
      push_cast at hk
      rw [seepageref17_grown.l1, if_pos (by omega), if_pos (by omega), hr, if_pos (by omega), if_pos (by omega), f0, f1, if_pos (by omega), if_pos (by omega), if_pos (by omega), if_pos (by omega), rd_v, rd_v, if_pos he, if_pos he, wrap_small _ (by omega) (by omega)]
      exact hk
    · obtain ⟨k, hk⟩ := ih (j + 1) (Uf.joined K (eU (ls.map toE) os[j]) (eV (ls.map toE) os[j])) (out ++ [os[j]]) (by omega) (by rw [Hp.joined_len]; exact hK) (by simp; omega)
      obtain ⟨k2, hk2⟩ := join_f K (by omega) (eU (ls.map toE) os[j]) (eV (ls.map toE) os[j]) (by omega) (by omega)
      push_cast at hk
      refine ⟨max k k2 + 1, ?_⟩
      have a1 := up2 (fun k => seepageref17_joined.f k K _ _) (fun k => PKruskalSwaps.seepageref17_joined.mono _ _ _ k) hk2 (Nat.le_max_right k k2)
      have a2 := up2 (fun k => seepageref17_grown.l1 k ls _ os _ _) (fun k => (PKruskalSwaps.seepageref17_grown.mono_l k).2 _ _ _ _ _) hk (Nat.le_max_left k k2)
      rw [seepageref17_grown.l1, if_pos (by omega), if_pos (by omega), hr, if_pos (by omega), if_pos (by omega), f0, f1, if_pos (by omega), if_pos (by omega), if_pos (by omega), if_pos (by omega), rd_v, rd_v, if_neg he, if_neg he, if_pos (by omega), wrap_small _ (by omega) (by omega)]
      rw [a1, Option.bind_some, a2, List.append_assoc]
      rfl
theorem grow_l0 (ls : List PS36) (hl : ls.length ≤ 1000000) {n : Nat} (hn : n ≤ 1000000) (hv : Vld n (ls.map toE)) : ∀ (d i : Nat), i + d = n → ∃ k, seepageref17_grown.l0 k n ls (Uf.iota i) (i : Int) = some (accF n (ls.map toE) (ordL (ls.map toE))) := by
  intro d
  induction d with
  | zero =>
    intro i hi
    obtain ⟨k1, h1⟩ := ord_f ls hl
    obtain ⟨k2, h2⟩ := grow_l1 ls hn hv (ordL (ls.map toE)) (fun x hx => by have := ordL_mem _ x hx; rwa [List.length_map] at this) (by rw [ordL_len, List.length_map]; exact hl) (ordL (ls.map toE)).length 0 (Uf.iota n) [] (by omega) (Uf.iota_length n) (Nat.le_refl _)
    have a1 := up2 (fun k => seepageref17_Order.f k ls) (fun k => PKruskalSwaps.seepageref17_Order.mono _ k) h1 (Nat.le_max_left k1 k2)
    have a2 := up2 (fun k => seepageref17_grown.l1 k ls (Uf.iota n) (ordL (ls.map toE)) [] 0) (fun k => (PKruskalSwaps.seepageref17_grown.mono_l k).2 _ _ _ _ _) h2 (Nat.le_max_right k1 k2)
    have e : i = n := by omega
    subst e
    refine ⟨max k1 k2 + 1, ?_⟩
    rw [seepageref17_grown.l0, if_neg (by omega), a1, Option.bind_some, a2, accF, Hp.growF_eq]
    rfl
  | succ d ih =>
    intro i hi
    obtain ⟨k, hk⟩ := ih (i + 1) (by omega)
    rw [iota_succ] at hk
    push_cast at hk
    refine ⟨k + 1, ?_⟩
    rw [seepageref17_grown.l0, if_pos (by omega), if_pos (by rw [Uf.iota_length]; omega), wrap_small _ (by omega) (by omega)]
    exact hk
theorem rgrown_any (n : Nat) (hn : n ≤ 1000000) (A : Option Addr) (c : Nat) (l : List Edge) (w : World) (hE : Edges A l w) (hl : l.length ≤ 1000000) (hc : l.length ≤ c) (hv : Vld n l) :
    Calls Try.prog 41 #[.int .i64 n, .slice A l.length c] w fun e w' => ∃ v, e = .returned v ∧ RowR w' v (accF n l (ordL l)) ∧ Below w.heap.size w w' := by
  obtain ⟨k, hk⟩ := grow_l0 (l.map toS) (by rw [List.length_map]; exact hl) hn (by rw [toE_toS]; exact hv) n 0 (by omega)
  rw [toE_toS] at hk
  have h := PKruskalSwaps.seepageref17_grown.calls k n A c (l.map toS) (accF n l (ordL l)) w (edgesC hE hl) (by rw [List.length_map]; exact hc) hk
  rw [List.length_map] at h
  refine h.mono ?_
  rintro e w' ⟨v, rfl, hR, hb⟩
  exact ⟨v, rfl, .ofR hR, hb⟩
end Go.Proofs.Ytobaodkcjjgkdaa
namespace Go.Proofs.Ytobaodkcjjgkdaa
open Go Go.RowKit Go.Proofs.YtobaodkcjjgkdaaW.PrintWords

set_option maxRecDepth 1000000 in
set_option maxHeartbeats 4000000 in
theorem rforest_any (n : Int) (A : Option Addr) (c : Nat) (l : List Edge) (w : World) (hE : Edges A l w) (hl : l.length ≤ 1000000) (hc : l.length ≤ c) :
    Calls Try.prog 19 #[.int .i64 n, .slice A l.length c] w fun e w' => ∃ v, e = .returned (.tuple #[v, .int .i64 (newE n l)]) ∧ RowR w' v (forF n l) ∧ Below w.heap.size w w' := by
  have HE := Lib.hid hE
  clear hE
  by_cases he : newE n l = 0
  · obtain ⟨k, rfl, hk, hm, hv⟩ := newE_zero he
    have hd : (newE k l != 0) = false := by rw [he]; rfl
    have HFO : Hid (forF k l = accF k l (ordL l)) := Lib.hid (by unfold forF; rw [if_pos he, Int.toNat_natCast])
    have HV := Lib.hid hv; have HZ := Lib.hid he
    clear hv he
    go_enter Try.func19, Try.ntmps19
    go_wp2_with (go_at_call 40; refine (rnew_any k A c l w HE.out hl).mono ?_; rintro e w1 ⟨pv, rfl, -, hb⟩; refine Hid.out ?_)
    have HB := Lib.hid hb; have HE1 := Lib.hid (HE.out.on hb)
    clear hb
    refine Lib.hid ?_
    rw [HZ.out]
    go_wp2_with (go_at_call 41; refine (rgrown_any k (by omega) A c l w1 HE1.out hl hc HV.out).mono ?_; rintro e w2 ⟨v, rfl, hr, hb⟩; refine Hid.out ?_)
    have HB2 := Lib.hid (HB.out.trans (hb.mono HB.out.size))
    have HR : Hid (RowR w2 v (forF k l)) := Lib.hid (by rw [HFO.out]; exact hr)
    clear hb hr
    refine Lib.hid ?_
    go_wp2
    go_ret2
    exact ⟨_, by rw [HZ.out]; rfl, HR.out, HB2.out⟩
  · have hd : (newE n l != 0) = true := by simp [he]
    have HFO : Hid (forF n l = []) := Lib.hid (if_neg he)
    clear he
    go_enter Try.func19, Try.ntmps19
    go_wp2_with (go_at_call 40; refine (rnew_any n A c l w HE.out hl).mono ?_; rintro e w1 ⟨pv, rfl, -, hb⟩; refine Hid.out ?_)
    have HB := Lib.hid hb
    clear hb
    refine Lib.hid ?_
    go_wp2
    go_ret2
    exact ⟨_, rfl, by rw [HFO.out]; exact RowR.nil _, HB.out⟩
end Go.Proofs.Ytobaodkcjjgkdaa
namespace Go.Proofs.Ytobaodkcjjgkdaa
open Go Go.RowKit

/-- Whether a number has 64 bits. -/
def fitB (z : Int) : Bool := decide (-9223372036854775808 ≤ z ∧ z < 9223372036854775808)
def fitV (z : Int) : Int := if fitB z then z else 0
theorem fit_no {z : Int} (h : ¬ (-9223372036854775808 ≤ z ∧ z < 9223372036854775808)) : fitB z = false ∧ fitV z = 0 := by
  have : fitB z = false := decide_eq_false h
  exact ⟨this, by unfold fitV; rw [this]; rfl⟩
theorem fit_yes {z : Int} (h : -9223372036854775808 ≤ z ∧ z < 9223372036854775808) : fitB z = true ∧ fitV z = z := by
  have : fitB z = true := decide_eq_true h
  exact ⟨this, by unfold fitV; rw [this]; rfl⟩
theorem mag6 (a b c d e f : Int) : Wd.mag [a, b, c, d, e, f] = a + 4294967296 * (b + 4294967296 * (c + 4294967296 * (d + 4294967296 * (e + 4294967296 * f)))) := by
  simp only [Wd.mag]; omega

theorem big (z : Int) (s : Bool) (m : Int) (hm : 18446744073709551616 ≤ m) (hz : z = if s then -m else m) : ¬ (-9223372036854775808 ≤ z ∧ z < 9223372036854775808) := by
  cases s
  · rw [if_neg (by simp)] at hz; omega
  · rw [if_pos rfl] at hz; omega
set_option maxRecDepth 1000000 in
set_option maxHeartbeats 4000000 in
theorem int_any (s : Bool) (ds : List Int) (w : World) (hd : Wd.Dig ds) :
    Calls Try.prog 44 #[wideV s ds] w fun e w' => e = .returned (.tuple #[.int .i64 (fitV (wval s ds)), .bool (fitB (wval s ds))]) ∧ Below w.heap.size w w' := by
  obtain ⟨d0, d1, d2, d3, d4, d5, rfl⟩ := hd.six
  have r0 := hd.at (k := 0) (by omega)
  have r1 := hd.at (k := 1) (by omega)
  have r2 := hd.at (k := 2) (by omega)
  have r3 := hd.at (k := 3) (by omega)
  have r4 := hd.at (k := 4) (by omega)
  have r5 := hd.at (k := 5) (by omega)
  simp only [St.v, List.getD_cons_zero, List.getD_cons_succ] at r0 r1 r2 r3 r4 r5
  obtain ⟨z, hz⟩ : ∃ z, z = wval s [d0, d1, d2, d3, d4, d5] := ⟨_, rfl⟩
  rw [← hz, wideV_six]
  unfold wval at hz
  rw [mag6] at hz
  have hbl : ∀ o, Below w.heap.size w (w.alloc o) := fun o => (Below.refl _ _).alloc (Nat.le_refl _) _
  have HBL := Lib.hid hbl
  clear hd hbl
  by_cases h2 : d2 = 0
  · by_cases h3 : d3 = 0
    · by_cases h4 : d4 = 0
      · by_cases h5 : d5 = 0
        · subst h2 h3 h4 h5
          have hm : d0 + 4294967296 * (d1 + 4294967296 * (0 + 4294967296 * (0 + 4294967296 * (0 + 4294967296 * 0)))) = d1 * 4294967296 + d0 := by omega
          rw [hm] at hz
          clear hm
          cases s with
          | false =>
            rw [if_neg (by simp)] at hz
            by_cases hb : 9223372036854775807 < d1 * 4294967296 + d0
            · obtain ⟨f1, f2⟩ := fit_no (z := z) (by omega)
              rw [f1, f2]
              clear hz f1 f2
              go_enter Try.func44, Try.ntmps44
              go_wp2_with fail
              go_ret2
              exact ⟨rfl, HBL.out _⟩
            · obtain ⟨f1, f2⟩ := fit_yes (z := z) (by omega)
              rw [f1, f2]
              subst hz
              clear f1 f2
              go_enter Try.func44, Try.ntmps44
              go_wp2_with fail
              go_ret2
              exact ⟨rfl, HBL.out _⟩
          | true =>
            rw [if_pos rfl] at hz
            by_cases hb : 9223372036854775808 < d1 * 4294967296 + d0
            · obtain ⟨f1, f2⟩ := fit_no (z := z) (by omega)
              rw [f1, f2]
              clear hz f1 f2
              go_enter Try.func44, Try.ntmps44
              go_wp2_with fail
              go_ret2
              exact ⟨rfl, HBL.out _⟩
            · obtain ⟨f1, f2⟩ := fit_yes (z := z) (by omega)
              rw [f1, f2]
              by_cases h0 : d1 * 4294967296 + d0 = 0
              · have hb0 : (d1 * 4294967296 + d0 == 0) = true := by simp [h0]
                have hz0 : z = 0 := by omega
                subst hz0
                clear hz f1 f2 h0
                go_enter Try.func44, Try.ntmps44
                go_wp2_with fail
                go_ret2
                exact ⟨rfl, HBL.out _⟩
              · have hb0 : (d1 * 4294967296 + d0 == 0) = false := by simp [h0]
                have hp : 1 ≤ d1 * 4294967296 + d0 := by omega
                have HZ := Lib.hid hz
                clear hz f1 f2 h0
                go_enter Try.func44, Try.ntmps44
                go_wp2_with fail
                go_ret2
                exact ⟨congrArg (fun x => Ending.returned (.tuple #[.int .i64 x, .bool true])) (show -(d1 * 4294967296 + d0 - 1) - 1 = z by have := HZ.out; omega), HBL.out _⟩
        · obtain ⟨f1, f2⟩ := fit_no (z := z) (big z s _ (by omega) hz)
          rw [f1, f2]
          have b2 : (d2 != 0) = false := by simp [h2]
          have b3 : (d3 != 0) = false := by simp [h3]
          have b4 : (d4 != 0) = false := by simp [h4]
          have b5 : (d5 != 0) = true := by simp [h5]
          clear hz f1 f2 h2 h3 h4 h5
          go_enter Try.func44, Try.ntmps44
          go_wp2_with fail
          go_ret2
          exact ⟨rfl, HBL.out _⟩
      · obtain ⟨f1, f2⟩ := fit_no (z := z) (big z s _ (by omega) hz)
        rw [f1, f2]
        have b2 : (d2 != 0) = false := by simp [h2]
        have b3 : (d3 != 0) = false := by simp [h3]
        have b4 : (d4 != 0) = true := by simp [h4]
        clear hz f1 f2 h2 h3 h4
        go_enter Try.func44, Try.ntmps44
        go_wp2_with fail
        go_ret2
        exact ⟨rfl, HBL.out _⟩
    · obtain ⟨f1, f2⟩ := fit_no (z := z) (big z s _ (by omega) hz)
      rw [f1, f2]
      have b2 : (d2 != 0) = false := by simp [h2]
      have b3 : (d3 != 0) = true := by simp [h3]
      clear hz f1 f2 h2 h3
      go_enter Try.func44, Try.ntmps44
      go_wp2_with fail
      go_ret2
      exact ⟨rfl, HBL.out _⟩
  · obtain ⟨f1, f2⟩ := fit_no (z := z) (big z s _ (by omega) hz)
    rw [f1, f2]
    have b2 : (d2 != 0) = true := by simp [h2]
    clear hz f1 f2 h2
    go_enter Try.func44, Try.ntmps44
    go_wp2_with fail
    go_ret2
    exact ⟨rfl, HBL.out _⟩
end Go.Proofs.Ytobaodkcjjgkdaa
