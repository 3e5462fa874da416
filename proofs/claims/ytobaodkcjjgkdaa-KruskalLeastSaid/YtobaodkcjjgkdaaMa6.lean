/- Which edge a further edge replaces, in plain Lean. What the search in a forest finds, in plain Lean. heaviest's search, walked. Rows of numbers that are appended to, in a row. -/
import Derived.Test.YtobaodkcjjgkdaaMa5
import Derived.Deep.AppendLies
namespace Go.Proofs.Ytobaodkcjjgkdaa
open Go

namespace Hp
theorem ordL_pw (l : List Edge) : (ordL l).Pairwise (fun a b => ordLe l a b = true) := by
  refine List.pairwise_mergeSort (fun a b c => ?_) (fun a b => ?_) _
  · simp only [ordLe, decide_eq_true_eq]; omega
  · simp only [ordLe, Bool.or_eq_true, decide_eq_true_eq]; omega
theorem ord_uniq {l : List Edge} {zs : List Int} (hp : zs.Perm ((List.range l.length).map Int.ofNat)) (hs : zs.Pairwise (fun a b => ordLe l a b = true)) : zs = ordL l := by
  refine List.Perm.eq_of_pairwise (le := fun a b => ordLe l a b = true) (fun a b _ _ h1 h2 => ?_) hs (ordL_pw l) (hp.trans (List.mergeSort_perm _ _).symm)
  simp only [ordLe, decide_eq_true_eq] at h1 h2; omega
theorem ordL_nodup (l : List Edge) : (ordL l).Nodup := by
  refine (List.mergeSort_perm _ _).nodup_iff.2 ?_
  exact List.pairwise_map.2 (List.Pairwise.imp (fun h e => h (Int.ofNat.inj e)) (List.nodup_range (n := l.length)))
theorem parts {α : Type} (p : α → Bool) (R : α → α → Prop) (hR : ∀ a b, R a b → p b = true → p a = true) : ∀ os : List α, os.Pairwise R → os = os.filter p ++ os.filter (fun a => !p a)
  | [], _ => rfl
  | a :: r, h => by
    obtain ⟨h1, h2⟩ := List.pairwise_cons.1 h
    by_cases hp : p a = true
    · rw [List.filter_cons_of_pos hp, List.filter_cons_of_neg (by simp [hp]), List.cons_append, ← parts p R hR r h2]
    · have e : r.filter p = [] := by
        rw [List.filter_eq_nil_iff]
        exact fun b hb hpb => hp (hR a b (h1 b hb) hpb)
      have e2 : r.filter (fun a => !p a) = r := by
        rw [List.filter_eq_self]
        intro b hb
        by_cases hpb : p b = true
        · exact absurd (hR a b (h1 b hb) hpb) hp
        · simpa using hpb
      rw [List.filter_cons_of_neg hp, e, List.nil_append, List.filter_cons_of_pos (by simpa using hp), e2]
variable {l : List Edge} {x : Edge}
theorem get_app {i : Int} (hi : 0 ≤ i ∧ i < l.length) : (l ++ [x]).getD i.toNat edge0 = l.getD i.toNat edge0 := by
  rw [List.getD_eq_getElem?_getD, List.getD_eq_getElem?_getD, List.getElem?_append_left (by omega)]
theorem get_new : (l ++ [x]).getD (l.length : Int).toNat edge0 = x := by
  rw [List.getD_eq_getElem?_getD, Int.toNat_natCast]; simp
theorem ordL_app (l : List Edge) (x : Edge) : ∃ P Q, ordL l = P ++ Q ∧ ordL (l ++ [x]) = P ++ (l.length : Int) :: Q ∧ (∀ i ∈ P, wtOf l i ≤ x.W) ∧ ∀ i ∈ Q, x.W < wtOf l i := by
  obtain ⟨P, hP⟩ : ∃ P, P = (ordL l).filter (fun i => decide (wtOf l i ≤ x.W)) := ⟨_, rfl⟩
  obtain ⟨Q, hQ⟩ : ∃ Q, Q = (ordL l).filter (fun i => !decide (wtOf l i ≤ x.W)) := ⟨_, rfl⟩
  have hPQ : ordL l = P ++ Q := by
    rw [hP, hQ]
    refine parts _ (fun a b => ordLe l a b = true) (fun a b h1 h2 => ?_) _ (ordL_pw l)
    simp only [ordLe, decide_eq_true_eq] at h1 h2 ⊢
    omega
  have pP : ∀ i ∈ P, wtOf l i ≤ x.W := fun i hi => by rw [hP] at hi; simpa using (List.mem_filter.1 hi).2
  have pQ : ∀ i ∈ Q, x.W < wtOf l i := fun i hi => by rw [hQ] at hi; simpa using (List.mem_filter.1 hi).2
  have rng : ∀ i ∈ P ++ Q, 0 ≤ i ∧ i < l.length := fun i hi => ordL_mem l i (by rw [hPQ]; exact hi)
  refine ⟨P, Q, hPQ, (ord_uniq ?_ ?_).symm, pP, pQ⟩
  · have h1 : (P ++ (l.length : Int) :: Q).Perm ((l.length : Int) :: (P ++ Q)) := List.perm_middle
    have h2 : (P ++ Q).Perm ((List.range l.length).map Int.ofNat) := by rw [← hPQ]; exact List.mergeSort_perm _ _
    refine h1.trans ((h2.cons _).trans ?_)
    rw [List.length_append, List.length_singleton, List.range_succ, List.map_append]
    exact (List.perm_append_singleton _ _).symm
  · have hpw := ordL_pw l
    rw [hPQ] at hpw
    obtain ⟨h1, h2, h3⟩ := List.pairwise_append.1 hpw
    have w : ∀ i : Int, 0 ≤ i ∧ i < l.length → wtOf (l ++ [x]) i = wtOf l i := fun i hi => by unfold wtOf; rw [get_app hi]
    have wn : wtOf (l ++ [x]) l.length = x.W := by unfold wtOf; rw [get_new]
    have tr : ∀ {a b}, a ∈ P ++ Q → b ∈ P ++ Q → ordLe l a b = true → ordLe (l ++ [x]) a b = true := fun {a b} ha hb h => by
      unfold ordLe at h ⊢
      rw [w a (rng a ha), w b (rng b hb)]
      exact h
    refine List.pairwise_append.2 ⟨h1.imp_of_mem fun ha hb h => tr (List.mem_append_left _ ha) (List.mem_append_left _ hb) h, List.pairwise_cons.2 ⟨fun b hb => ?_, h2.imp_of_mem fun ha hb h => tr (List.mem_append_right _ ha) (List.mem_append_right _ hb) h⟩, fun a ha b hb => ?_⟩
    · have := pQ b hb
      unfold ordLe
      rw [wn, w b (rng b (List.mem_append_right _ hb))]
      simp only [decide_eq_true_eq]; omega
    · rcases List.mem_cons.1 hb with rfl | hb
      · have := pP a ha
        have r := rng a (List.mem_append_left _ ha)
        unfold ordLe
        rw [wn, w a r]
        simp only [decide_eq_true_eq]; omega
      · exact tr (List.mem_append_left _ ha) (List.mem_append_right _ hb) (h3 a ha b hb)
theorem growD_sub (l : List Edge) : ∀ os K, (growD l os K).Sublist os
  | [], _ => List.Sublist.refl _
  | i :: r, K => by
    rw [growD]
    split
    · exact (growD_sub l r K).trans (List.sublist_cons_self _ _)
    · exact (growD_sub l r _).cons_cons _
/-- The first of some numbers that is none of others; -1 if there is none. -/
def dropF (a b : List Int) : Int := (a.find? (fun i => !decide (i ∈ b))).getD (-1)
theorem dropF_none {a b : List Int} (h : ∀ i ∈ a, i ∈ b) : dropF a b = -1 := by
  unfold dropF
  rw [List.find?_eq_none.2 (fun i hi => by simpa using h i hi)]
  rfl
theorem dropF_some {a1 a2 b : List Int} {e : Int} (h : ∀ i ∈ a1, i ∈ b) (he : e ∉ b) : dropF (a1 ++ e :: a2) b = e := by
  unfold dropF
  rw [List.find?_append, List.find?_eq_none.2 (fun i hi => by simpa using h i hi), List.find?_cons_of_pos (by simpa using he)]
  rfl
theorem conn_len {n : Nat} {F G : List (Nat × Nat)} {K : List Int} (h : LabF n F K) {u v : Nat} (hu : u < n) (hv : v < n) : St.v K u = St.v K v ↔ Conn (F ++ G) (fun i => i < F.length) u v := by
  rw [h.2 u v hu hv]
  constructor
  · exact fun c => (Conn.mono (E' := fun i => i < F.length) (fun k hk _ => hk) c).app
  · exact fun c => (c.ofApp fun _ h => h).mono fun _ _ _ => trivial
/-- What a further edge does to the forest. -/
theorem swap_plain {n : Nat} (l : List Edge) (x : Edge) (hvl : Vld n l) (u v : Nat) (hxU : x.U = u) (hxV : x.V = v) (hu : u < n) (hv : v < n) (a b : List Int) (ha : a = accF n l (ordL l)) (hb : b = accF n (l ++ [x]) (ordL (l ++ [x]))) :
    (¬ Conn (a.map (ends l)) (fun _ => True) u v → dropF a b = -1) ∧
    ∀ p : Nat, IsPi (a.map (ends l)) u v p → p < a.length ∧ dropF a b = if wtOf l (St.v a p) ≤ x.W then -1 else St.v a p := by
  obtain ⟨P, Q, h1, h2, hP, hQ⟩ := ordL_app l x
  have rng : ∀ i ∈ P ++ Q, 0 ≤ i ∧ i < l.length := fun i hi => ordL_mem l i (by rw [h1]; exact hi)
  have cg : ∀ os : List Int, (∀ i ∈ os, i ∈ P ++ Q) → ∀ i ∈ os, eU (l ++ [x]) i = eU l i ∧ eV (l ++ [x]) i = eV l i := fun os ho i hi => by
    unfold eU eV
    rw [get_app (rng i (ho i hi))]
    exact ⟨rfl, rfl⟩
  have eu : eU (l ++ [x]) l.length = u := by unfold eU; rw [get_new, hxU]; rfl
  have ev : eV (l ++ [x]) l.length = v := by unfold eV; rw [get_new, hxV]; rfl
  obtain ⟨oP, hoP⟩ : ∃ oP, oP = growD l P (Uf.iota n) := ⟨_, rfl⟩
  obtain ⟨K1, hK1⟩ : ∃ K1, K1 = growK l P (Uf.iota n) := ⟨_, rfl⟩
  have ha2 : a = oP ++ growD l Q K1 := by rw [ha, accF, growF_eq, List.nil_append, h1, growD_app, hoP, hK1]
  have cQ : ∀ K, growD (l ++ [x]) Q K = growD l Q K := fun K => (grow_congr l (l ++ [x]) Q K (cg Q fun i hi => List.mem_append_right _ hi)).2
  have hb2 : b = oP ++ if St.v K1 u = St.v K1 v then growD l Q K1 else (l.length : Int) :: growD l Q (Uf.joined K1 u v) := by
    have c := grow_congr l (l ++ [x]) P (Uf.iota n) (cg P fun i hi => List.mem_append_left _ hi)
    rw [hb, accF, growF_eq, List.nil_append, h2, growD_app, c.1, c.2, ← hoP, ← hK1, growD, eu, ev, cQ, cQ]
  -- labels after some of the edges
  have lab : ∀ Q1 Q2, Q = Q1 ++ Q2 → LabF n ((oP ++ growD l Q1 K1).map (ends l)) (growK l Q1 K1) := fun Q1 Q2 e => by
    have := (grow_ok hvl (P ++ Q1) (Uf.iota n) [] (fun i hi => rng i (by rw [e]; rcases List.mem_append.1 hi with h | h; exact List.mem_append_left _ h; exact List.mem_append_right _ (List.mem_append_left _ h))) (iota_ok n) (fun k c d h => by simp at h)).1
    rw [growF_eq, List.nil_append, growD_app, growK_app, ← hoP, ← hK1] at this
    exact this
  have K1n : K1.length = n := by rw [hK1, growK_len]; simp [Uf.iota]
  have mQ : ∀ i ∈ Q, eU l i < n ∧ eV l i < n := fun i hi => ends_lt hvl (rng i (List.mem_append_right _ hi))
  have lab0 : LabF n (oP.map (ends l)) K1 := by have := lab [] Q rfl; simpa [growD, growK] using this
  by_cases hc : St.v K1 u = St.v K1 v
  · rw [if_pos hc] at hb2
    have hd : dropF a b = -1 := dropF_none (by rw [ha2, hb2]; exact fun i hi => hi)
    refine ⟨fun _ => hd, fun p hp => ?_⟩
    have hcon := (conn_len (G := (growD l Q K1).map (ends l)) lab0 hu hv).1 hc
    rw [← List.map_append, ← ha2] at hcon
    have hpl : p < oP.length := by
      rcases hp with ⟨-, hp⟩ | ⟨-, -, hn⟩
      · omega
      · by_cases hlt : p < oP.length
        · exact hlt
        · refine absurd (hcon.mono fun i _ hi => ?_) hn
          simp at hi; omega
    have hmem : St.v a p ∈ P := by
      have e : St.v a p = oP[p] := by
        rw [ha2]; unfold St.v
        rw [List.getD_eq_getElem?_getD, List.getElem?_append_left hpl]; simp [hpl]
      rw [e]
      exact (growD_sub l P (Uf.iota n)).subset (by rw [← hoP]; exact List.getElem_mem hpl)
    refine ⟨by rw [ha2, List.length_append]; omega, ?_⟩
    rw [hd, if_pos (hP _ hmem)]
  · rw [if_neg hc] at hb2
    have hrel : Rel n K1 (Uf.joined K1 u v) u v := ⟨K1n, by rw [joined_len, K1n], hc, fun y z hy hz => joined_same K1 (by omega) (by omega)⟩
    rcases sim hu hv Q K1 _ hrel mQ with ⟨s1, s2⟩ | ⟨Q1, e, Q2, A', s1, s2, s3, s4, s5, s6⟩
    · rw [s1] at hb2
      have hd : dropF a b = -1 := dropF_none (by
        rw [ha2, hb2]
        intro i hi
        rcases List.mem_append.1 hi with h | h
        · exact List.mem_append_left _ h
        · exact List.mem_append_right _ (List.mem_cons_of_mem _ h))
      refine ⟨fun _ => hd, fun p hp => ?_⟩
      have hl := lab Q [] (by simp)
      rw [← ha2] at hl
      rcases hp with ⟨-, hp⟩ | ⟨-, hcc, -⟩
      · omega
      · exact absurd ((hl.2 u v hu hv).2 (hcc.mono fun _ _ _ => trivial)) s2
    · obtain ⟨q, hq⟩ : ∃ q, q = (oP ++ growD l Q1 K1).length := ⟨_, rfl⟩
      have ha3 : a = (oP ++ growD l Q1 K1) ++ e :: A' := by rw [ha2, s2, List.append_assoc]
      have hb3 : b = oP ++ (l.length : Int) :: (growD l Q1 K1 ++ A') := by rw [hb2, s3]
      have haq : St.v a q = e := by
        rw [ha3]; unfold St.v
        rw [List.getD_eq_getElem?_getD, List.getElem?_append_right (by omega), hq]; simp
      have heQ : e ∈ Q := by rw [s1]; simp
      have hnd : a.Nodup := by
        rw [ha2]
        refine List.Nodup.sublist ?_ (h1 ▸ ordL_nodup l)
        exact (hoP ▸ growD_sub l P (Uf.iota n)).append (growD_sub l Q K1)
      have heb : e ∉ b := by
        rw [ha3] at hnd
        obtain ⟨n1, n2, n3⟩ := List.nodup_append.1 hnd
        have n4 := (List.nodup_cons.1 n2).1
        rw [hb3]
        intro hm
        rcases List.mem_append.1 hm with h | h
        · exact n3 e (List.mem_append_left _ h) e (by simp) rfl
        · rcases List.mem_cons.1 h with h | h
          · have := (rng e (List.mem_append_right _ heQ)).2
            omega
          · rcases List.mem_append.1 h with h | h
            · exact n3 e (List.mem_append_right _ h) e (by simp) rfl
            · exact n4 h
      have hd : dropF a b = e := by
        rw [ha3]
        refine dropF_some (fun i hi => ?_) heb
        rw [hb3]
        rcases List.mem_append.1 hi with h | h
        · exact List.mem_append_left _ h
        · exact List.mem_append_right _ (List.mem_cons_of_mem _ (List.mem_append_left _ h))
      have c1 : ¬ Conn (a.map (ends l)) (fun i => i < q) u v := fun c => s5 (by
        refine (conn_len (G := (e :: A').map (ends l)) (lab Q1 (e :: Q2) s1) hu hv).2 ?_
        rw [← List.map_append, ← ha3, List.length_map, ← hq]
        exact c)
      have c2 : Conn (a.map (ends l)) (fun i => i < q + 1) u v := by
        have := (conn_len (G := A'.map (ends l)) (lab (Q1 ++ [e]) Q2 (by rw [s1]; simp)) hu hv).1 s6
        rw [s4, ← List.append_assoc, ← List.map_append, List.append_assoc, List.singleton_append, ← ha3] at this
        refine this.mono fun i _ hi => ?_
        simp only [List.length_map, List.length_append, List.length_singleton] at hi hq
        omega
      refine ⟨fun hn => absurd (c2.mono fun _ _ _ => trivial) hn, fun p hp => ?_⟩
      have hpq : p = q := by
        rcases hp with ⟨-, hp⟩ | ⟨-, p1, p2⟩
        · omega
        · rcases Nat.lt_trichotomy p q with h | h | h
          · exact absurd (p1.mono fun i _ hi => by omega) c1
          · exact h
          · exact absurd (c2.mono fun i _ hi => by omega) p2
      subst hpq
      refine ⟨by rw [ha3, List.length_append, ← hq]; simp, ?_⟩
      rw [hd, haq, if_neg]
      have := hQ e heQ
      omega
end Hp
end Go.Proofs.Ytobaodkcjjgkdaa
namespace Go.Proofs.Ytobaodkcjjgkdaa
open Go

namespace Hp
variable {F : List (Nat × Nat)}
/-- The places, of the first m, of edges at a vertex. -/
def inc (F : List (Nat × Nat)) (x m : Nat) : List Nat := (List.range m).filter fun k => decide ((F.getD k (0, 0)).1 = x ∨ (F.getD k (0, 0)).2 = x)
theorem inc_succ (F : List (Nat × Nat)) (x m : Nat) : inc F x (m + 1) = inc F x m ++ if (F.getD m (0, 0)).1 = x ∨ (F.getD m (0, 0)).2 = x then [m] else [] := by
  unfold inc
  rw [List.range_succ, List.filter_append]
  congr 1
  by_cases h : (F.getD m (0, 0)).1 = x ∨ (F.getD m (0, 0)).2 = x
  · rw [if_pos h, List.filter_cons_of_pos (by simpa using h), List.filter_nil]
  · rw [if_neg h, List.filter_cons_of_neg (by simpa using h), List.filter_nil]
theorem inc_len (F : List (Nat × Nat)) (x m : Nat) : (inc F x m).length ≤ m := by
  unfold inc
  have := List.length_filter_le (fun k => decide ((F.getD k (0, 0)).1 = x ∨ (F.getD k (0, 0)).2 = x)) (List.range m)
  simpa using this
theorem mem_inc {x k : Nat} : k ∈ inc F x F.length ↔ ∃ y, Jn F k x y := by
  unfold inc
  rw [List.mem_filter, List.mem_range, decide_eq_true_eq]
  constructor
  · rintro ⟨hk, h⟩
    have e : F[k]? = some ((F.getD k (0, 0)).1, (F.getD k (0, 0)).2) := by simp [List.getD_eq_getElem?_getD, hk]
    rcases h with h | h
    · exact ⟨_, .inl (by rw [e, h])⟩
    · exact ⟨_, .inr (by rw [e, h])⟩
  · rintro ⟨y, h⟩
    refine ⟨h.lt, ?_⟩
    rcases h with h | h
    · exact .inl (by rw [List.getD_eq_getElem?_getD, h]; rfl)
    · exact .inr (by rw [List.getD_eq_getElem?_getD, h]; rfl)
/-- What the search from a vertex, come to by an edge, finds. -/
def FindR (F : List (Nat × Nat)) (e : Int) (at' v : Nat) (last r : Int) : Prop := (Conn F (But e) at' v ∧ ∃ p, IsPi F at' v p ∧ r = max last p) ∨ (¬ Conn F (But e) at' v ∧ r = -1)
theorem FindR.here {e last : Int} {v : Nat} (h : -1 ≤ last) : FindR F e v v last last := .inl ⟨.refl _, -1, .inl ⟨rfl, rfl⟩, by omega⟩
theorem FindR.hit (h : Seq F) {at' k y v : Nat} {e last r : Int} (hk : Jn F k at' y) (hke : (k : Int) ≠ e) (he : ∀ j : Nat, e = j → ∀ a b, Jn F j a b → a = at' ∨ b = at') (hf : FindR F k y v (max last k) r) (hr : 0 ≤ r) : FindR F e at' v last r := by
  rcases hf with ⟨hc, p, hp, rfl⟩ | ⟨-, rfl⟩
  · exact .inl ⟨(h.sub hk hke he hc).1, _, hp.step h hk hc, by omega⟩
  · omega
theorem FindR.miss {k y v : Nat} {last r : Int} (hf : FindR F k y v last r) (hl : 0 ≤ last) (hr : r < 0) : ¬ Conn F (But k) y v := by
  rcases hf with ⟨_, p, _, rfl⟩ | ⟨hc, -⟩
  · omega
  · exact hc
theorem FindR.none {at' v : Nat} {e last : Int} (hne : at' ≠ v) (h : ∀ k y : Nat, (k : Int) ≠ e → Jn F k at' y → ¬ Conn F (But k) y v) : FindR F e at' v last (-1) := by
  refine .inr ⟨fun hc => ?_, rfl⟩
  rcases hc.first with e' | ⟨k, y, h1, h2, h3⟩
  · exact hne e'.symm
  · exact h k y h1 h2 h3
theorem FindR.top {u v : Nat} {r : Int} (hne : u ≠ v) (hf : FindR F (-1) u v (-1) r) : (¬ Conn F (fun _ => True) u v ∧ r = -1) ∨ ∃ p : Nat, r = p ∧ IsPi F u v p := by
  rcases hf with ⟨_, p, hp, rfl⟩ | ⟨hc, rfl⟩
  · have p0 : 0 ≤ p := by
      rcases hp with ⟨e, -⟩ | ⟨h, -⟩
      · exact absurd e hne
      · exact h
    obtain ⟨q, rfl⟩ := Int.eq_ofNat_of_zero_le p0
    exact .inr ⟨q, by omega, hp⟩
  · exact .inl ⟨fun h => hc (h.mono fun i _ _ => by unfold But; omega), rfl⟩
theorem other_end {k c d x y : Nat} (hk : F[k]? = some (c, d)) (h : Jn F k x y) : c + d = x + y := by
  rcases h.ends hk with ⟨rfl, rfl⟩ | ⟨rfl, rfl⟩ <;> omega
theorem Jn.uniq {k x y z : Nat} (h : Jn F k x y) (h' : Jn F k x z) : y = z := by
  obtain ⟨⟨c, d⟩, hk⟩ : ∃ e, F[k]? = some e := ⟨_, List.getElem?_eq_getElem h.lt⟩
  have h1 := h.ends hk
  have h2 := h'.ends hk
  omega
theorem Jn.both {k x y a b : Nat} (h : Jn F k x y) (h' : Jn F k a b) : a = y ∨ b = y := by
  obtain ⟨⟨c, d⟩, hk⟩ : ∃ e, F[k]? = some e := ⟨_, List.getElem?_eq_getElem h.lt⟩
  have h1 := h.ends hk
  have h2 := h'.ends hk
  omega
theorem IsPi.lt {u v : Nat} {p : Nat} (h : IsPi F u v p) : p < F.length := by
  rcases h with ⟨-, h⟩ | ⟨-, h1, h2⟩
  · omega
  · rcases Nat.lt_or_ge p F.length with h | h
    · exact h
    · exact absurd (h1.mono fun i hi _ => by omega) h2
theorem Conn.lt {E : Nat → Prop} {n x y : Nat} (h : Conn F E x y) (hx : x < n) (hF : ∀ (k c d : Nat), F[k]? = some (c, d) → c < n ∧ d < n) : y < n := by
  induction h with
  | refl => exact hx
  | snoc _ _ j _ =>
    rcases j with j | j
    · exact (hF _ _ _ j).2
    · exact (hF _ _ _ j).1
/-- What lies beyond an edge is less than what lies before it. -/
theorem reach_less (h : Seq F) {at' k y : Nat} {e : Int} (hk : Jn F k at' y) (hke : (k : Int) ≠ e) (he : ∀ j : Nat, e = j → ∀ a b, Jn F j a b → a = at' ∨ b = at') {S : List Nat} (hS : ∀ z, Conn F (But e) at' z → z ∈ S) :
    (S.filter (fun z => !decide (z = at'))).length < S.length ∧ ∀ z, Conn F (But k) y z → z ∈ S.filter (fun z => !decide (z = at')) := by
  constructor
  · refine Nat.lt_of_le_of_ne (List.length_filter_le _ _) fun e' => ?_
    have := List.length_filter_eq_length_iff.1 e' at' (hS _ (.refl _))
    simp at this
  · intro z hz
    have := h.sub hk hke he hz
    rw [List.mem_filter]
    exact ⟨hS _ this.1, by simpa using this.2⟩
end Hp
end Go.Proofs.Ytobaodkcjjgkdaa
namespace Go.Proofs.Ytobaodkcjjgkdaa
open Go Go.RowKit

def mxI (x y : Int) : Int := if x < y then y else x
theorem mxI_max (x y : Int) : mxI x y = max x y := by unfold mxI; split <;> omega
theorem run_mxI {P : Program} (ts : Array TypeId) (t : TypeId) (k k' : IntKind) (x y : Int) (w : World) : (Builtin.max_ ts t #[.int k x, .int k' y]).run P w = .ok (.int k (mxI x y)) w := by
  simp [Builtin.max_, Builtin.max2, mxI]
attribute [local go_sem ↓] run_mxI

/-- The places, in a forest, of the edges at a vertex. -/
def rowOf (l : List Edge) (a : List Int) (x : Nat) : List Int := (Hp.inc (a.map (Hp.ends l)) x a.length).map Int.ofNat
theorem rowOf_len (l : List Edge) (a : List Int) (x : Nat) : (rowOf l a x).length ≤ a.length := by
  unfold rowOf
  rw [List.length_map]
  exact Hp.inc_len _ _ _
theorem rowOf_at {n : Nat} {l : List Edge} {a : List Int} (hv : Vld n l) (ha : ∀ x ∈ a, 0 ≤ x ∧ x < l.length) {x j : Nat} (hj : j < (rowOf l a x).length) :
    ∃ k y U V ei : Nat, ∃ W : Int, St.v (rowOf l a x) j = k ∧ k < a.length ∧ Hp.Jn (a.map (Hp.ends l)) k x y ∧ St.v a k = ei ∧ ei < l.length ∧ l.getD ei edge0 = ⟨U, V, W⟩ ∧ (U : Int) + V - x = y ∧ U < n ∧ V < n ∧ y < n := by
  have hjl : j < (Hp.inc (a.map (Hp.ends l)) x a.length).length := by unfold rowOf at hj; rwa [List.length_map] at hj
  obtain ⟨k, hk⟩ : ∃ k, k = (Hp.inc (a.map (Hp.ends l)) x a.length)[j] := ⟨_, rfl⟩
  have hm : k ∈ Hp.inc (a.map (Hp.ends l)) x (a.map (Hp.ends l)).length := by rw [hk, List.length_map]; exact List.getElem_mem hjl
  obtain ⟨y, hy⟩ := Hp.mem_inc.1 hm
  have hkl : k < a.length := by have := hy.lt; rwa [List.length_map] at this
  have hr := ha _ (List.getElem_mem hkl)
  obtain ⟨ei, hei⟩ := Int.eq_ofNat_of_zero_le hr.1
  have heil : ei < l.length := by omega
  have hvl := hv _ (List.getElem_mem heil)
  rw [← show l.getD ei edge0 = l[ei] by simp [List.getD_eq_getElem?_getD, heil]] at hvl
  have hF : (a.map (Hp.ends l))[k]? = some (eU l ei, eV l ei) := by
    rw [List.getElem?_map, List.getElem?_eq_getElem hkl, hei]; rfl
  have hen := hy.ends hF
  obtain ⟨U, hU⟩ := Int.eq_ofNat_of_zero_le hvl.1
  obtain ⟨V, hV⟩ := Int.eq_ofNat_of_zero_le hvl.2.2.1
  have heU : eU l ei = U := by unfold eU; rw [Int.toNat_natCast, hU]; rfl
  have heV : eV l ei = V := by unfold eV; rw [Int.toNat_natCast, hV]; rfl
  rw [heU, heV] at hen
  refine ⟨k, y, U, V, ei, (l.getD ei edge0).W, ?_, hkl, hy, ?_, heil, ?_, by omega, by omega, by omega, by omega⟩
  · rw [show St.v (rowOf l a x) j = (rowOf l a x)[j] from St.getD_at hj, hk]
    simp [rowOf]
  · rw [← hei]; exact St.getD_at hkl
  · rw [← show (l.getD ei edge0).U = U from hU, ← show (l.getD ei edge0).V = V from hV]
theorem rowOf_all {l : List Edge} {a : List Int} {x k y : Nat} (h : Hp.Jn (a.map (Hp.ends l)) k x y) : ∃ j, j < (rowOf l a x).length ∧ St.v (rowOf l a x) j = k := by
  have hm := Hp.mem_inc.2 ⟨y, h⟩
  rw [List.length_map] at hm
  obtain ⟨j, hj, e⟩ := List.getElem_of_mem hm
  have hj2 : j < (rowOf l a x).length := by unfold rowOf; rw [List.length_map]; exact hj
  refine ⟨j, hj2, ?_⟩
  rw [show St.v (rowOf l a x) j = (rowOf l a x)[j] from St.getD_at hj2]
  simp [rowOf, e]

abbrev findF (pv pa pl pf pc : Nat) : Value := .func (.func 69) #[] #[.pointer (some ⟨pv, 0, none⟩), .pointer (some ⟨pa, 0, none⟩), .pointer (some ⟨pl, 0, none⟩), .pointer (some ⟨pf, 0, none⟩), .pointer (some ⟨pc, 0, none⟩)]
/-- What the search reads. -/
structure FS (n : Nat) (l : List Edge) (a : List Int) (v pv pa pl pf pc g : Nat) (A B : Option Addr) (c cb : Nat) (w : World) : Prop where
  bv : w.cell? ⟨pv, 0, none⟩ = some (.int .i64 v)
  ba : w.cell? ⟨pa, 0, none⟩ = some (.slice (some ⟨g, 0, none⟩) n n)
  bl : w.cell? ⟨pl, 0, none⟩ = some (.slice A l.length c)
  bf : w.cell? ⟨pf, 0, none⟩ = some (.slice B a.length cb)
  bc : w.cell? ⟨pc, 0, none⟩ = some (findF pv pa pl pf pc)
  hE : Edges A l w
  hF : IntsR B a w
  rows : ∀ x, x < n → ∃ C cc, w.cell? ⟨g, x, none⟩ = some (.slice C (rowOf l a x).length cc) ∧ IntsR C (rowOf l a x) w
theorem FS.on {n : Nat} {l : List Edge} {a : List Int} {v pv pa pl pf pc g : Nat} {A B : Option Addr} {c cb : Nat} {w w' : World} (h : FS n l a v pv pa pl pf pc g A B c cb w) (hb : Below w.heap.size w w') : FS n l a v pv pa pl pf pc g A B c cb w' := by
  have m : ∀ {p : Addr} {u : Value}, w.cell? p = some u → w'.cell? p = some u := fun {p u} h => (hb.cell (World.block_lt_of_cell? w _ h)).trans h
  refine ⟨m h.bv, m h.ba, m h.bl, m h.bf, m h.bc, h.hE.on hb, h.hF.on hb, fun x hx => ?_⟩
  obtain ⟨C, cc, h1, h2⟩ := h.rows x hx
  exact ⟨C, cc, m h1, h2.on hb⟩

set_option maxRecDepth 1000000 in
set_option maxHeartbeats 4000000 in
theorem find_any {n : Nat} {l : List Edge} {a : List Int} {v pv pa pl pf pc g : Nat} {A B : Option Addr} {c cb : Nat} (hvl : Vld n l) (hn : n ≤ 1000000) (hl : l.length ≤ 1000000) (hal : a.length ≤ 1000000) (ha : ∀ x ∈ a, 0 ≤ x ∧ x < l.length) (hs : Hp.Seq (a.map (Hp.ends l))) :
    ∀ (m : Nat) (S : List Nat) (at' : Nat) (e last : Int) (w : World), S.length < m → (∀ z, Hp.Conn (a.map (Hp.ends l)) (Hp.But e) at' z → z ∈ S) → (∀ j : Nat, e = j → ∀ x y, Hp.Jn (a.map (Hp.ends l)) j x y → x = at' ∨ y = at') → at' < n → -1 ≤ last → last ≤ 1000000 → FS n l a v pv pa pl pf pc g A B c cb w →
    Calls Try.prog 69 #[.int .i64 at', .int .i64 e, .int .i64 last, .pointer (some ⟨pv, 0, none⟩), .pointer (some ⟨pa, 0, none⟩), .pointer (some ⟨pl, 0, none⟩), .pointer (some ⟨pf, 0, none⟩), .pointer (some ⟨pc, 0, none⟩)] w fun e' w' => (∃ r, e' = .returned (.int .i64 r) ∧ Hp.FindR (a.map (Hp.ends l)) e at' v last r) ∧ Below w.heap.size w w' := by
  intro m
  induction m with
  | zero => intro S at' e last w hm; omega
  | succ m ih =>
    intro S at' e last w hm hS he hat hlo hhi hfs
    have HIH := Lib.hid ih; have HVL := Lib.hid hvl; have HA := Lib.hid ha; have HSQ := Lib.hid hs; have HS := Lib.hid hS; have HEE := Lib.hid he; have HFS := Lib.hid hfs
    clear ih hvl ha hs hS he hfs
    by_cases hav : at' = v
    · subst hav
      have c0 := HFS.out.bv
      go_enter Try.func69, Try.ntmps69
      go_wp2_with fail
      go_ret
      exact ⟨⟨last, rfl, Hp.FindR.here hlo⟩, Below.refl _ _⟩
    · have hbe : (((at' : Nat) : Int) == (v : Int)) = false := by
        refine beq_eq_false_iff_ne.2 fun e' => hav ?_
        omega
      have HAV := Lib.hid hav
      obtain ⟨C, cc, hrc, hri⟩ := HFS.out.rows at' hat
      have c0 := HFS.out.bv
      have c1 := HFS.out.ba
      have at1 : (at' : Int) < n := by omega
      have n1 : (n : Int) ≤ 1000000 := by omega
      have l1 : (l.length : Int) ≤ 1000000 := by omega
      have al1 : (a.length : Int) ≤ 1000000 := by omega
      have HRI := Lib.hid hri
      have HRA : Hid (∀ j, j < (rowOf l a at').length → _) := Lib.hid (fun j (hj : j < (rowOf l a at').length) => rowOf_at HVL.out HA.out hj)
      have HRB : Hid (∀ k y, Hp.Jn (a.map (Hp.ends l)) k at' y → ∃ j, j < (rowOf l a at').length ∧ St.v (rowOf l a at') j = (k : Int)) := Lib.hid (fun k y h => rowOf_all h)
      have hrl := rowOf_len l a at'
      generalize rowOf l a at' = R at *
      clear hri hav
      have rl1 : (R.length : Int) ≤ 1000000 := by omega
      go_enter Try.func69, Try.ntmps69
      go_wp2_with fail
      go_loopw [25] (fun x wr => ∃ j : Nat, j ≤ R.length ∧ x = .int .i64 j ∧ Hid (∀ i, i < j → ∀ k y : Nat, St.v R i = k → (k : Int) ≠ e → Hp.Jn (a.map (Hp.ends l)) k at' y → ¬ Hp.Conn (a.map (Hp.ends l)) (Hp.But k) y v) ∧ Below w.heap.size w wr) (fun x _ => R.length - (intOf x).toNat)
      case atStart => exact ⟨0, by omega, rfl, Lib.hid (fun i hi => by omega), Below.refl _ _⟩
      case round =>
        obtain ⟨j, hj, rfl, hI, hb⟩ := hrel
        by_cases hlt : j < R.length
        · have hlt1 : (j : Int) < R.length := by omega
          obtain ⟨k, y, U, V, ei, W, hk, hka, hjn, hae, heil, hle, hoth, hU, hV, hy⟩ := HRA.out j hlt
          obtain ⟨b3, o3, rfl, hc3⟩ := HRI.out (by omega)
          have hfs := HFS.out.on hb
          have k3 := (hb.cell (p := ⟨b3, o3 + j, none⟩) (World.block_lt_of_cell? w _ (hc3 j hlt))).trans (hc3 j hlt)
          rw [hk] at k3
          have s5 := hfs.bl
          have s6 := hfs.bf
          have s7 := hfs.bc
          obtain ⟨b, o, rfl, hc⟩ := hfs.hE (by omega)
          obtain ⟨b2, o2, rfl, hc2⟩ := hfs.hF (by omega)
          have k1 := hc2 k hka
          rw [hae] at k1
          obtain ⟨ku, kv, kw⟩ := hc ei heil
          rw [hle] at ku kv kw
          have k1a : (k : Int) < a.length := by omega
          have ei1 : (ei : Int) < l.length := by omega
          have U1 : (U : Int) < n := by omega
          have V1 : (V : Int) < n := by omega
          have q1 : pl < wr.heap.size := World.block_lt_of_cell? wr _ s5
          have q2 : pf < wr.heap.size := World.block_lt_of_cell? wr _ s6
          have q3 : b < wr.heap.size := World.block_lt_of_cell? wr _ ku
          have q4 : b2 < wr.heap.size := World.block_lt_of_cell? wr _ k1
          have q5 : pc < wr.heap.size := World.block_lt_of_cell? wr _ s7
          have HFS2 := Lib.hid hfs; have HB := Lib.hid hb; have HK := Lib.hid hk; have HJN := Lib.hid hjn; have HOTH := Lib.hid hoth
          clear hfs hb hk hjn hc hc2 hc3 hae hle
          by_cases hke : (k : Int) = e
          · subst hke
            go_wp2_with fail
            go_region
            go_wp2_with fail
            go_roundw
            case rel =>
              refine ⟨j + 1, by omega, by go_num, Lib.hid fun i hi k' y' h1 h2 h3 => ?_, (HB.out.alloc HB.out.size _).drew⟩
              by_cases e' : i = j
              · subst e'
                exact absurd (h1.symm.trans HK.out) h2
              · exact hI.out i (by omega) k' y' h1 h2 h3
            case measure => simp [intOf]; omega
          · have hbk : ((k : Int) == e) = false := beq_eq_false_iff_ne.2 hke
            have hrl := Hp.reach_less HSQ.out HJN.out hke HEE.out HS.out
            have HRL := Lib.hid hrl; have HKE := Lib.hid hke
            have k1m : (k : Int) ≤ 1000000 := by omega
            clear hrl hke
            go_wp2_with fail
            go_region
            go_wp2_with fail
            refine (HIH.out _ y k (mxI last k) _ (Nat.lt_of_lt_of_le HRL.out.1 (Nat.le_of_lt_succ hm)) HRL.out.2 ?he hy ?hlo ?hhi (HFS2.out.on ((Below.refl _ _).alloc (Nat.le_refl _) _).drew)).mono ?_
            case he =>
              intro j' e' x' y' h'
              obtain rfl : k = j' := by omega
              exact HJN.out.both h'
            case hlo => rw [mxI_max]; omega
            case hhi => rw [mxI_max]; omega
            rintro e1 w1 ⟨⟨r, rfl, hf⟩, hb1⟩
            refine Hid.out ?_
            rw [mxI_max] at hf
            have HB1 : Hid (Below w.heap.size w w1) := Lib.hid ((HB.out.alloc HB.out.size _).drew.trans (hb1.mono (by have := HB.out.size; simp; omega)))
            have HF := Lib.hid hf
            clear hf hb1 k3 s5 s6 s7 k1 ku kv kw q1 q2 q3 q4 q5
            refine Lib.hid ?_
            by_cases hr : 0 ≤ r
            · go_wp2_with fail
              go_ret
              exact ⟨⟨r, rfl, HF.out.hit HSQ.out HJN.out HKE.out HEE.out hr⟩, HB1.out⟩
            · go_wp2_with fail
              go_roundw
              case rel =>
                refine ⟨j + 1, by omega, by go_num, Lib.hid fun i hi k' y' h1 h2 h3 => ?_, HB1.out⟩
                by_cases e' : i = j
                · subst e'
                  obtain rfl : k = k' := by have := HK.out.symm.trans h1; omega
                  obtain rfl := HJN.out.uniq h3
                  exact HF.out.miss (by omega) (by omega)
                · exact hI.out i (by omega) k' y' h1 h2 h3
              case measure => simp [intOf]; omega
        · have hjj : j = R.length := by omega
          subst hjj
          have HB := Lib.hid hb
          have HN : Hid (Hp.FindR (a.map (Hp.ends l)) e at' v last (-1)) := Lib.hid (Hp.FindR.none HAV.out fun k y h1 h2 => by
            obtain ⟨j, h3, h4⟩ := HRB.out k y h2
            exact hI.out j h3 k y h4 h1 h2)
          clear hb hI
          go_wp2_with fail
          go_ret
          exact ⟨⟨-1, rfl, HN.out⟩, HB.out⟩
end Go.Proofs.Ytobaodkcjjgkdaa
namespace Go.Proofs.Ytobaodkcjjgkdaa
open Go Go.RowKit

def nilS : Value := .slice none 0 0
def vAt (vs : List Value) (x : Nat) : Value := vs.getD x nilS
theorem vAt_set (vs : List Value) (x y : Nat) (v : Value) (hx : x < vs.length) : vAt (vs.set x v) y = if y = x then v else vAt vs y := by
  unfold vAt
  rw [List.getD_eq_getElem?_getD, List.getD_eq_getElem?_getD, List.getElem?_set]
  by_cases h : y = x
  · subst h; simp [hx]
  · rw [if_neg h, if_neg (fun e => h e.symm)]
theorem own_kept {w w' : World} {B : Nat} {e : TypeId} {s n : Nat} {v : Value} {xs : List Value} (h : w.ownsRow B e s v n xs) (hk : ∀ k, v.ownBlock = some k → w'.heap[k]? = w.heap[k]?) : w'.ownsRow B e s v n xs := by
  refine ⟨h.1, ?_⟩
  rcases h.2 with h | ⟨g, cap, cur, h1', hg, hh, r⟩
  · exact .inl h
  · refine .inr ⟨g, cap, cur, h1', hg, (hk g ?_).trans hh, r⟩
    rw [h1']; simp [Value.ownBlock]
/-- Rows of numbers in memory; each has a block of its own. -/
structure AR (n B0 pa g : Nat) (rs : Nat → List Int) (vs : List Value) (w : World) : Prop where
  ba : w.heap[pa]? = some (.cells #[.slice (some ⟨g, 0, none⟩) n n] 59 (0, 0))
  bg : w.heap[g]? = some (.cells vs.toArray 24 (0, 0))
  vl : vs.length = n
  ow : ∀ x, x < n → w.ownsRow B0 3 1 (vAt vs x) (rs x).length (nums (rs x))
  ap : ∀ x y, x < n → y < n → x ≠ y → (vAt vs x).ownBlock = none ∨ (vAt vs x).ownBlock ≠ (vAt vs y).ownBlock
  lo : pa < B0 ∧ g < B0 ∧ pa ≠ g
theorem AR.on {n B0 pa g : Nat} {rs : Nat → List Int} {vs : List Value} {w w' : World} (h : AR n B0 pa g rs vs w) (hb : Below w.heap.size w w') : AR n B0 pa g rs vs w' :=
  ⟨(hb.block _ (block_lt h.ba)).trans h.ba, (hb.block _ (block_lt h.bg)).trans h.bg, h.vl, fun x hx => own_kept (h.ow x hx) (fun k hk => hb.block _ (own_ge (h.ow x hx) k hk).2), h.ap, h.lo⟩
theorem AR.congr {n B0 pa g : Nat} {rs rs' : Nat → List Int} {vs : List Value} {w : World} (h : AR n B0 pa g rs vs w) (he : ∀ x, x < n → rs' x = rs x) : AR n B0 pa g rs' vs w :=
  ⟨h.ba, h.bg, h.vl, fun x hx => by rw [he x hx]; exact h.ow x hx, h.ap, h.lo⟩
theorem AR.cell {n B0 pa g : Nat} {rs : Nat → List Int} {vs : List Value} {w : World} (h : AR n B0 pa g rs vs w) {x : Nat} (hx : x < n) : w.cell? ⟨g, x, none⟩ = some (vAt vs x) := by
  rw [cells_of_block h.bg]
  have := h.vl
  simp [vAt, List.getD_eq_getElem?_getD, show x < vs.length by omega]
theorem AR.step {n B0 pa g : Nat} {rs : Nat → List Int} {vs : List Value} {w w1 : World} (h : AR n B0 pa g rs vs w) {x : Nat} (hx : x < n) {k : Int} {v' : Value} {H : Nat} (hH : w.heap.size = H) (hg : w.grownBy w1 (vAt vs x).ownBlock) (ho : w1.ownsRow B0 3 1 v' ((rs x).length + 1) (nums (rs x) ++ [.int .i64 k])) (hat : v'.ownBlock = (vAt vs x).ownBlock ∨ v'.ownBlock = some H) :
    AR n B0 pa g (fun y => if y = x then rs x ++ [k] else rs y) (vs.set x v') (w1.setCell ⟨g, x, none⟩ v') := by
  have hl : x < vs.length := by rw [h.vl]; exact hx
  have far : ∀ q, q < B0 → q < w.heap.size → w1.heap[q]? = w.heap[q]? := fun q hq hq2 => hg.block q hq2 fun e => by
    have := (own_ge (h.ow x hx) q e.symm).1
    omega
  have hpa := block_lt h.ba
  have hgl := block_lt h.bg
  obtain ⟨l1, l2, l3⟩ := h.lo
  have set1 : ∀ q, B0 ≤ q → (w1.setCell ⟨g, x, none⟩ v').heap[q]? = w1.heap[q]? := fun q hq => Below.heap_setCell _ _ _ _ (by show q ≠ g; omega)
  refine ⟨(Below.heap_setCell _ _ _ _ (by show pa ≠ g; exact l3)).trans ((far pa l1 hpa).trans h.ba), ?_, by rw [List.length_set]; exact h.vl, fun y hy => ?_, fun y z hy hz hyz => ?_, h.lo⟩
  · refine (set_same ((far g l2 hgl).trans h.bg)).trans ?_
    simp
  · rw [vAt_set _ _ _ _ hl]
    by_cases e : y = x
    · subst e
      rw [if_pos rfl, if_pos rfl, List.length_append, nums_snoc]
      exact own_kept ho fun q hq => set1 q (own_ge ho q hq).1
    · rw [if_neg e, if_neg e]
      have hoy := h.ow y hy
      refine own_kept hoy fun q hq => (set1 q (own_ge hoy q hq).1).trans (hg.block q (own_ge hoy q hq).2 fun e2 => ?_)
      rcases h.ap y x hy hx e with h1 | h1
      · rw [h1] at hq; cases hq
      · exact h1 (hq.trans e2)
  · rw [vAt_set _ _ _ _ hl, vAt_set _ _ _ _ hl]
    have fresh : ∀ u, u < n → u ≠ x → (v'.ownBlock = none ∨ v'.ownBlock ≠ (vAt vs u).ownBlock) := fun u hu hux => by
      rcases hat with e | e
      · rw [e]
        exact nsym (h.ap u x hu hx hux)
      · refine .inr fun e2 => ?_
        rw [e] at e2
        have := (own_ge (h.ow u hu) H e2.symm).2
        omega
    by_cases e1 : y = x
    · rw [if_pos e1, if_neg (by omega)]
      exact fresh z hz (by omega)
    · rw [if_neg e1]
      by_cases e2 : z = x
      · rw [if_pos e2]
        exact nsym (fresh y hy e1)
      · rw [if_neg e2]
        exact h.ap y z hy hz hyz
theorem AR.read {n B0 pa g : Nat} {rs : Nat → List Int} {vs : List Value} {w : World} (h : AR n B0 pa g rs vs w) {x : Nat} (hx : x < n) : ∃ C cc, w.cell? ⟨g, x, none⟩ = some (.slice C (rs x).length cc) ∧ IntsR C (rs x) w := by
  have ho := h.ow x hx
  have hc := h.cell hx
  rcases ho.2 with ⟨e, hn⟩ | ⟨q, cap, cur, e, -, -, hle, -, -⟩
  · refine ⟨none, 0, ?_, fun h0 => by omega⟩
    rw [hc, e, hn]
  · refine ⟨some ⟨q, 0, none⟩, cap, by rw [hc, e], fun _ => ⟨q, 0, rfl, fun j hj => ?_⟩⟩
    have := ho.cells (g := q) (by rw [e]; rfl) j (.int .i64 (St.v (rs x) j)) (by simp [nums, St.v, List.getD_eq_getElem?_getD, hj])
    rw [Nat.zero_add]
    unfold Addr.add at this
    split at this
    · rename_i e; subst e; exact this
    · simpa using this
theorem info_slint : (Try.prog.info? 24).map (fun i => (i.zero, i.size, i.bytes)) = some (some nilS, 1, 24) := by kernel_rfl
theorem mk_rows (n : Nat) (hn : n ≤ 1000000) (W : World) : (Instr.makeSlice 59 (.int .i64 (n : Int)) (.int .i64 (n : Int))).run Try.prog W = .ok (.slice (some ⟨W.heap.size, 0, none⟩) n n) (W.alloc (.cells (Array.replicate n nilS) 24)) := by
  obtain ⟨i0, hi, hz0, hz1, hz2⟩ := info_parts info_slint
  have h := run_make (P := Try.prog) W 59 24 i0 nilS Try.underlying59 hi hz0 .i64 .i64 n n (by omega) (by omega) (by rw [hz2]; omega) (by omega)
  have e : madeCells nilS.cells (n * i0.size) = Array.replicate n nilS := by
    rw [hz1, Nat.mul_one]
    apply Array.ext'
    have : nilS.cells = #[nilS] := rfl
    rw [this, toList_madeCells_one, Array.toList_replicate]
  simp only [Int.toNat_natCast] at h
  rw [h, e]
theorem AR.start {n B0 pa g : Nat} {w : World} (h1 : w.heap[pa]? = some (.cells #[.slice (some ⟨g, 0, none⟩) n n] 59 (0, 0))) (h2 : w.heap[g]? = some (.cells (Array.replicate n nilS) 24 (0, 0))) (lo : pa < B0 ∧ g < B0 ∧ pa ≠ g) : AR n B0 pa g (fun _ => []) (List.replicate n nilS) w := by
  have e : ∀ x, x < n → vAt (List.replicate n nilS) x = nilS := fun x hx => by simp [vAt, List.getD_eq_getElem?_getD, hx]
  refine ⟨h1, by rw [h2, List.toArray_replicate], List.length_replicate, fun x hx => ?_, fun x y hx hy _ => .inl (by rw [e x hx]; rfl), lo⟩
  rw [e x hx]
  exact ⟨rfl, .inl ⟨rfl, rfl⟩⟩
theorem five_new (w : World) (o0 o1 o2 o3 o4 : Obj) (W : World) (hW : W = ((((w.alloc o0).alloc o1).alloc o2).alloc o3).alloc o4) :
    W.heap[w.heap.size]? = some o0 ∧ W.heap[w.heap.size + 1]? = some o1 ∧ W.heap[w.heap.size + 1 + 1]? = some o2 ∧ W.heap[w.heap.size + 1 + 1 + 1]? = some o3 ∧ W.heap[w.heap.size + 1 + 1 + 1 + 1]? = some o4 ∧ W.heap.size = w.heap.size + 1 + 1 + 1 + 1 + 1 ∧ Below w.heap.size w W := by
  subst hW
  have e : ∀ (w : World) (o : Obj) (n : Nat), n < w.heap.size → (w.alloc o).heap[n]? = w.heap[n]? := fun w o n h => Below.heap_alloc w o n h
  refine ⟨?_, ?_, ?_, ?_, block_new _ _ _ (by simp), by simp, ((((((Below.refl _ _).alloc (Nat.le_refl _) _).alloc ?_ _).alloc ?_ _).alloc ?_ _).alloc ?_ _)⟩
  · rw [e _ _ _ (by simp <;> omega), e _ _ _ (by simp <;> omega), e _ _ _ (by simp <;> omega), e _ _ _ (by simp)]
    exact block_new _ _ _ rfl
  · rw [e _ _ _ (by simp <;> omega), e _ _ _ (by simp <;> omega), e _ _ _ (by simp)]
    exact block_new _ _ _ (by simp)
  · rw [e _ _ _ (by simp <;> omega), e _ _ _ (by simp)]
    exact block_new _ _ _ (by simp)
  · rw [e _ _ _ (by simp)]
    exact block_new _ _ _ (by simp)
  all_goals (simp <;> omega)
end Go.Proofs.Ytobaodkcjjgkdaa
