/- dsu.New, walked. accept, walked. checked.Sum, walked. slices.Clone, walked. Half-edges, counted: in plain Lean. graph.build's memory, and its closure, walked. -/
import Derived.Test.YtobaodkcjjgkdaaMa1
import Derived.Maps.AppendAt
import Derived.Laws.Externs
import Derived.Shelf.Slices.Clone
namespace Go.Proofs.Ytobaodkcjjgkdaa
open Go Go.RowKit

theorem own_ge {w : World} {base : Nat} {e : TypeId} {size n : Nat} {v : Value} {xs : List Value} (h : w.ownsRow base e size v n xs) (k : Nat) (hk : v.ownBlock = some k) : base ≤ k ∧ k < w.heap.size := by
  rcases h.2 with ⟨rfl, _⟩ | ⟨g, cap, cur, rfl, hb, hh, _⟩
  · simp [Value.ownBlock] at hk
  · have : g = k := by simpa [Value.ownBlock] using hk
    subst this
    exact ⟨hb, block_lt hh⟩
theorem own_set {w : World} {sp n i : Nat} {v u : Value} {xs : List Value} (h : w.ownsRow (sp + 1) 3 1 v n xs) : (w.setCell ⟨sp, i, none⟩ u).ownsRow (sp + 1) 3 1 v n xs :=
  h.kept (row := some sp) (only_setCell (World.grownBy.refl _ _) (.inl rfl) _) (by
    cases hv : v.ownBlock with
    | none => exact .inl rfl
    | some k => exact .inr fun e => by injection e with e; have := (own_ge h k hv).1; omega)
theorem own_base0 {w : World} {base : Nat} {e : TypeId} {size n : Nat} {v : Value} {xs : List Value} (h : w.ownsRow base e size v n xs) : w.ownsRow 0 e size v n xs := by
  refine ⟨h.1, ?_⟩
  rcases h.2 with h | ⟨g, cap, cur, h1, _, h2⟩
  · exact .inl h
  · exact .inr ⟨g, cap, cur, h1, Nat.zero_le _, h2⟩
/-- Sets that are being made. -/
structure NS (sp n : Nat) (vu vs vl : Value) (us ss ls : List Int) (w : World) : Prop where
  sb : w.heap[sp]? = some (.cells #[.bool true, vu, vs, vl, .int .i64 n] 119 (0, 0))
  ou : w.ownsRow (sp + 1) 3 1 vu us.length (nums us)
  os : w.ownsRow (sp + 1) 3 1 vs ss.length (nums ss)
  ol : w.ownsRow (sp + 1) 3 1 vl ls.length (nums ls)
  dus : vu.ownBlock = none ∨ vu.ownBlock ≠ vs.ownBlock
  dul : vu.ownBlock = none ∨ vu.ownBlock ≠ vl.ownBlock
  dsl : vs.ownBlock = none ∨ vs.ownBlock ≠ vl.ownBlock
theorem NS.alloc {sp n : Nat} {vu vs vl : Value} {us ss ls : List Int} {w : World} (h : NS sp n vu vs vl us ss ls w) (o : Obj) : NS sp n vu vs vl us ss ls (w.alloc o) :=
  ⟨(Below.heap_alloc w o _ (block_lt h.sb)).trans h.sb, h.ou.alloc o, h.os.alloc o, h.ol.alloc o, h.dus, h.dul, h.dsl⟩
theorem NS.cells {sp n : Nat} {vu vs vl : Value} {us ss ls : List Int} {w : World} (h : NS sp n vu vs vl us ss ls w) : w.cell? ⟨sp, 1, none⟩ = some vu ∧ w.cell? ⟨sp, 2, none⟩ = some vs ∧ w.cell? ⟨sp, 3, none⟩ = some vl :=
  ⟨cells_of_block h.sb 1, cells_of_block h.sb 2, cells_of_block h.sb 3⟩
theorem nsym {a b : Option Nat} (h : a = none ∨ a ≠ b) : b = none ∨ b ≠ a := by
  cases b with
  | none => exact .inl rfl
  | some k => exact .inr fun e => by rcases h with h | h; rw [h] at e; cases e; exact h e.symm
/-- A row that has grown is still none of another's. -/
theorem napart {w : World} {sp n m : Nat} {v v' u : Value} {xs : List Value} (hu : w.ownsRow (sp + 1) 3 1 u m xs) (h : v.ownBlock = none ∨ v.ownBlock ≠ u.ownBlock) (hat : v'.ownBlock = v.ownBlock ∨ v'.ownBlock = some n) (hn : w.heap.size ≤ n) : v'.ownBlock = none ∨ v'.ownBlock ≠ u.ownBlock := by
  rcases hat with e | e
  · rw [e]; exact h
  · refine .inr fun e2 => ?_
    rw [e] at e2
    have := (own_ge hu n e2.symm).2
    omega
theorem nhead {w w' : World} {sp n : Nat} {v : Value} {xs : List Value} {o : Obj} (h : w.ownsRow (sp + 1) 3 1 v n xs) (hg : w.grownBy w' v.ownBlock) (hs : w.heap[sp]? = some o) : w'.heap[sp]? = some o :=
  (hg.block sp (block_lt hs) (fun e => by have := (own_ge h sp e.symm).1; omega)).trans hs
theorem NS.putU {sp n : Nat} {vu vs vl v' : Value} {us ss ls : List Int} {x : Int} {w w' : World} (h : NS sp n vu vs vl us ss ls w) (ho : w'.ownsRow (sp + 1) 3 1 v' (us.length + 1) (nums us ++ [.int .i64 x])) (hg : w.grownBy w' vu.ownBlock) (hat : v'.ownBlock = vu.ownBlock ∨ v'.ownBlock = some w.heap.size) :
    NS sp n v' vs vl (us ++ [x]) ss ls (w'.setCell ⟨sp, 1, none⟩ v') :=
  ⟨(set_same (nhead h.ou hg h.sb)).trans (by rfl), by rw [List.length_append, show nums (us ++ [x]) = nums us ++ [.int .i64 x] by simp [nums]]; exact own_set ho, own_set (h.os.kept hg (nsym h.dus)), own_set (h.ol.kept hg (nsym h.dul)), napart h.os h.dus hat (Nat.le_refl _), napart h.ol h.dul hat (Nat.le_refl _), h.dsl⟩
theorem NS.putS {sp n : Nat} {vu vs vl v' : Value} {us ss ls : List Int} {x : Int} {w w' : World} (h : NS sp n vu vs vl us ss ls w) (ho : w'.ownsRow (sp + 1) 3 1 v' (ss.length + 1) (nums ss ++ [.int .i64 x])) (hg : w.grownBy w' vs.ownBlock) (hat : v'.ownBlock = vs.ownBlock ∨ v'.ownBlock = some w.heap.size) :
    NS sp n vu v' vl us (ss ++ [x]) ls (w'.setCell ⟨sp, 2, none⟩ v') :=
  ⟨(set_same (nhead h.os hg h.sb)).trans (by rfl), own_set (h.ou.kept hg (h.dus)), by rw [List.length_append, show nums (ss ++ [x]) = nums ss ++ [.int .i64 x] by simp [nums]]; exact own_set ho, own_set (h.ol.kept hg (nsym h.dsl)), nsym (napart h.ou (nsym h.dus) hat (Nat.le_refl _)), h.dul, napart h.ol h.dsl hat (Nat.le_refl _)⟩
theorem NS.putL {sp n : Nat} {vu vs vl v' : Value} {us ss ls : List Int} {x : Int} {w w' : World} (h : NS sp n vu vs vl us ss ls w) (ho : w'.ownsRow (sp + 1) 3 1 v' (ls.length + 1) (nums ls ++ [.int .i64 x])) (hg : w.grownBy w' vl.ownBlock) (hat : v'.ownBlock = vl.ownBlock ∨ v'.ownBlock = some w.heap.size) :
    NS sp n vu vs v' us ss (ls ++ [x]) (w'.setCell ⟨sp, 3, none⟩ v') :=
  ⟨(set_same (nhead h.ol hg h.sb)).trans (by rfl), own_set (h.ou.kept hg (h.dul)), own_set (h.os.kept hg (h.dsl)), by rw [List.length_append, show nums (ls ++ [x]) = nums ls ++ [.int .i64 x] by simp [nums]]; exact own_set ho, h.dus, nsym (napart h.ou (nsym h.dul) hat (Nat.le_refl _)), nsym (napart h.os (nsym h.dsl) hat (Nat.le_refl _))⟩

theorem NS.ds {sp n : Nat} {vu vs vl : Value} {us ss ls : List Int} {w : World} (h : NS sp n vu vs vl us ss ls w) (h0 : 0 < n) (hu : us.length = n) (hs : ss.length = n) (hl : ls.length = n) : ∃ P : Pl, P.sp = sp ∧ sp < P.gu ∧ sp < P.gs ∧ sp < P.gl ∧ DS P n us ss ls n w := by
  obtain ⟨gu, cu, rfl, b1, -⟩ := h.ou.form (by omega)
  obtain ⟨gs, cs, rfl, b2, -⟩ := h.os.form (by omega)
  obtain ⟨gl, cl, rfl, b3, -⟩ := h.ol.form (by omega)
  have d1 := h.dus
  have d2 := h.dul
  have d3 := h.dsl
  simp [Value.ownBlock] at d1 d2 d3
  have sb := h.sb
  rw [hu, hs, hl] at sb
  exact ⟨⟨sp, gu, gs, gl, cu, cs, cl⟩, rfl, by show sp < gu; omega, by show sp < gs; omega, by show sp < gl; omega, sb, hu, hs, hl, ⟨own_base0 h.ou⟩, ⟨own_base0 h.os⟩, ⟨own_base0 h.ol⟩, d1, d2, d3, by show sp ≠ gu; omega, by show sp ≠ gs; omega, by show sp ≠ gl; omega⟩

theorem one_new (w : World) (x : Int) (t : TypeId) (j : Nat) (u : Value) (hu : [Value.int .i64 x][j]? = some u) : (w.alloc (.cells #[.int .i64 x] t)).cell? ((⟨w.heap.size, 0, none⟩ : Addr).add j) = some u := by
  cases j with
  | zero =>
    have : u = .int .i64 x := by simpa using hu.symm
    subst this
    exact cells_of_block (block_new w (.cells #[.int .i64 x] t) _ rfl) 0
  | succ j => simp at hu
theorem iota_succ (k : Nat) : Uf.iota (k + 1) = Uf.iota k ++ [(k : Int)] := by simp [Uf.iota, List.range_succ]
theorem iota_len (k : Nat) : (Uf.iota k).length = k := Uf.iota_length k

set_option maxRecDepth 1000000 in
set_option maxHeartbeats 8000000 in
theorem dnew_any (n : Nat) (hn : n ≤ 65536) (w : World) :
    Calls Try.prog 63 #[.int .i64 n] w fun e w' => ∃ sp, e = .returned (.tuple #[.pointer (some ⟨sp, 0, none⟩), .int .i64 0]) ∧ Below w.heap.size w w' ∧ w.heap.size ≤ sp ∧ (0 < n → ∃ P : Pl, P.sp = sp ∧ sp < P.gu ∧ sp < P.gs ∧ sp < P.gl ∧ Sets P n (Uf.iota n) w') := by
  have hn1 : (n : Int) ≤ 65536 := by omega
  have hn0 : (0 : Int) ≤ n := by omega
  obtain ⟨i0, hi, hz0, hz1, hz2⟩ := info_parts info_int
  have HN0 : Hid (NS w.heap.size n (.slice none 0 0) (.slice none 0 0) (.slice none 0 0) [] [] [] (w.alloc (.cells #[.bool true, .slice none 0 0, .slice none 0 0, .slice none 0 0, .int .i64 n] 119))) := Lib.hid
    ⟨block_new w _ _ rfl, ⟨rfl, .inl ⟨rfl, rfl⟩⟩, ⟨rfl, .inl ⟨rfl, rfl⟩⟩, ⟨rfl, .inl ⟨rfl, rfl⟩⟩, .inl rfl, .inl rfl, .inl rfl⟩
  have HB0 : Hid (Below w.heap.size w (w.alloc (.cells #[.bool true, .slice none 0 0, .slice none 0 0, .slice none 0 0, .int .i64 n] 119))) := Lib.hid ((Below.refl _ _).alloc (Nat.le_refl _) _)
  go_enter Try.func63, Try.ntmps63
  go_wp2
  go_loopw [16, 5] (fun i _ wr => ∃ k : Nat, k ≤ n ∧ i = .int .i64 k ∧ ∃ vu vs vl, NS w.heap.size n vu vs vl (Uf.iota k) (List.replicate k 1) (Uf.iota k) wr ∧ Below w.heap.size w wr) (fun i _ _ => n - (intOf i).toNat)
  case atStart => exact ⟨0, by omega, rfl, _, _, _, HN0.out, HB0.out⟩
  case round =>
    obtain ⟨k, hk, rfl, vu, vs, vl, hns, hb⟩ := hrel
    by_cases hlt : k < n
    · have hlt1 : (k : Int) < n := by omega
      obtain ⟨c1, c2, c3⟩ := hns.cells
      have hz := hb.size
      have HB := Lib.hid hb
      have hns1 := hns.alloc (.cells #[.int .i64 k] 3)
      have ho1 := hns1.ou
      rw [iota_len] at ho1
      have hnw1 : ∀ j u, [Value.int .i64 k][j]? = some u → ((wr).alloc (.cells #[.int .i64 k] 3)).cell? ((⟨wr.heap.size, 0, none⟩ : Addr).add j) = some u := fun j u hu => by simpa using one_new (wr) k 3 j u hu
      have hsz1 : w.heap.size + 1 ≤ ((wr).alloc (.cells #[.int .i64 k] 3)).heap.size := by have := block_lt hns1.sb; omega
      have hbb1 : Below w.heap.size w ((wr).alloc (.cells #[.int .i64 k] 3)) := hb.alloc hb.size _
      have HNS1 := Lib.hid hns1; have HBB1 := Lib.hid hbb1; have HO1 := Lib.hid ho1; have HNW1 := Lib.hid hnw1; have HSZ1 := Lib.hid hsz1
      clear hns1 hbb1 ho1 hnw1 hsz1 hns hb
      go_wp2_with (at_builtin; refine wpList_append_own_at _ rfl (.tmp 23) (.tmp 25) 24 rfl (w.heap.size + 1) 3 i0 (.int .i64 0) 1 8 Try.underlying24 hi hz0 hz1 hz2 rfl (by decide) _ _ _ rfl HO1.out ⟨wr.heap.size, 0, none⟩ 1 1 [.int .i64 k] rfl rfl HNW1.out (by simp [Value.oneCell']) (by show k + 1 ≤ 2 ^ 63 - 1; omega) (by omega) HSZ1.out ?_; intro v1 w1 hown1 hg1 _ hat1; refine Hid.out ?_)
      obtain ⟨ga1, ca1, rfl, -, -⟩ := hown1.form (by omega)
      have hq1 := HNS1.out.putU (by rw [iota_len]; exact hown1) hg1 hat1
      have hbl1 : Below w.heap.size w (w1.setCell ⟨w.heap.size, 1, none⟩ (.slice (some ⟨ga1, 0, none⟩) (k + 1) ca1)) := (HBB1.out.grown hg1 (by have := HSZ1.out; omega) (fun q hq => by have := (own_ge HNS1.out.ou q hq).1; omega)).setCell (by show w.heap.size ≤ w.heap.size; exact Nat.le_refl _) _
      have hs1 := nhead HNS1.out.ou hg1 HNS1.out.sb
      have cc1 := cells_of_block hs1 1
      have cd1 := cells_of_block hs1 2
      have ce1 := cells_of_block hs1 3
      have cf1 := frozen_of_block hs1 1
      have cl1 := block_lt hs1
      clear hs1 hown1 hg1 hat1 HNS1 HBB1 HO1 HNW1 HSZ1 c1 c2 c3 hz HB
      simp at cc1 cd1 ce1
      refine Lib.hid ?_
      have hns2 := hq1.alloc (.cells #[.int .i64 1] 3)
      have ho2 := hns2.os
      rw [List.length_replicate] at ho2
      have hnw2 : ∀ j u, [Value.int .i64 1][j]? = some u → ((w1.setCell ⟨w.heap.size, 1, none⟩ (.slice (some ⟨ga1, 0, none⟩) (k + 1) ca1)).alloc (.cells #[.int .i64 1] 3)).cell? ((⟨w1.heap.size, 0, none⟩ : Addr).add j) = some u := fun j u hu => by simpa using one_new (w1.setCell ⟨w.heap.size, 1, none⟩ (.slice (some ⟨ga1, 0, none⟩) (k + 1) ca1)) 1 3 j u hu
      have hsz2 : w.heap.size + 1 ≤ ((w1.setCell ⟨w.heap.size, 1, none⟩ (.slice (some ⟨ga1, 0, none⟩) (k + 1) ca1)).alloc (.cells #[.int .i64 1] 3)).heap.size := by have := block_lt hns2.sb; omega
      have hbb2 : Below w.heap.size w ((w1.setCell ⟨w.heap.size, 1, none⟩ (.slice (some ⟨ga1, 0, none⟩) (k + 1) ca1)).alloc (.cells #[.int .i64 1] 3)) := hbl1.alloc hbl1.size _
      have HNS2 := Lib.hid hns2; have HBB2 := Lib.hid hbb2; have HO2 := Lib.hid ho2; have HNW2 := Lib.hid hnw2; have HSZ2 := Lib.hid hsz2
      clear hns2 hbb2 ho2 hnw2 hsz2 hq1 hbl1
      go_wp2_with (at_builtin; refine wpList_append_own_at _ rfl (.tmp 33) (.tmp 34) 24 rfl (w.heap.size + 1) 3 i0 (.int .i64 0) 1 8 Try.underlying24 hi hz0 hz1 hz2 rfl (by decide) _ _ _ rfl HO2.out ⟨w1.heap.size, 0, none⟩ 1 1 [.int .i64 1] rfl rfl HNW2.out (by simp [Value.oneCell']) (by show k + 1 ≤ 2 ^ 63 - 1; omega) (by omega) HSZ2.out ?_; intro v2 w2 hown2 hg2 _ hat2; refine Hid.out ?_)
      obtain ⟨ga2, ca2, rfl, -, -⟩ := hown2.form (by omega)
      have hq2 := HNS2.out.putS (by rw [List.length_replicate]; exact hown2) hg2 hat2
      have hbl2 : Below w.heap.size w (w2.setCell ⟨w.heap.size, 2, none⟩ (.slice (some ⟨ga2, 0, none⟩) (k + 1) ca2)) := (HBB2.out.grown hg2 (by have := HSZ2.out; omega) (fun q hq => by have := (own_ge HNS2.out.os q hq).1; omega)).setCell (by show w.heap.size ≤ w.heap.size; exact Nat.le_refl _) _
      have hs2 := nhead HNS2.out.os hg2 HNS2.out.sb
      have cc2 := cells_of_block hs2 1
      have cd2 := cells_of_block hs2 2
      have ce2 := cells_of_block hs2 3
      have cf2 := frozen_of_block hs2 2
      have cl2 := block_lt hs2
      clear hs2 hown2 hg2 hat2 HNS2 HBB2 HO2 HNW2 HSZ2 cc1 cd1 ce1 cf1 cl1
      simp at cc2 cd2 ce2
      refine Lib.hid ?_
      have hns3 := hq2.alloc (.cells #[.int .i64 k] 3)
      have ho3 := hns3.ol
      rw [iota_len] at ho3
      have hnw3 : ∀ j u, [Value.int .i64 k][j]? = some u → ((w2.setCell ⟨w.heap.size, 2, none⟩ (.slice (some ⟨ga2, 0, none⟩) (k + 1) ca2)).alloc (.cells #[.int .i64 k] 3)).cell? ((⟨w2.heap.size, 0, none⟩ : Addr).add j) = some u := fun j u hu => by simpa using one_new (w2.setCell ⟨w.heap.size, 2, none⟩ (.slice (some ⟨ga2, 0, none⟩) (k + 1) ca2)) k 3 j u hu
      have hsz3 : w.heap.size + 1 ≤ ((w2.setCell ⟨w.heap.size, 2, none⟩ (.slice (some ⟨ga2, 0, none⟩) (k + 1) ca2)).alloc (.cells #[.int .i64 k] 3)).heap.size := by have := block_lt hns3.sb; omega
      have hbb3 : Below w.heap.size w ((w2.setCell ⟨w.heap.size, 2, none⟩ (.slice (some ⟨ga2, 0, none⟩) (k + 1) ca2)).alloc (.cells #[.int .i64 k] 3)) := hbl2.alloc hbl2.size _
      have HNS3 := Lib.hid hns3; have HBB3 := Lib.hid hbb3; have HO3 := Lib.hid ho3; have HNW3 := Lib.hid hnw3; have HSZ3 := Lib.hid hsz3
      clear hns3 hbb3 ho3 hnw3 hsz3 hq2 hbl2
      go_wp2_with (at_builtin; refine wpList_append_own_at _ rfl (.tmp 42) (.tmp 44) 24 rfl (w.heap.size + 1) 3 i0 (.int .i64 0) 1 8 Try.underlying24 hi hz0 hz1 hz2 rfl (by decide) _ _ _ rfl HO3.out ⟨w2.heap.size, 0, none⟩ 1 1 [.int .i64 k] rfl rfl HNW3.out (by simp [Value.oneCell']) (by show k + 1 ≤ 2 ^ 63 - 1; omega) (by omega) HSZ3.out ?_; intro v3 w3 hown3 hg3 _ hat3; refine Hid.out ?_)
      obtain ⟨ga3, ca3, rfl, -, -⟩ := hown3.form (by omega)
      have hq3 := HNS3.out.putL (by rw [iota_len]; exact hown3) hg3 hat3
      have hbl3 : Below w.heap.size w (w3.setCell ⟨w.heap.size, 3, none⟩ (.slice (some ⟨ga3, 0, none⟩) (k + 1) ca3)) := (HBB3.out.grown hg3 (by have := HSZ3.out; omega) (fun q hq => by have := (own_ge HNS3.out.ol q hq).1; omega)).setCell (by show w.heap.size ≤ w.heap.size; exact Nat.le_refl _) _
      have hs3 := nhead HNS3.out.ol hg3 HNS3.out.sb
      have cc3 := cells_of_block hs3 1
      have cd3 := cells_of_block hs3 2
      have ce3 := cells_of_block hs3 3
      have cf3 := frozen_of_block hs3 3
      have cl3 := block_lt hs3
      clear hs3 hown3 hg3 hat3 HNS3 HBB3 HO3 HNW3 HSZ3 cc2 cd2 ce2 cf2 cl2
      simp at cc3 cd3 ce3
      refine Lib.hid ?_
      have HQ := Lib.hid hq3; have HBL := Lib.hid hbl3
      clear hq3 hbl3
      go_wp2
      go_roundw
      case rel =>
        have hq := HQ.out
        rw [← iota_succ, ← List.replicate_succ'] at hq
        exact ⟨k + 1, by omega, by go_num, _, _, _, hq, HBL.out⟩
      case measure => simp [intOf]; omega
    · have hkn : k = n := by omega
      subst hkn
      have HNS := Lib.hid hns; have HB := Lib.hid hb
      clear hns hb
      go_wp2
      go_ret2
      refine ⟨w.heap.size, rfl, HB.out, Nat.le_refl _, fun h0 => ?_⟩
      obtain ⟨P, h1, h2, h3, h4, hds⟩ := HNS.out.ds h0 (iota_len _) (by simp) (iota_len _)
      exact ⟨P, h1, h2, h3, h4, _, _, _, _, _, _, _, hds, Uf.Ok.start _, Uf.Lab.start _⟩
end Go.Proofs.Ytobaodkcjjgkdaa
namespace Go.Proofs.Ytobaodkcjjgkdaa
open Go Go.RowKit

theorem Ch.cell {P : Pl} {w w' : World} (h : Ch P w w') {b : Nat} (hlt : b < w.heap.size) (h1 : b < P.sp) (h2 : P.sp < P.gu) (h3 : P.sp < P.gs) (h4 : P.sp < P.gl) (i : Nat) : w'.cell? ⟨b, i, none⟩ = w.cell? ⟨b, i, none⟩ :=
  World.cell?_of_block (h.block b hlt (by omega) (by omega) (by omega) (by omega))
theorem hb_le {B : Nat} {w w' : World} (h : Below B w w') : w.heap.size ≤ w'.heap.size := h.size
theorem own_low {w : World} {B B' : Nat} {e : TypeId} {size n : Nat} {v : Value} {xs : List Value} (h : w.ownsRow B e size v n xs) (hB : B' ≤ B) : w.ownsRow B' e size v n xs := by
  refine ⟨h.1, ?_⟩
  rcases h.2 with h | ⟨g, cap, cur, h1, h2, h3⟩
  · exact .inl h
  · exact .inr ⟨g, cap, cur, h1, Nat.le_trans hB h2, h3⟩
theorem own_ch {P : Pl} {w w' : World} {B n : Nat} {v : Value} {xs : List Value} (h : w.ownsRow B 3 1 v n xs) (hc : Ch P w w') (h1 : P.sp < B) (h2 : P.gu < B) (h3 : P.gs < B) (h4 : P.gl < B) : w'.ownsRow B 3 1 v n xs := by
  refine ⟨h.1, ?_⟩
  rcases h.2 with h | ⟨g, cap, cur, h1', hg, hh, r⟩
  · exact .inl h
  · exact .inr ⟨g, cap, cur, h1', hg, (hc.block g (block_lt hh) (by omega) (by omega) (by omega) (by omega)).trans hh, r⟩
/-- A slice of ints that is read. -/
def IntsR (B : Option Addr) (xs : List Int) (w : World) : Prop := 0 < xs.length → ∃ b o, B = some ⟨b, o, none⟩ ∧ ∀ j, j < xs.length → w.cell? ⟨b, o + j, none⟩ = some (.int .i64 (St.v xs j))
theorem IntsR.on {B : Option Addr} {xs : List Int} {w w' : World} (h : IntsR B xs w) (hb : Below w.heap.size w w') : IntsR B xs w' := fun hn => by
  obtain ⟨b, o, rfl, hc⟩ := h hn
  have hlt := World.block_lt_of_cell? w _ (hc 0 hn)
  exact ⟨b, o, rfl, fun j hj => (hb.cell (p := ⟨b, o + j, none⟩) hlt).trans (hc j hj)⟩
theorem IntsR.ofRow {g : Nat} {xs : List Int} {w : World} (h : Row g xs w) : IntsR (some ⟨g, 0, none⟩) xs w := fun _ => ⟨g, 0, rfl, fun j hj => by rw [Nat.zero_add]; exact h.cell hj⟩
def eU (l : List Edge) (i : Int) : Nat := (l.getD i.toNat edge0).U.toNat
def eV (l : List Edge) (i : Int) : Nat := (l.getD i.toNat edge0).V.toNat
theorem Sets.move {P : Pl} {n : Nat} {K : List Int} {w w' : World} (h : Sets P n K w) (h1 : w'.heap[P.sp]? = w.heap[P.sp]?) (h2 : w'.heap[P.gu]? = w.heap[P.gu]?) (h3 : w'.heap[P.gs]? = w.heap[P.gs]?) (h4 : w'.heap[P.gl]? = w.heap[P.gl]?) : Sets P n K w' := by
  obtain ⟨us, ss, ls, cnt, rep, rk, R, k1, k2, k3⟩ := h
  exact ⟨us, ss, ls, cnt, rep, rk, R, k1.move h1 h2 h3 h4, k2, k3⟩
/-- Edges between n vertices. -/
def Vld (n : Nat) (l : List Edge) : Prop := ∀ e ∈ l, 0 ≤ e.U ∧ e.U < n ∧ 0 ≤ e.V ∧ e.V < n ∧ e.U ≠ e.V
/-- Edges, one after the other: those whose ends are not connected by the ones before them. -/
def growF (l : List Edge) : List Int → List Int → List Int → List Int × List Int
  | [], K, out => (K, out)
  | i :: r, K, out => if St.v K (eU l i) = St.v K (eV l i) then growF l r K out else growF l r (Uf.joined K (eU l i) (eV l i)) (out ++ [i])
/-- The edges that are accepted. -/
def accF (n : Nat) (l : List Edge) (os : List Int) : List Int := (growF l os (Uf.iota n) []).2
theorem nums_snoc (xs : List Int) (x : Int) : nums (xs ++ [x]) = nums xs ++ [.int .i64 x] := by simp [nums]

set_option maxRecDepth 1000000 in
set_option maxHeartbeats 4000000 in
theorem accept_nil (n : Nat) (hn : n ≤ 65536) (A B : Option Addr) (m ca cb : Nat) (_l : List Edge) (w : World) :
    Calls Try.prog 39 #[.int .i64 n, .slice A m ca, .slice B 0 cb] w fun e w' => e = .returned (.slice none 0 0) ∧ Below w.heap.size w w' := by
  go_enter Try.func39, Try.ntmps39
  go_wp2_with (go_at_call 63; refine (dnew_any n hn _).mono ?_; rintro e w1 ⟨sp, rfl, hb, -, -⟩; have HB := Lib.hid hb; clear hb)
  refine wp_loop_rounds 1 ?_
  rw [rounds_succ]
  go_wp2
  go_ret
  exact ⟨rfl, HB.out⟩

set_option maxRecDepth 1000000 in
set_option maxHeartbeats 8000000 in
theorem accept_some (n : Nat) (hn : n ≤ 65536) (A B : Option Addr) (ca cb : Nat) (l : List Edge) (os : List Int) (w : World) (hE : Edges A l w) (hO : IntsR B os w) (hv : Vld n l) (hos : ∀ x ∈ os, 0 ≤ x ∧ x < l.length) (hl : l.length ≤ 1000000) (hol : os.length ≤ 1000000) (h0 : 0 < os.length) :
    Calls Try.prog 39 #[.int .i64 n, .slice A l.length ca, .slice B os.length cb] w fun e w' => ∃ vo, e = .returned vo ∧ w'.ownsRow w.heap.size 3 1 vo (accF n l os).length (nums (accF n l os)) ∧ Below w.heap.size w w' := by
  obtain ⟨b2, o2, rfl, hc2⟩ := hO h0
  have hx0 := hos _ (List.getElem_mem h0)
  have hl0 : 0 < l.length := by omega
  obtain ⟨b, o, rfl, hc⟩ := hE hl0
  have hn0 : 0 < n := by have := hv _ (List.getElem_mem hl0); omega
  have hlb := World.block_lt_of_cell? w _ (hc 0 hl0).1
  have hlb2 := World.block_lt_of_cell? w _ (hc2 0 h0)
  have HC := Lib.hid hc; have HC2 := Lib.hid hc2; have HV := Lib.hid hv; have HOS := Lib.hid hos
  have HLB : Hid (b < w.heap.size) := Lib.hid hlb
  have HLB2 : Hid (b2 < w.heap.size) := Lib.hid hlb2
  have l1 : (l.length : Int) ≤ 1000000 := by omega
  have ol1 : (os.length : Int) ≤ 1000000 := by omega
  obtain ⟨i0, hi, hz0, hz1, hz2⟩ := info_parts info_int
  clear hE hO hc hc2 hv hos hx0 hlb hlb2
  go_enter Try.func39, Try.ntmps39
  go_wp2_with (go_at_call 63; refine (dnew_any n hn _).mono ?_; rintro e w1 ⟨sp, rfl, hb, hsp, hP⟩; refine Hid.out ?_)
  obtain ⟨P, rfl, p1, p2, p3, hS⟩ := hP hn0
  have hB1 : P.sp < w1.heap.size ∧ P.gu < w1.heap.size ∧ P.gs < w1.heap.size ∧ P.gl < w1.heap.size := by
    obtain ⟨us, ss, ls, cnt, rep, rk, R, h1, -, -⟩ := hS
    exact ⟨block_lt h1.sb, h1.ou.lt, h1.os.lt, h1.ol.lt⟩
  have HB := Lib.hid hb; have HS := Lib.hid hS; have HB1 := Lib.hid hB1
  have hz := hb.size
  clear hb hS hB1 hP
  refine Lib.hid ?_
  go_wp2_with fail
  go_loopw [21, 9] (fun x vo wr => ∃ k : Nat, k ≤ os.length ∧ x = .int .i64 k ∧ ∃ K outs, Hid (outs.length ≤ k ∧ growF l (os.drop k) K outs = growF l os (Uf.iota n) []) ∧ Sets P n K wr ∧ wr.ownsRow w1.heap.size 3 1 vo outs.length (nums outs) ∧ Below w.heap.size w wr ∧ w1.heap.size ≤ wr.heap.size) (fun x _ _ => os.length - (intOf x).toNat)
  case atStart => exact ⟨0, by omega, rfl, _, _, Lib.hid ⟨Nat.le_refl _, rfl⟩, HS.out, ⟨rfl, .inl ⟨rfl, rfl⟩⟩, HB.out, Nat.le_refl _⟩
  case round =>
    obtain ⟨k, hk, rfl, K, outs, hG, hS, hown, hb, hsz⟩ := hrel
    by_cases hlt : k < os.length
    · have hlt1 : (k : Int) < os.length := by omega
      have hxr := HOS.out _ (List.getElem_mem hlt)
      obtain ⟨ei, hei⟩ := Int.eq_ofNat_of_zero_le hxr.1
      have heil : ei < l.length := by omega
      have hvx : St.v os k = (ei : Int) := by rw [← hei]; exact St.getD_at hlt
      have ce : ∀ i, wr.cell? ⟨b, i, none⟩ = w.cell? ⟨b, i, none⟩ := fun i => hb.cell (p := ⟨b, i, none⟩) HLB.out
      have ce2 : ∀ i, wr.cell? ⟨b2, i, none⟩ = w.cell? ⟨b2, i, none⟩ := fun i => hb.cell (p := ⟨b2, i, none⟩) HLB2.out
      have k1 := (ce2 _).trans (HC2.out k hlt)
      rw [hvx] at k1
      obtain ⟨ku, kv, -⟩ := HC.out ei heil
      have ku' := (ce _).trans ku
      have kv' := (ce _).trans kv
      have hvl := HV.out _ (List.getElem_mem heil)
      rw [← show l.getD ei edge0 = l[ei] by simp [List.getD_eq_getElem?_getD, heil]] at hvl
      obtain ⟨U, hU⟩ := Int.eq_ofNat_of_zero_le hvl.1
      obtain ⟨V, hV⟩ := Int.eq_ofNat_of_zero_le hvl.2.2.1
      have hUn : U < n := by omega
      have hVn : V < n := by omega
      rw [hU] at ku'
      rw [hV] at kv'
      have heU : eU l ei = U := by unfold eU; rw [Int.toNat_natCast, hU]; rfl
      have heV : eV l ei = V := by unfold eV; rw [Int.toNat_natCast, hV]; rfl
      have hstep : os.drop k = (ei : Int) :: os.drop (k + 1) := by rw [List.drop_eq_getElem_cons hlt, hei]
      have hgr := hG.out.2
      rw [hstep, growF, heU, heV] at hgr
      have ei1 : (ei : Int) < l.length := by omega
      have ei0 : (0 : Int) ≤ ei := by omega
      have HGR := Lib.hid hgr; have HS := Lib.hid hS; have HO := Lib.hid hown; have HBR := Lib.hid hb
      have hlen := hG.out.1
      clear hxr hei hvx ce ce2 ku kv hvl hU hV heU heV hstep hgr hS hown hb hG
      go_wp2_with fail
      go_region_held3 (fun W => W.cell? ⟨b, o + ei * 3, none⟩ = some (.int .i64 (U : Int)) ∧ W.cell? ⟨b, o + ei * 3 + 1, none⟩ = some (.int .i64 (V : Int))) (first | go_keep)
        (first | (go_at_call 64; refine (union_any (HS.out.on (Below.refl _ _).drew) (by omega) U V hUn hVn).mono ?_; rintro e w2 ⟨rfl, hs2, hc2⟩; have q1 := (hc2.cell (b := b) (by have := HLB.out; have := HBR.out.size; show b < wr.heap.size; omega) (by have := HLB.out; omega) p1 p2 p3 (o + ei * 3)).trans ku'; have q2 := (hc2.cell (b := b) (by have := HLB.out; have := HBR.out.size; show b < wr.heap.size; omega) (by have := HLB.out; omega) p1 p2 p3 (o + ei * 3 + 1)).trans kv'; have HS2 := Lib.hid hs2; have HCH := Lib.hid hc2; clear hs2 hc2))
      have HB2 : Hid (Below w.heap.size w w2) := Lib.hid (HBR.out.drew.trans ((HCH.out.below hsp (by omega) (by omega) (by omega) (by show w.heap.size ≤ wr.heap.size; have := HBR.out.size; omega))))
      have HO2 : Hid (w2.ownsRow w1.heap.size 3 1 _ outs.length (nums outs)) := Lib.hid (own_ch HO.out.drew HCH.out HB1.out.1 HB1.out.2.1 HB1.out.2.2.1 HB1.out.2.2.2)
      have hsz2 : w1.heap.size ≤ w2.heap.size := Nat.le_trans hsz HCH.out.size
      clear q1 q2 HO HS HBR HCH ku' kv' k1
      by_cases he : St.v K U = St.v K V
      · have hd : decide (St.v K U = St.v K V) = true := decide_eq_true he
        have HGR2 := HGR.out
        rw [if_pos he] at HGR2
        have HS3 := HS2.out
        rw [if_pos he] at HS3
        have H1 := Lib.hid HGR2; have H2 := Lib.hid HS3
        clear HGR2 HS3 HGR HS2 he
        rw [hd, show (!true) = false from rfl]
        go_wp2
        go_roundw
        case rel => exact ⟨k + 1, by omega, by go_num, K, outs, Lib.hid ⟨by omega, H1.out⟩, H2.out, HO2.out, HB2.out, hsz2⟩
        case measure => simp [intOf]; omega
      · have hd : decide (St.v K U = St.v K V) = false := decide_eq_false he
        have HGR2 := HGR.out
        rw [if_neg he] at HGR2
        have HS3 := HS2.out
        rw [if_neg he] at HS3
        have H1 := Lib.hid HGR2; have H2 := Lib.hid HS3
        clear HGR2 HS3 HGR HS2 he
        have HNW := Lib.hid (one_new w2 ei 3)
        have HOA := Lib.hid (HO2.out.alloc (.cells #[.int .i64 ei] 3))
        have hza : w1.heap.size ≤ (w2.alloc (.cells #[.int .i64 ei] 3)).heap.size := by simp; omega
        rw [hd, show (!false) = true from rfl]
        go_wp2_with (at_builtin; refine wpList_append_own _ rfl (.tmp 41) (.tmp 43) 24 rfl w1.heap.size 3 i0 (.int .i64 0) 1 8 Try.underlying24 hi hz0 hz1 hz2 rfl (by decide) _ _ _ rfl HOA.out ⟨w2.heap.size, 0, none⟩ 1 1 [.int .i64 ei] rfl rfl HNW.out (by simp [Value.oneCell']) (by show outs.length + 1 ≤ 2 ^ 63 - 1; omega) (by omega) hza ?_; intro v3 w3 ho3 hg3 _; refine Hid.out ?_)
        have hmv : ∀ q, q < w1.heap.size → w3.heap[q]? = w2.heap[q]? := fun q hq => (hg3.block q (by simp; omega) (fun e => by have := (own_ge HOA.out q (by first | exact e | exact e.symm)).1; omega)).trans (Below.heap_alloc _ _ _ (by omega))
        have HS3 := Lib.hid (Sets.move H2.out (hmv _ HB1.out.1) (hmv _ HB1.out.2.1) (hmv _ HB1.out.2.2.1) (hmv _ HB1.out.2.2.2))
        obtain ⟨g3, c3, rfl, -, -⟩ := ho3.form (by omega)
        have HO3 := Lib.hid ho3
        have HB3 : Hid (Below w.heap.size w w3) := Lib.hid ((HB2.out.alloc HB2.out.size _).grown hg3 (by have := hb_le HB2.out; simp; omega) (fun q hq => by have := (own_ge HOA.out q hq).1; omega))
        have hz3 : w1.heap.size ≤ w3.heap.size := Nat.le_trans hza hg3.size
        clear ho3 hg3 hmv HOA HNW
        refine Lib.hid ?_
        go_wp2
        go_roundw
        case rel => exact ⟨k + 1, by omega, by go_num, _, outs ++ [(ei : Int)], Lib.hid ⟨by simp; omega, H1.out⟩, HS3.out, by rw [List.length_append, nums_snoc]; exact HO3.out, HB3.out, hz3⟩
        case measure => simp [intOf]; omega
    · have hkk : k = os.length := by omega
      subst hkk
      have hgr := hG.out.2
      rw [List.drop_length, growF] at hgr
      have hfin : accF n l os = outs := by unfold accF; rw [← hgr]
      have HF := Lib.hid hfin; have HO := Lib.hid hown; have HBR := Lib.hid hb
      clear hgr hfin hown hb hS hG
      go_wp2
      go_ret
      exact ⟨_, rfl, by rw [HF.out]; exact own_low HO.out hz, HBR.out⟩
end Go.Proofs.Ytobaodkcjjgkdaa
namespace Go.Proofs.Ytobaodkcjjgkdaa
open Go Go.RowKit

theorem add64 (x y : Int) (hx : 0 ≤ x) (hy : 0 ≤ y) (w : World) :
    (callFunc 66 #[.int .u64 x, .int .u64 y, .int .u64 0]).run Try.prog w =
      .ok (.value (.tuple #[.int .u64 ((x + y) % 18446744073709551616), .int .u64 ((x + y) / 18446744073709551616)])) w := by
  rw [run_callFunc_extern Try.func66 (by kernel_rfl) (by kernel_rfl) (by kernel_rfl) (e := add64Entry) (by kernel_rfl), run_add64 x y 0 hx hy (by omega) (by omega)]
  simp only [Result.andThen, Int.add_zero]
def sumV (s : Int) : Int := if -9223372036854775808 ≤ s ∧ s < 9223372036854775808 then s else 0
def sumE (s : Int) : Int := if -9223372036854775808 ≤ s ∧ s < 9223372036854775808 then 0 else 7
theorem sum_step (H L x k : Int) (h0 : 0 ≤ L) (h1 : L < 18446744073709551616) (h3 : -k ≤ H) (h4 : H ≤ k) (hk0 : 0 ≤ k) (hk : k ≤ 1000000) (x0 : -9223372036854775808 ≤ x) (x1 : x < 9223372036854775808) :
    0 ≤ (L + IntKind.u64.wrap x) % 18446744073709551616 ∧ (L + IntKind.u64.wrap x) % 18446744073709551616 < 18446744073709551616 ∧
    wrap64 (H + wrap64 (x / 9223372036854775808 + wrap64 ((L + IntKind.u64.wrap x) / 18446744073709551616))) * 18446744073709551616 + (L + IntKind.u64.wrap x) % 18446744073709551616 = H * 18446744073709551616 + L + x ∧
    -(k + 1) ≤ wrap64 (H + wrap64 (x / 9223372036854775808 + wrap64 ((L + IntKind.u64.wrap x) / 18446744073709551616))) ∧ wrap64 (H + wrap64 (x / 9223372036854775808 + wrap64 ((L + IntKind.u64.wrap x) / 18446744073709551616))) ≤ k + 1 := by
  rw [IntKind.wrap_u64]
  have hc : 0 ≤ (L + x % 18446744073709551616) / 18446744073709551616 ∧ (L + x % 18446744073709551616) / 18446744073709551616 ≤ 1 := by omega
  have w1 : ∀ z : Int, -2000000 ≤ z → z ≤ 2000000 → wrap64 z = z := fun z a b => by unfold wrap64; omega
  obtain ⟨c, hcd⟩ : ∃ c, c = (L + x % 18446744073709551616) / 18446744073709551616 := ⟨_, rfl⟩
  rw [← hcd] at hc ⊢
  have hs2 : -1 ≤ x / 9223372036854775808 ∧ x / 9223372036854775808 ≤ 0 := by omega
  rw [w1 c (by omega) (by omega), w1 (x / 9223372036854775808 + c) (by omega) (by omega), w1 (H + (x / 9223372036854775808 + c)) (by omega) (by omega)]
  omega
/-- Numbers of 64 bits. -/
def I64s (xs : List Int) : Prop := ∀ x ∈ xs, -9223372036854775808 ≤ x ∧ x < 9223372036854775808

set_option maxRecDepth 1000000 in
set_option maxHeartbeats 4000000 in
theorem sum_any (A : Option Addr) (c : Nat) (xs : List Int) (w : World) (hO : IntsR A xs w) (hx : I64s xs) (hl : xs.length ≤ 1000000) :
    Calls Try.prog 42 #[.slice A xs.length c] w fun e w' => e = .returned (.tuple #[.int .i64 (sumV xs.sum), .int .i64 (sumE xs.sum)]) ∧ Below w.heap.size w w' := by
  have HO := Lib.hid hO; have HX := Lib.hid hx
  have l1 : (xs.length : Int) ≤ 1000000 := by omega
  clear hO hx
  go_enter Try.func42, Try.ntmps42
  go_wp2_with fail
  go_loopw [4, 5, 11] (fun hv lv x wr => ∃ k : Nat, k ≤ xs.length ∧ x = .int .i64 k ∧ ∃ H L : Int, hv = .int .i64 H ∧ lv = .int .u64 L ∧ Hid (0 ≤ L ∧ L < 18446744073709551616 ∧ H * 18446744073709551616 + L = (xs.take k).sum ∧ -k ≤ H ∧ H ≤ k) ∧ Below w.heap.size w wr) (fun _ _ x _ => xs.length - (intOf x).toNat)
  case atStart => exact ⟨0, by omega, rfl, 0, 0, rfl, rfl, Lib.hid (by simp), Below.refl _ _⟩
  case round =>
    obtain ⟨k, hk, rfl, H, L, rfl, rfl, hH, hb⟩ := hrel
    by_cases hlt : k < xs.length
    · have hlt1 : (k : Int) < xs.length := by omega
      obtain ⟨b, o, rfl, hc⟩ := HO.out (by omega)
      have hbl := World.block_lt_of_cell? w _ (hc k hlt)
      have k1 : wr.cell? ⟨b, o + k, none⟩ = some (.int .i64 (St.v xs k)) := (hb.cell (p := ⟨b, o + k, none⟩) hbl).trans (hc k hlt)
      have hgv : St.v xs k = xs[k] := St.getD_at hlt
      have hxk := HX.out _ (List.getElem_mem hlt)
      have hs : (xs.take (k + 1)).sum = (xs.take k).sum + St.v xs k := by rw [List.take_succ_eq_append_getElem hlt, List.sum_append, hgv]; simp
      rw [← hgv] at hxk
      clear hgv
      generalize St.v xs k = x at *
      obtain ⟨h0, h1, h2, h3, h4⟩ := hH.out
      have HB := Lib.hid hb; have HS := Lib.hid hs
      have HSS := Lib.hid (sum_step H L x k h0 h1 h3 h4 (by omega) (by omega) hxk.1 hxk.2)
      clear hb hs hc hH hxk
      go_wp2_with (first | simp only [add64 _ _ h0 (wrap_u64_nonneg _)])
      go_roundw
      case rel => exact ⟨k + 1, by omega, by go_num, _, _, rfl, rfl, Lib.hid (by rw [HS.out, ← h2]; exact HSS.out), HB.out⟩
      case measure => simp [intOf]; omega
    · have hkk : k = xs.length := by omega
      subst hkk
      rw [List.take_length] at hH
      obtain ⟨h0, h1, h2, h3, h4⟩ := hH.out
      have HB := Lib.hid hb
      have hw : wrap64 L = if L < 9223372036854775808 then L else L - 18446744073709551616 := by unfold wrap64; split <;> omega
      by_cases he : H = wrap64 L / 9223372036854775808
      · have hd : (H != wrap64 L / 9223372036854775808) = false := by simp [← he]
        have hr : sumV xs.sum = wrap64 L ∧ sumE xs.sum = 0 := by
          rw [← h2]
          unfold sumV sumE
          by_cases hq : L < 9223372036854775808
          · rw [if_pos hq] at hw
            rw [hw] at he ⊢
            rw [if_pos (by omega), if_pos (by omega)]
            omega
          · rw [if_neg hq] at hw
            rw [hw] at he ⊢
            rw [if_pos (by omega), if_pos (by omega)]
            omega
        have HR := Lib.hid hr
        clear hb hw hr he hH
        go_wp2
        go_ret2
        exact ⟨by rw [HR.out.1, HR.out.2]; rfl, HB.out⟩
      · have hd : (H != wrap64 L / 9223372036854775808) = true := by simp [he]
        have hr : sumV xs.sum = 0 ∧ sumE xs.sum = 7 := by
          rw [← h2]
          unfold sumV sumE
          by_cases hq : L < 9223372036854775808
          · rw [if_pos hq] at hw
            rw [hw] at he
            rw [if_neg (by omega), if_neg (by omega)]
            exact ⟨rfl, rfl⟩
          · rw [if_neg hq] at hw
            rw [hw] at he
            rw [if_neg (by omega), if_neg (by omega)]
            exact ⟨rfl, rfl⟩
        have HR := Lib.hid hr
        clear hb hw hr he hH
        go_wp2
        go_ret2
        exact ⟨by rw [HR.out.1, HR.out.2]; rfl, HB.out⟩
end Go.Proofs.Ytobaodkcjjgkdaa
namespace Go.Proofs.Ytobaodkcjjgkdaa
open Go Go.RowKit

theorem ecells_len (l : List Edge) : (ecells l).length = l.length * 3 := by
  induction l with
  | nil => rfl
  | cons e r ih => simp [ecells] at ih ⊢; omega
theorem ecells_at (l : List Edge) : ∀ i, i < l.length → (ecells l)[i * 3]? = some (.int .i64 (l.getD i edge0).U) ∧ (ecells l)[i * 3 + 1]? = some (.int .i64 (l.getD i edge0).V) ∧ (ecells l)[i * 3 + 2]? = some (.int .i64 (l.getD i edge0).W) := by
  induction l with
  | nil => intro i h; simp at h
  | cons e r ih =>
    intro i h
    cases i with
    | zero => exact ⟨rfl, rfl, rfl⟩
    | succ i =>
      have hi := ih i (by simp at h; omega)
      have e0 : ∀ j, (ecells (e :: r))[j + 3]? = (ecells r)[j]? := fun j => rfl
      rw [show (i + 1) * 3 = i * 3 + 3 by omega, show i * 3 + 3 + 1 = i * 3 + 1 + 3 by omega, show i * 3 + 3 + 2 = i * 3 + 2 + 3 by omega, e0, e0, e0]
      exact hi
theorem ecells_one (l : List Edge) : ∀ u ∈ ecells l, u.oneCell' = true := by
  intro u hu
  obtain ⟨e, _, h⟩ := List.mem_flatMap.1 hu
  simp at h
  rcases h with rfl | rfl | rfl <;> rfl
theorem Edges.ofOwn {w : World} {B : Nat} {v : Value} {l : List Edge} (h : w.ownsRow B 36 3 v l.length (ecells l)) : ∃ A c, v = .slice A l.length c ∧ Edges A l w ∧ l.length ≤ c := by
  have hc := h.2
  rcases hc with ⟨rfl, hn⟩ | ⟨g, cap, cur, rfl, -, -, hle, -, -⟩
  · exact ⟨none, 0, by rw [hn], fun h => by omega, by omega⟩
  · refine ⟨some ⟨g, 0, none⟩, cap, rfl, fun hn => ⟨g, 0, rfl, fun j hj => ?_⟩, hle⟩
    obtain ⟨h0, h1, h2⟩ := ecells_at l j hj
    have e : ∀ i u, (ecells l)[i]? = some u → w.cell? ⟨g, i, none⟩ = some u := fun i u hi => by
      have := h.cells (g := g) rfl i u hi
      unfold Addr.add at this
      split at this
      · rename_i e; subst e; exact this
      · simpa using this
    rw [Nat.zero_add]
    exact ⟨e _ _ h0, e _ _ h1, e _ _ h2⟩
theorem info_edge : (Try.prog.info? 36).map (fun i => (i.zero, i.size, i.bytes)) = some (some (.agg #[.int .i64 0, .int .i64 0, .int .i64 0]), 3, 24) := by kernel_rfl

set_option maxRecDepth 1000000 in
set_option maxHeartbeats 2000000 in
theorem clone_edges (A : Option Addr) (c : Nat) (l : List Edge) (w : World) (hE : Edges A l w) (hl : l.length ≤ 1000000) :
    Calls Try.prog 48 #[.slice A l.length c] w fun e w' => ∃ B c', e = .returned (.slice B l.length c') ∧ Edges B l w' ∧ Below w.heap.size w w' := by
  obtain ⟨i0, hi, hz0, hz1, hz2⟩ := info_parts info_edge
  have q22 : ∀ (w : World) (a : Option Addr) (n c n' c' : Nat), (binOp .eql 22 (.slice a n c) (.slice none n' c')).run Try.prog w = .ok (.bool a.isNone) w := fun w a n c n' c' => Lib.run_eql_slice_nil w _ _ a n c n' c' Try.underlying22
  have HE := Lib.hid hE
  clear hE
  cases A with
  | none =>
    have h0 : l.length = 0 := by
      rcases Nat.eq_zero_or_pos l.length with h | h
      · exact h
      · obtain ⟨b, o, e, -⟩ := HE.out h
        cases e
    go_enter Try.func48, Try.ntmps48
    go_wp2
    go_ret
    exact ⟨none, 0, by rw [h0]; rfl, HE.out, Below.refl _ _⟩
  | some ad =>
    go_enter Try.func48, Try.ntmps48
    go_wp2_with (at_builtin; refine wpList_append_own _ rfl _ _ 22 rfl w.heap.size 36 i0 (.agg #[.int .i64 0, .int .i64 0, .int .i64 0]) 3 24 Try.underlying22 hi hz0 hz1 hz2 rfl (by decide) _ _ _ rfl (World.ownsRow_made w #[] 0 (Nat.le_refl _) (Nat.zero_le _) rfl) ad l.length c (ecells l) rfl ?qc1 ?qc2 ?qc3 ?qc4 ?qc5 ?qc6 ?_)
    case qc1 => exact ecells_len l
    case qc2 =>
      intro j u hj
      have hjl : j < l.length * 3 := by
        have := (List.getElem?_eq_some_iff.1 hj).1
        rwa [ecells_len] at this
      obtain ⟨b, o, e, hc⟩ := HE.out (by omega)
      injection e with e
      subst e
      have hji : j / 3 < l.length := by omega
      obtain ⟨k0, k1, k2⟩ := hc (j / 3) hji
      obtain ⟨g0, g1, g2⟩ := ecells_at l (j / 3) hji
      rw [Addr.add_lit]
      refine Lib.cell?_alloc_some _ ?_
      rcases (by omega : j = j / 3 * 3 ∨ j = j / 3 * 3 + 1 ∨ j = j / 3 * 3 + 2) with h | h | h
      · rw [h] at hj ⊢; rw [g0] at hj; cases hj; exact k0
      · rw [h] at hj ⊢; rw [g1] at hj; cases hj; exact k1
      · rw [h] at hj ⊢; rw [g2] at hj; cases hj; exact k2
    case qc3 => exact ecells_one l
    case qc4 => unfold maxLen; omega
    case qc5 => omega
    case qc6 => simp
    intro v' w1 hown hgrow hnil
    have HB : Hid (Below w.heap.size w w1) := Lib.hid (((Below.refl _ w).alloc (Nat.le_refl _) _).grown hgrow (by simp) (by intro k hk; simp [Value.ownBlock] at hk; omega))
    obtain ⟨B, c', rfl, hE, -⟩ := Edges.ofOwn hown
    have HE2 := Lib.hid hE
    clear hown hgrow hnil hE
    go_wp2
    go_ret
    exact ⟨B, c', rfl, HE2.out, HB.out⟩

set_option maxRecDepth 1000000 in
set_option maxHeartbeats 2000000 in
theorem clone_ints (A : Option Addr) (c : Nat) (xs : List Int) (w : World) (hE : IntsR A xs w) (hl : xs.length ≤ 1000000) :
    Calls Try.prog 70 #[.slice A xs.length c] w fun e w' => ∃ vo, e = .returned vo ∧ w'.ownsRow w.heap.size 3 1 vo xs.length (nums xs) ∧ Below w.heap.size w w' := by
  obtain ⟨i0, hi, hz0, hz1, hz2⟩ := info_parts info_int
  have q22 : ∀ (w : World) (a : Option Addr) (n c n' c' : Nat), (binOp .eql 24 (.slice a n c) (.slice none n' c')).run Try.prog w = .ok (.bool a.isNone) w := fun w a n c n' c' => Lib.run_eql_slice_nil w _ _ a n c n' c' Try.underlying24
  have HE := Lib.hid hE
  clear hE
  cases A with
  | none =>
    have h0 : xs = [] := by
      rcases Nat.eq_zero_or_pos xs.length with h | h
      · exact List.eq_nil_of_length_eq_zero h
      · obtain ⟨b, o, e, -⟩ := HE.out h
        cases e
    subst h0
    go_enter Try.func70, Try.ntmps70
    go_wp2
    go_ret
    exact ⟨_, rfl, ⟨rfl, .inl ⟨rfl, rfl⟩⟩, Below.refl _ _⟩
  | some ad =>
    go_enter Try.func70, Try.ntmps70
    go_wp2_with (at_builtin; refine wpList_append_own _ rfl _ _ 24 rfl w.heap.size 3 i0 (.int .i64 0) 1 8 Try.underlying24 hi hz0 hz1 hz2 rfl (by decide) _ _ _ rfl (World.ownsRow_made w #[] 0 (Nat.le_refl _) (Nat.zero_le _) rfl) ad xs.length c (nums xs) rfl ?qc1 ?qc2 ?qc3 ?qc4 ?qc5 ?qc6 ?_)
    case qc1 => simp [nums]
    case qc2 =>
      intro j u hj
      have hjl : j < xs.length := by
        have := (List.getElem?_eq_some_iff.1 hj).1
        simpa [nums] using this
      obtain ⟨b, o, e, hc⟩ := HE.out (by omega)
      injection e with e
      subst e
      rw [Addr.add_lit]
      refine Lib.cell?_alloc_some _ ?_
      have e : (nums xs)[j]? = some (Value.int .i64 (St.v xs j)) := by simp [nums, St.v, List.getD, hjl]
      rw [e] at hj
      cases hj
      exact hc j hjl
    case qc3 => intro u hu; obtain ⟨x, _, rfl⟩ := List.mem_map.1 hu; rfl
    case qc4 => unfold maxLen; omega
    case qc5 => omega
    case qc6 => simp
    intro v' w1 hown hgrow hnil
    have HB : Hid (Below w.heap.size w w1) := Lib.hid (((Below.refl _ w).alloc (Nat.le_refl _) _).grown hgrow (by simp) (by intro k hk; simp [Value.ownBlock] at hk; omega))
    have HO := Lib.hid hown
    clear hown hgrow hnil
    go_wp2
    go_ret
    exact ⟨_, rfl, HO.out, HB.out⟩
end Go.Proofs.Ytobaodkcjjgkdaa
namespace Go.Proofs.Ytobaodkcjjgkdaa
open Go

namespace Gp
def hit (e : Edge) (v : Nat) : Int := (if e.U = (v : Int) then 1 else 0) + (if e.V = (v : Int) then 1 else 0)
def deg : List Edge → Nat → Int
  | [], _ => 0
  | e :: r, v => hit e v + deg r v
/-- The half-edges at k vertices from v on. -/
def tot (l : List Edge) : Nat → Nat → Int
  | 0, _ => 0
  | k + 1, v => deg l v + tot l k (v + 1)
theorem hit_nonneg (e : Edge) (v : Nat) : 0 ≤ hit e v := by unfold hit; split <;> split <;> omega
theorem deg_nonneg (l : List Edge) (v : Nat) : 0 ≤ deg l v := by
  induction l with
  | nil => exact Int.le_refl _
  | cons e r ih => have := hit_nonneg e v; simp only [deg]; omega
theorem deg_le (l : List Edge) (v : Nat) : deg l v ≤ 2 * l.length := by
  induction l with
  | nil => simp [deg]
  | cons e r ih => simp only [deg, hit, List.length_cons]; split <;> split <;> omega
theorem tot_nonneg (l : List Edge) : ∀ k v, 0 ≤ tot l k v
  | 0, _ => Int.le_refl _
  | k + 1, v => by have := tot_nonneg l k (v + 1); have := deg_nonneg l v; simp only [tot]; omega
theorem tot_nil : ∀ k v, tot [] k v = 0
  | 0, _ => rfl
  | k + 1, v => by simp only [tot, tot_nil k (v + 1), deg]; rfl
theorem tot_cons (e : Edge) (r : List Edge) : ∀ k v, tot (e :: r) k v = (if (v : Int) ≤ e.U ∧ e.U < v + k then 1 else 0) + (if (v : Int) ≤ e.V ∧ e.V < v + k then 1 else 0) + tot r k v
  | 0, v => by simp only [tot]; split <;> split <;> omega
  | k + 1, v => by
    simp only [tot, deg, hit, tot_cons e r k (v + 1)]
    push_cast
    split <;> split <;> split <;> split <;> split <;> split <;> omega
theorem tot_all (n : Nat) : ∀ l, Vld n l → tot l n 0 = 2 * (l.length : Int)
  | [], _ => tot_nil n 0
  | e :: r, h => by
    have h1 := h e (by simp)
    rw [tot_cons, tot_all n r (fun x hx => h x (by simp [hx])), if_pos (by omega), if_pos (by omega), List.length_cons]
    push_cast
    omega
theorem deg_drop {l : List Edge} {k : Nat} (h : k < l.length) (v : Nat) : deg (l.drop k) v = hit (l.getD k edge0) v + deg (l.drop (k + 1)) v := by
  rw [List.drop_eq_getElem_cons h, deg]
  simp [List.getD_eq_getElem?_getD, h]
theorem v_set (xs : List Int) (i j : Nat) (x : Int) (hi : i < xs.length) : St.v (xs.set i x) j = if j = i then x else St.v xs j := by
  unfold St.v
  simp only [List.getD_eq_getElem?_getD, List.getElem?_set]
  by_cases h : i = j
  · subst h; simp [hi]
  · rw [if_neg h, if_neg (fun e => h e.symm)]
/-- The first loop: what is still to count is r. -/
def I1 (n : Nat) (l : List Edge) (r : Nat → Int) (fs : List Int) : Prop := fs.length = n + 1 ∧ St.v fs 0 = 0 ∧ ∀ j, j < n → 0 ≤ St.v fs (j + 1) ∧ St.v fs (j + 1) + r j = deg l j ∧ 0 ≤ r j
theorem I1.start (n : Nat) (l : List Edge) : I1 n l (deg l) (List.replicate (n + 1) 0) := by
  have hv : ∀ j, St.v (List.replicate (n + 1) 0) j = 0 := fun j => by
    unfold St.v
    rw [List.getD_eq_getElem?_getD]
    by_cases h : j < n + 1
    · simp [h]
    · rw [List.getElem?_eq_none (by rw [List.length_replicate]; omega)]; rfl
  exact ⟨by simp, hv 0, fun j _ => ⟨by rw [hv]; omega, by rw [hv]; omega, deg_nonneg l j⟩⟩
theorem I1.step {n : Nat} {l : List Edge} {r : Nat → Int} {fs : List Int} (h : I1 n l r fs) (u : Nat) (hu : u < n) (r' : Nat → Int) (hr : ∀ j, j < n → r j = (if j = u then 1 else 0) + r' j) (h0 : ∀ j, j < n → 0 ≤ r' j) : I1 n l r' (fs.set (u + 1) (St.v fs (u + 1) + 1)) := by
  obtain ⟨h1, h2, h3⟩ := h
  refine ⟨by rw [List.length_set, h1], by rw [v_set _ _ _ _ (by omega), if_neg (by omega)]; exact h2, fun j hj => ?_⟩
  have hj3 := h3 j hj
  have hrj := hr j hj
  have hju := h0 j hj
  rw [v_set _ _ _ _ (by omega)]
  by_cases e : j = u
  · subst e
    rw [if_pos rfl] at hrj
    rw [if_pos rfl]
    omega
  · rw [if_neg e] at hrj
    rw [if_neg (by omega)]
    omega
/-- The second loop. -/
def I2 (n : Nat) (l : List Edge) (v : Nat) (fs : List Int) : Prop := fs.length = n + 1 ∧ (∀ j, j ≤ n → 0 ≤ St.v fs j ∧ St.v fs j ≤ 2 * l.length) ∧ (∀ j, j < v → j < n → St.v fs j + deg l j ≤ 2 * l.length) ∧ St.v fs v + tot l (n - v) v = 2 * l.length ∧ ∀ j, v ≤ j → j < n → St.v fs (j + 1) = deg l j
theorem I1.done {n : Nat} {l : List Edge} {fs : List Int} (hv : Vld n l) (h : I1 n l (deg []) fs) : I2 n l 0 fs := by
  obtain ⟨h1, h2, h3⟩ := h
  refine ⟨h1, fun j hj => ?_, fun j hj => by omega, by rw [h2, Nat.sub_zero, tot_all n l hv]; omega, fun j _ hj => ?_⟩
  · cases j with
    | zero => rw [h2]; omega
    | succ j => have := h3 j (by omega); have := deg_le l j; simp only [deg] at *; omega
  · have := (h3 j hj).2.1
    simp only [deg] at this
    omega
theorem I2.step {n : Nat} {l : List Edge} {v : Nat} {fs : List Int} (h : I2 n l v fs) (hv : v < n) : I2 n l (v + 1) (fs.set (v + 1) (St.v fs (v + 1) + St.v fs v)) ∧ St.v fs (v + 1) + St.v fs v ≤ 2 * l.length := by
  obtain ⟨h1, h2, h3, h4, h5⟩ := h
  have d := h5 v (Nat.le_refl _) hv
  have t := tot_nonneg l (n - (v + 1)) (v + 1)
  rw [show n - v = (n - (v + 1)) + 1 by omega, tot] at h4
  have hq : St.v fs (v + 1) + St.v fs v ≤ 2 * l.length := by omega
  have a0 := h2 v (by omega)
  have a1 := h2 (v + 1) (by omega)
  refine ⟨⟨by rw [List.length_set, h1], fun j hj => ?_, fun j hj hn => ?_, ?_, fun j hj hn => ?_⟩, hq⟩
  · rw [v_set _ _ _ _ (by omega)]
    split
    · omega
    · exact h2 j hj
  · rw [v_set _ _ _ _ (by omega), if_neg (by omega)]
    by_cases e : j = v
    · subst e; omega
    · exact h3 j (by omega) hn
  · rw [v_set _ _ _ _ (by omega), if_pos rfl]
    omega
  · rw [v_set _ _ _ _ (by omega), if_neg (by omega)]
    exact h5 j (by omega) hn
/-- The third loop: what is still to place is r. -/
def I3 (n m2 : Nat) (r : Nat → Int) (ns : List Int) : Prop := ns.length = n + 1 ∧ ∀ j, j < n → 0 ≤ St.v ns j ∧ St.v ns j + r j ≤ m2 ∧ 0 ≤ r j
theorem I2.done {n : Nat} {l : List Edge} {fs : List Int} (h : I2 n l n fs) : I3 n (2 * l.length) (deg l) fs :=
  ⟨h.1, fun j hj => ⟨(h.2.1 j (by omega)).1, by have := h.2.2.1 j hj hj; push_cast; omega, deg_nonneg l j⟩⟩
theorem I3.step {n m2 : Nat} {r : Nat → Int} {ns : List Int} (h : I3 n m2 r ns) (u : Nat) (hu : u < n) (r' : Nat → Int) (hr : ∀ j, j < n → r j = (if j = u then 1 else 0) + r' j) (h0 : ∀ j, j < n → 0 ≤ r' j) : I3 n m2 r' (ns.set u (St.v ns u + 1)) ∧ 0 ≤ St.v ns u ∧ St.v ns u < m2 := by
  obtain ⟨h1, h3⟩ := h
  have a := h3 u hu
  have b := hr u hu
  have c := h0 u hu
  rw [if_pos rfl] at b
  refine ⟨⟨by rw [List.length_set, h1], fun j hj => ?_⟩, by omega, by omega⟩
  have hj3 := h3 j hj
  have hrj := hr j hj
  have hju := h0 j hj
  rw [v_set _ _ _ _ (by omega)]
  by_cases e : j = u
  · subst e
    rw [if_pos rfl] at hrj
    rw [if_pos rfl]
    omega
  · rw [if_neg e] at hrj
    rw [if_neg e]
    omega
/-- Two half-edges of one edge. -/
theorem hit_two (e : Edge) (U V : Nat) (hU : e.U = U) (hV : e.V = V) (j : Nat) : hit e j = (if j = U then 1 else 0) + (if j = V then 1 else 0) := by
  unfold hit
  rw [hU, hV]
  split <;> split <;> split <;> split <;> omega
end Gp
end Go.Proofs.Ytobaodkcjjgkdaa
namespace Go.Proofs.Ytobaodkcjjgkdaa
open Go Go.RowKit

/-- A graph in the making: its variable, its struct, and its rows. -/
structure GS (n : Nat) (B : Option Addr) (c m : Nat) (pv gp f ev : Nat) (fs : List Int) (w : World) : Prop where
  vb : w.heap[pv]? = some (.cells #[.pointer (some ⟨gp, 0, none⟩)] 42 (0, 0))
  gb : w.heap[gp]? = some (.cells #[.bool true, .int .i64 n, .slice B m c, .slice (some ⟨f, 0, none⟩) (n + 1) (n + 1), .slice (some ⟨ev, 0, none⟩) (2 * m) (2 * m)] 88 (0, 0))
  row : Row f fs w
  eb : ∃ cs, w.heap[ev]? = some (.cells cs 114 (0, 0)) ∧ cs.size = 2 * m * 2
  d1 : pv ≠ gp
  d2 : pv ≠ f
  d3 : pv ≠ ev
  d4 : gp ≠ f
  d5 : gp ≠ ev
  d6 : f ≠ ev
theorem GS.move {n : Nat} {B : Option Addr} {c m pv gp f ev : Nat} {fs : List Int} {w w' : World} (h : GS n B c m pv gp f ev fs w) (h1 : w'.heap[pv]? = w.heap[pv]?) (h2 : w'.heap[gp]? = w.heap[gp]?) (h3 : w'.heap[f]? = w.heap[f]?) (h4 : w'.heap[ev]? = w.heap[ev]?) : GS n B c m pv gp f ev fs w' :=
  ⟨h1.trans h.vb, h2.trans h.gb, ⟨h3.trans h.row.bh⟩, by obtain ⟨cs, a, b⟩ := h.eb; exact ⟨cs, h4.trans a, b⟩, h.d1, h.d2, h.d3, h.d4, h.d5, h.d6⟩
theorem GS.lts {n : Nat} {B : Option Addr} {c m pv gp f ev : Nat} {fs : List Int} {w : World} (h : GS n B c m pv gp f ev fs w) : pv < w.heap.size ∧ gp < w.heap.size ∧ f < w.heap.size ∧ ev < w.heap.size := by
  obtain ⟨cs, a, -⟩ := h.eb
  exact ⟨block_lt h.vb, block_lt h.gb, h.row.lt, block_lt a⟩
theorem GS.on {n : Nat} {B : Option Addr} {c m pv gp f ev : Nat} {fs : List Int} {w w' : World} (h : GS n B c m pv gp f ev fs w) (hb : Below w.heap.size w w') : GS n B c m pv gp f ev fs w' := by
  obtain ⟨a, b, c, d⟩ := h.lts
  exact h.move (hb.block _ a) (hb.block _ b) (hb.block _ c) (hb.block _ d)
theorem GS.alloc {n : Nat} {B : Option Addr} {c m pv gp f ev : Nat} {fs : List Int} {w : World} (h : GS n B c m pv gp f ev fs w) (o : Obj) : GS n B c m pv gp f ev fs (w.alloc o) := h.on ((Below.refl _ _).alloc (Nat.le_refl _) _)
theorem GS.drew {n : Nat} {B : Option Addr} {c m pv gp f ev : Nat} {fs : List Int} {w : World} (h : GS n B c m pv gp f ev fs w) : GS n B c m pv gp f ev fs w.drew := h.on (Below.refl _ _).drew
theorem GS.setF {n : Nat} {B : Option Addr} {c m pv gp f ev : Nat} {fs : List Int} {w : World} (h : GS n B c m pv gp f ev fs w) (i : Nat) (x : Int) : GS n B c m pv gp f ev (fs.set i x) (w.setCell ⟨f, i, none⟩ (.int .i64 x)) :=
  ⟨(Below.heap_setCell _ _ _ _ h.d2).trans h.vb, (Below.heap_setCell _ _ _ _ h.d4).trans h.gb, h.row.set i x, by obtain ⟨cs, a, b⟩ := h.eb; exact ⟨cs, (Below.heap_setCell _ _ _ _ h.d6.symm).trans a, b⟩, h.d1, h.d2, h.d3, h.d4, h.d5, h.d6⟩
theorem GS.setE {n : Nat} {B : Option Addr} {c m pv gp f ev : Nat} {fs : List Int} {w : World} (h : GS n B c m pv gp f ev fs w) (i : Nat) (v : Value) : GS n B c m pv gp f ev fs (w.setCell ⟨ev, i, none⟩ v) :=
  ⟨(Below.heap_setCell _ _ _ _ h.d3).trans h.vb, (Below.heap_setCell _ _ _ _ h.d5).trans h.gb, ⟨(Below.heap_setCell _ _ _ _ h.d6).trans h.row.bh⟩, by obtain ⟨cs, a, b⟩ := h.eb; exact ⟨_, set_same a, by rw [Array.size_setIfInBounds]; exact b⟩, h.d1, h.d2, h.d3, h.d4, h.d5, h.d6⟩
theorem GS.other {n : Nat} {B : Option Addr} {c m pv gp f ev : Nat} {fs : List Int} {w : World} (h : GS n B c m pv gp f ev fs w) (p : Addr) (v : Value) (h1 : pv ≠ p.block) (h2 : gp ≠ p.block) (h3 : f ≠ p.block) (h4 : ev ≠ p.block) : GS n B c m pv gp f ev fs (w.setCell p v) :=
  h.move (Below.heap_setCell _ _ _ _ h1) (Below.heap_setCell _ _ _ _ h2) (Below.heap_setCell _ _ _ _ h3) (Below.heap_setCell _ _ _ _ h4)
theorem GS.half {n : Nat} {B : Option Addr} {c m pv gp f ev : Nat} {fs : List Int} {w : World} (h : GS n B c m pv gp f ev fs w) (i : Nat) (hi : i < 2 * m) : (∃ u, w.cell? ⟨ev, i * 2, none⟩ = some u) ∧ (∃ u, w.cell? ⟨ev, i * 2 + 1, none⟩ = some u) ∧ (∀ j, w.frozen? ⟨ev, j, none⟩ = false) := by
  obtain ⟨cs, a, b⟩ := h.eb
  refine ⟨⟨_, (cells_of_block a _).trans (Array.getElem?_eq_getElem (by omega))⟩, ⟨_, (cells_of_block a _).trans (Array.getElem?_eq_getElem (by omega))⟩, fun j => frozen_of_block a j⟩

/-- The graph, and where its next half-edges go. -/
structure PS (B0 n : Nat) (B : Option Addr) (c m : Nat) (pv gp f ev nv g cap : Nat) (fs ns : List Int) (w : World) : Prop where
  gs : GS n B c m pv gp f ev fs w
  nb : w.heap[nv]? = some (.cells #[.slice (some ⟨g, 0, none⟩) (n + 1) cap] 24 (0, 0))
  rw : RowC g cap ns w
  nl : ns.length = n + 1
  e1 : nv ≠ pv ∧ nv ≠ gp ∧ nv ≠ f ∧ nv ≠ ev
  e2 : g ≠ pv ∧ g ≠ gp ∧ g ≠ f ∧ g ≠ ev ∧ g ≠ nv
  lo : B0 ≤ pv ∧ B0 ≤ gp ∧ B0 ≤ f ∧ B0 ≤ ev ∧ B0 ≤ nv ∧ B0 ≤ g
theorem PS.on {B0 n : Nat} {B : Option Addr} {c m pv gp f ev nv g cap : Nat} {fs ns : List Int} {w w' : World} (h : PS B0 n B c m pv gp f ev nv g cap fs ns w) (hb : Below w.heap.size w w') : PS B0 n B c m pv gp f ev nv g cap fs ns w' :=
  ⟨h.gs.on hb, (hb.block _ (block_lt h.nb)).trans h.nb, h.rw.move (hb.block _ h.rw.lt), h.nl, h.e1, h.e2, h.lo⟩
theorem PS.alloc {B0 n : Nat} {B : Option Addr} {c m pv gp f ev nv g cap : Nat} {fs ns : List Int} {w : World} (h : PS B0 n B c m pv gp f ev nv g cap fs ns w) (o : Obj) : PS B0 n B c m pv gp f ev nv g cap fs ns (w.alloc o) := h.on ((Below.refl _ _).alloc (Nat.le_refl _) _)
theorem PS.drew {B0 n : Nat} {B : Option Addr} {c m pv gp f ev nv g cap : Nat} {fs ns : List Int} {w : World} (h : PS B0 n B c m pv gp f ev nv g cap fs ns w) : PS B0 n B c m pv gp f ev nv g cap fs ns w.drew := h.on (Below.refl _ _).drew
theorem PS.setE {B0 n : Nat} {B : Option Addr} {c m pv gp f ev nv g cap : Nat} {fs ns : List Int} {w : World} (h : PS B0 n B c m pv gp f ev nv g cap fs ns w) (i : Nat) (v : Value) : PS B0 n B c m pv gp f ev nv g cap fs ns (w.setCell ⟨ev, i, none⟩ v) :=
  ⟨h.gs.setE i v, (Below.heap_setCell _ _ _ _ h.e1.2.2.2).trans h.nb, h.rw.move (Below.heap_setCell _ _ _ _ h.e2.2.2.2.1), h.nl, h.e1, h.e2, h.lo⟩
theorem PS.setN {B0 n : Nat} {B : Option Addr} {c m pv gp f ev nv g cap : Nat} {fs ns : List Int} {w : World} (h : PS B0 n B c m pv gp f ev nv g cap fs ns w) (i : Nat) (x : Int) : PS B0 n B c m pv gp f ev nv g cap fs (ns.set i x) (w.setCell ⟨g, i, none⟩ (.int .i64 x)) :=
  ⟨h.gs.other _ _ h.e2.1.symm h.e2.2.1.symm h.e2.2.2.1.symm h.e2.2.2.2.1.symm, (Below.heap_setCell _ _ _ _ h.e2.2.2.2.2.symm).trans h.nb, h.rw.set i x, by rw [List.length_set]; exact h.nl, h.e1, h.e2, h.lo⟩

set_option maxRecDepth 1000000 in
set_option maxHeartbeats 4000000 in
theorem put_any {B0 n : Nat} {B : Option Addr} {c m pv gp f ev nv g cap : Nat} {fs ns : List Int} {w : World} (h : PS B0 n B c m pv gp f ev nv g cap fs ns w) (hB : B0 ≤ w.heap.size) (v : Nat) (hv : v < n) (x : Nat) (hx : St.v ns v = x) (h1 : x < 2 * m) (hm : m ≤ 16384) (i t : Int) :
    Calls Try.prog 71 #[.int .i64 v, .agg #[.int .i64 i, .int .i64 t], .pointer (some ⟨pv, 0, none⟩), .pointer (some ⟨nv, 0, none⟩)] w fun e w' => (∃ r, e = .returned r) ∧ PS B0 n B c m pv gp f ev nv g cap fs (ns.set v (x + 1)) w' ∧ Below B0 w w' ∧ ∀ k, k < w.heap.size → k ≠ ev → k ≠ g → w'.heap[k]? = w.heap[k]? := by
  have s0 : w.cell? ⟨pv, 0, none⟩ = _ := cells_of_block h.gs.vb 0
  have s1 : w.cell? ⟨gp, 4, none⟩ = _ := cells_of_block h.gs.gb 4
  have s2 : w.cell? ⟨nv, 0, none⟩ = _ := cells_of_block h.nb 0
  have s3 := h.rw.cell (i := v) (by rw [h.nl]; omega)
  rw [hx] at s3
  have s4 := h.rw.frozen v
  obtain ⟨⟨u0, s5⟩, ⟨u1, s6⟩, fz⟩ := h.gs.half x h1
  have s7 := fz (x * 2)
  have s8 := fz (x * 2 + 1)
  have n1 := h.e2.2.2.2.1
  have n2 := h.e2.2.2.2.1.symm
  have n3 := h.e1.2.2.2
  have v1 : (v : Int) < n + 1 := by omega
  have x1 : (x : Int) < 2 * m := by omega
  have x2 : (x : Int) ≤ 32768 := by omega
  have n4 := h.e2.2.2.2.2.symm
  have q1 := h.gs.lts.1
  have q2 := h.gs.lts.2.2.2
  have q3 := h.rw.lt
  have q4 := block_lt h.nb
  have q5 := h.gs.lts.2.1
  have H := Lib.hid h; have HL := Lib.hid h.lo
  clear h fz hx
  go_enter Try.func71, Try.ntmps71
  go_wp2_with fail
  go_region
  go_wp2_with fail
  go_end0
  have hp := ((((H.out.setE (x * 2) (.int .i64 i)).setE (x * 2 + 1) (.int .i64 t)).setN v (x + 1)).alloc (.cells #[.int .i64 i, .int .i64 t] 114)).drew
  have hl := HL.out
  exact ⟨⟨_, rfl⟩, hp, (((((Below.refl B0 w).setCell (p := ⟨ev, x * 2, none⟩) hl.2.2.2.1 _).setCell (p := ⟨ev, x * 2 + 1, none⟩) hl.2.2.2.1 _).setCell (p := ⟨g, v, none⟩) hl.2.2.2.2.2 _).alloc (by simpa [World.setCell] using hB) _).drew, fun k hk h1 h2 => (Below.heap_alloc _ _ k (by simpa [World.setCell] using hk)).trans ((Below.heap_setCell _ _ _ _ h2).trans ((Below.heap_setCell _ _ _ _ h1).trans (Below.heap_setCell _ _ _ _ h1)))⟩
end Go.Proofs.Ytobaodkcjjgkdaa
