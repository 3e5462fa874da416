/- heaviest, walked. -/
import Derived.Test.YtobaodkcjjgkdaaMa6
import Derived.Laws.EntriesVeiled
namespace Go.Proofs.Ytobaodkcjjgkdaa
open Go Go.RowKit

/-- The rows of the first k places. -/
def rowK (l : List Edge) (a : List Int) (k x : Nat) : List Int := (Hp.inc (a.map (Hp.ends l)) x k).map Int.ofNat
theorem rowK_len (l : List Edge) (a : List Int) (k x : Nat) : (rowK l a k x).length ≤ k := by unfold rowK; rw [List.length_map]; exact Hp.inc_len _ _ _
theorem rowK_succ {l : List Edge} {a : List Int} {k U V : Nat} (hk : k < a.length) (hF : Hp.ends l (a.getD k 0) = (U, V)) (hne : U ≠ V) (x : Nat) :
    rowK l a (k + 1) x = if x = V then (if V = U then rowK l a k U ++ [(k : Int)] else rowK l a k V) ++ [(k : Int)] else if x = U then rowK l a k U ++ [(k : Int)] else rowK l a k x := by
  have e : (a.map (Hp.ends l)).getD k (0, 0) = (U, V) := by
    rw [← hF]
    simp [List.getD_eq_getElem?_getD, hk]
  unfold rowK
  rw [Hp.inc_succ, e, List.map_append]
  simp only
  by_cases h1 : x = V
  · subst h1
    rw [if_pos (show U = x ∨ x = x from .inr rfl), if_pos rfl, if_neg (show ¬ x = U from fun e => hne e.symm)]; rfl
  · by_cases h2 : x = U
    · subst h2
      rw [if_pos (show x = x ∨ V = x from .inl rfl), if_neg h1, if_pos rfl]; rfl
    · rw [if_neg (show ¬ (U = x ∨ V = x) by rintro (e | e); exact h2 e.symm; exact h1 e.symm), if_neg h1, if_neg h2]
      simp
def appS (ts : Array TypeId) (ty : TypeId) (vs : Array Value) : Sem Value := Builtin.append_ ts ty vs
theorem app_appS (ts : Array TypeId) (ty : TypeId) (vs : Array Value) : Builtin.append_ ts ty vs = appS ts ty vs := rfl
attribute [local go_sem ↓] app_appS

set_option maxRecDepth 1000000 in
set_option maxHeartbeats 4000000 in
theorem heaviest_any (n : Nat) (hn : n ≤ 65536) (A B : Option Addr) (ca cb : Nat) (l : List Edge) (a : List Int) (w : World) (hE : Edges A l w) (hO : IntsR B a w) (hv : Vld n l) (ha : ∀ x ∈ a, 0 ≤ x ∧ x < l.length) (hs : Hp.Seq (a.map (Hp.ends l))) (hl : l.length ≤ 1000000) (hal : a.length ≤ 1000000) (u v : Nat) (hu : u < n) (huv : u ≠ v) :
    Calls Try.prog 46 #[.int .i64 n, .slice A l.length ca, .slice B a.length cb, .int .i64 u, .int .i64 v] w fun e w' => (∃ r, e = .returned (.int .i64 r) ∧ ((¬ Hp.Conn (a.map (Hp.ends l)) (fun _ => True) u v ∧ r = -1) ∨ ∃ p : Nat, r = St.v a p ∧ p < a.length ∧ Hp.IsPi (a.map (Hp.ends l)) u v p)) ∧ Below w.heap.size w w' := by
  have HE := Lib.hid hE; have HO := Lib.hid hO; have HV := Lib.hid hv; have HA := Lib.hid ha; have HSQ := Lib.hid hs
  have hmk := mk_rows n (by omega)
  have n1 : (n : Int) ≤ 65536 := by omega
  have l1 : (l.length : Int) ≤ 1000000 := by omega
  have al1 : (a.length : Int) ≤ 1000000 := by omega
  obtain ⟨i0, hi, hz0, hz1, hz2⟩ := info_parts info_int
  clear hE hO hv ha hs
  go_enter Try.func46, Try.ntmps46
  go_wp2_with fail
  clear hmk
  obtain ⟨W0, hW0⟩ : ∃ W0, W0 = ((((w.alloc (.cells #[.slice A l.length ca] 22)).alloc (.cells #[.slice B a.length cb] 24)).alloc (.cells #[.int .i64 v] 3)).alloc (.cells (Array.replicate n nilS) 24)).alloc (.cells #[.slice (some ⟨w.heap.size + 1 + 1 + 1, 0, none⟩) n n] 59) := ⟨_, rfl⟩
  rw [← hW0]
  obtain ⟨b0, b1, b2, b3, b4, b5, b6⟩ := five_new _ _ _ _ _ _ _ hW0
  have HAR : Hid (AR n (w.heap.size + 1 + 1 + 1 + 1 + 1) (w.heap.size + 1 + 1 + 1 + 1) (w.heap.size + 1 + 1 + 1) (rowK l a 0) (List.replicate n nilS) W0) := Lib.hid (AR.start b4 b3 (by omega))
  have HB0 := Lib.hid b0; have HB1 := Lib.hid b1; have HB2 := Lib.hid b2; have HB6 := Lib.hid b6; have HZ := Lib.hid b5
  clear hW0 b0 b1 b2 b3 b4 b5 b6
  obtain ⟨pl, hpl⟩ : ∃ pl, w.heap.size = pl := ⟨_, rfl⟩
  have HPL := Lib.hid hpl
  rw [hpl] at HAR HB0 HB1 HB2 HB6 HZ ⊢
  clear hpl
  go_loopw [20] (fun x wr => ∃ k : Nat, k ≤ a.length ∧ x = .int .i64 k ∧ ∃ vs, AR n (pl + 1 + 1 + 1 + 1 + 1) (pl + 1 + 1 + 1 + 1) (pl + 1 + 1 + 1) (rowK l a k) vs wr ∧ Below (pl + 1 + 1 + 1) W0 wr) (fun x _ => a.length - (intOf x).toNat)
  case atStart => exact ⟨0, by omega, rfl, _, HAR.out, Below.refl _ _⟩
  case round =>
    obtain ⟨k, hk, rfl, vs, har, hb⟩ := hrel
    by_cases hlt : k < a.length
    · have hlt1 : (k : Int) < a.length := by omega
      have hxr := HA.out _ (List.getElem_mem hlt)
      obtain ⟨ei, hei⟩ := Int.eq_ofNat_of_zero_le hxr.1
      have heil : ei < l.length := by omega
      have hvx : St.v a k = (ei : Int) := by rw [← hei]; exact St.getD_at hlt
      obtain ⟨bE, oE, rfl, hcE⟩ := HE.out (by omega)
      obtain ⟨bO, oO, rfl, hcO⟩ := HO.out (by omega)
      have hbE : bE < w.heap.size := World.block_lt_of_cell? w _ (hcE ei heil).1
      have hbO : bO < w.heap.size := World.block_lt_of_cell? w _ (hcO k hlt)
      have hbw : Below pl w wr := HB6.out.trans (hb.mono (by omega))
      have ceE : ∀ i, wr.cell? ⟨bE, i, none⟩ = w.cell? ⟨bE, i, none⟩ := fun i => hbw.cell (p := ⟨bE, i, none⟩) (by show bE < pl; rw [← HPL.out]; exact hbE)
      have ceO : wr.cell? ⟨bO, oO + k, none⟩ = _ := (hbw.cell (p := ⟨bO, oO + k, none⟩) (by show bO < pl; rw [← HPL.out]; exact hbO)).trans (hcO k hlt)
      rw [hvx] at ceO
      have hvl := HV.out _ (List.getElem_mem heil)
      rw [← show l.getD ei edge0 = l[ei] by simp [List.getD_eq_getElem?_getD, heil]] at hvl
      obtain ⟨U, hU⟩ := Int.eq_ofNat_of_zero_le hvl.1
      obtain ⟨V, hV⟩ := Int.eq_ofNat_of_zero_le hvl.2.2.1
      have hUn : U < n := by omega
      have hVn : V < n := by omega
      have hUV : U ≠ V := by omega
      have hF : Hp.ends l (a.getD k 0) = (U, V) := by
        rw [show a.getD k 0 = (ei : Int) from hvx]
        unfold Hp.ends eU eV
        rw [Int.toNat_natCast, hU, hV]; rfl
      have HRK := Lib.hid (rowK_succ hlt hF hUV)
      have hbE2 : bE < pl := by rw [← HPL.out]; exact hbE
      have HKU : Hid (W0.cell? ⟨bE, oE + ei * 3, none⟩ = some (.int .i64 (U : Int))) := Lib.hid ((HB6.out.cell (p := ⟨bE, oE + ei * 3, none⟩) hbE2).trans ((hcE ei heil).1.trans (by rw [hU])))
      have HKV : Hid (W0.cell? ⟨bE, oE + ei * 3 + 1, none⟩ = some (.int .i64 (V : Int))) := Lib.hid ((HB6.out.cell (p := ⟨bE, oE + ei * 3 + 1, none⟩) hbE2).trans ((hcE ei heil).2.1.trans (by rw [hV])))
      have k1 : (k : Int) ≤ 1000000 := by omega
      have eil1 : (ei : Int) < l.length := by omega
      have U1 : (U : Int) < n := by omega
      have V1 : (V : Int) < n := by omega
      clear hxr hei hvx hcE hcO hbE hbO hbw ceE hvl hU hV hF
      have hpc : wr.cell? ⟨pl, 0, none⟩ = some (.slice (some ⟨bE, oE, none⟩) l.length ca) := cells_of_block ((hb.block pl (by omega)).trans HB0.out) 0
      have hac : wr.cell? ⟨pl + 1 + 1 + 1 + 1, 0, none⟩ = some (.slice (some ⟨pl + 1 + 1 + 1, 0, none⟩) n n) := cells_of_block har.ba 0
      have hgc := har.cell hUn
      have hgf := frozen_of_block har.bg U
      have how := har.ow U hUn
      have kE : wr.cell? ⟨bE, oE + ei * 3, none⟩ = some (.int .i64 (U : Int)) := (hb.cell (p := ⟨bE, oE + ei * 3, none⟩) (by show bE < _; omega)).trans HKU.out
      have hsz := block_lt har.ba
      have q1 : bE < wr.heap.size := by omega
      have q2 : pl < wr.heap.size := by omega
      have q3 : pl + 1 + 1 + 1 < wr.heap.size := by omega
      have haw := har.on (((Below.refl _ _).alloc (Nat.le_refl _) (.cells #[.int .i64 k] 3)).drew)
      have hbw : Below (pl + 1 + 1 + 1) W0 _ := hb.trans (((Below.refl _ _).alloc (by omega) (.cells #[.int .i64 k] 3)).drew)
      have hrl : (rowK l a k U).length ≤ k + 1 := Nat.le_succ_of_le (rowK_len l a k U)
      obtain ⟨gg, cap, w1, hrun, hown1, hgrow, hat, hlt2⟩ := run_append_lies (P := Try.prog) (wr.alloc (.cells #[.int .i64 k] 3)).drew 24 24 (pl + 1 + 1 + 1 + 1 + 1) 3 i0 (.int .i64 0) 1 8 Try.underlying24 hi hz0 hz1 hz2 rfl (by decide) (vAt vs U) (rowK l a k U).length (nums (rowK l a k U)) (how.alloc (.cells #[.int .i64 k] 3)).drew ⟨wr.heap.size, 0, none⟩ 1 1 [.int .i64 k] rfl (one_new wr k 3) (by simp [Value.oneCell']) (by omega) (by unfold maxLen; omega) (by omega) (by simp <;> omega) (wr.heap.size + 1) (by simp)
      rw [app_appS] at hrun
      have hnb : ∀ q, q < pl + 1 + 1 + 1 + 1 + 1 → some q ≠ (vAt vs U).ownBlock := fun q hq e => by have := (own_ge how q e.symm).1; omega
      have hwc := (hgrow.cell_far ⟨pl + 1 + 1 + 1, U, none⟩ (by simp <;> omega) (hnb _ (by simp))).trans (haw.cell hUn)
      have hwf := (hgrow.frozen_far ⟨pl + 1 + 1 + 1, U, none⟩ (by simp <;> omega) (hnb _ (by simp))).trans (frozen_of_block haw.bg U)
      have hwa : w1.cell? ⟨pl + 1 + 1 + 1 + 1, 0, none⟩ = some (.slice (some ⟨pl + 1 + 1 + 1, 0, none⟩) n n) := (hgrow.cell_far ⟨pl + 1 + 1 + 1 + 1, 0, none⟩ (by simp <;> omega) (hnb _ (by simp))).trans (cells_of_block haw.ba 0)
      have hwp : w1.cell? ⟨pl, 0, none⟩ = some (.slice (some ⟨bE, oE, none⟩) l.length ca) := (hgrow.cell_far ⟨pl, 0, none⟩ (by simp <;> omega) (hnb _ (by simp <;> omega))).trans (cells_of_block ((hbw.block pl (by omega)).trans HB0.out) 0)
      have hwe : w1.cell? ⟨bE, oE + ei * 3, none⟩ = some (.int .i64 (U : Int)) := (hgrow.cell_far ⟨bE, oE + ei * 3, none⟩ (by simp <;> omega) (hnb _ (by simp <;> omega))).trans ((hbw.cell (p := ⟨bE, oE + ei * 3, none⟩) (by show bE < _; omega)).trans HKU.out)
      have HAR1 : Hid (AR n (pl + 1 + 1 + 1 + 1 + 1) (pl + 1 + 1 + 1 + 1) (pl + 1 + 1 + 1) (fun y => if y = U then rowK l a k U ++ [(k : Int)] else rowK l a k y) _ _) := Lib.hid (haw.step (H := wr.heap.size + 1) hUn (by simp) hgrow hown1 (hat.elim (fun h => .inl h.symm) (fun h => .inr (by rw [h]; rfl))))
      have HBW1 := Lib.hid ((hbw.grown hgrow (by simp <;> omega) (fun q hq => by have := (own_ge how q hq).1; omega)).setCell (p := ⟨pl + 1 + 1 + 1, U, none⟩) (by show pl + 1 + 1 + 1 ≤ pl + 1 + 1 + 1; omega) (.slice (some ⟨gg, 0, none⟩) ((rowK l a k U).length + 1) cap))
      clear how haw hbw har hb hown1 hgrow hat hlt2 hnb hrl
      generalize (rowK l a k U).length + 1 = len1 at *
      generalize vAt vs U = vu at *
      go_wp2_with fail
      go_upto_region 5 with fail
      go_cut [42] (fun _ wx => ∃ vs', AR n (pl + 1 + 1 + 1 + 1 + 1) (pl + 1 + 1 + 1 + 1) (pl + 1 + 1 + 1) (fun y => if y = U then rowK l a k U ++ [(k : Int)] else rowK l a k y) vs' wx ∧ Below (pl + 1 + 1 + 1) W0 wx)
      case first => as_aux_lemma =>
        go_region
        go_wp2_with fail
        go_meet
        exact ⟨_, HAR1.out, HBW1.out⟩
      case rest => as_aux_lemma =>
      obtain ⟨w2x, hw2x⟩ : ∃ wy : World, wy = wc := ⟨_, rfl⟩
      subst hw2x
      obtain ⟨vs2, har2, hb2⟩ := hcut
      clear hpc hac hgc hgf kE hsz q1 q2 q3 hrun hwc hwf hwa hwp hwe HAR1 HBW1
      obtain ⟨rs1, hrs1⟩ : ∃ f : Nat → List Int, f = fun y => if y = U then rowK l a k U ++ [(k : Int)] else rowK l a k y := ⟨_, rfl⟩
      rw [← hrs1] at har2
      have hl1 : (rs1 V).length ≤ k + 1 := by
        rw [hrs1]
        show (if V = U then rowK l a k U ++ [(k : Int)] else rowK l a k V).length ≤ k + 1
        rw [if_neg (fun e => hUV e.symm)]
        exact Nat.le_succ_of_le (rowK_len l a k V)
      have HRS := Lib.hid hrs1
      clear hrs1
      have hpc : w2x.cell? ⟨pl, 0, none⟩ = some (.slice (some ⟨bE, oE, none⟩) l.length ca) := cells_of_block ((hb2.block pl (by omega)).trans HB0.out) 0
      have hac : w2x.cell? ⟨pl + 1 + 1 + 1 + 1, 0, none⟩ = some (.slice (some ⟨pl + 1 + 1 + 1, 0, none⟩) n n) := cells_of_block har2.ba 0
      have hgc := har2.cell hVn
      have hgf := frozen_of_block har2.bg V
      have how := har2.ow V hVn
      have kE : w2x.cell? ⟨bE, oE + ei * 3 + 1, none⟩ = some (.int .i64 (V : Int)) := (hb2.cell (p := ⟨bE, oE + ei * 3 + 1, none⟩) (by show bE < _; omega)).trans HKV.out
      have hsz := block_lt har2.ba
      have q1 : bE < w2x.heap.size := by omega
      have q2 : pl < w2x.heap.size := by omega
      have q3 : pl + 1 + 1 + 1 < w2x.heap.size := by omega
      have haw := har2.on (((Below.refl _ _).alloc (Nat.le_refl _) (.cells #[.int .i64 k] 3)).drew)
      have hbw : Below (pl + 1 + 1 + 1) W0 _ := hb2.trans (((Below.refl _ _).alloc (by omega) (.cells #[.int .i64 k] 3)).drew)
      have hrl : (rs1 V).length ≤ k + 1 := hl1
      obtain ⟨gg, cap, w1, hrun, hown1, hgrow, hat, hlt2⟩ := run_append_lies (P := Try.prog) (w2x.alloc (.cells #[.int .i64 k] 3)).drew 24 24 (pl + 1 + 1 + 1 + 1 + 1) 3 i0 (.int .i64 0) 1 8 Try.underlying24 hi hz0 hz1 hz2 rfl (by decide) (vAt vs2 V) (rs1 V).length (nums (rs1 V)) (how.alloc (.cells #[.int .i64 k] 3)).drew ⟨w2x.heap.size, 0, none⟩ 1 1 [.int .i64 k] rfl (one_new w2x k 3) (by simp [Value.oneCell']) (by omega) (by unfold maxLen; omega) (by omega) (by simp <;> omega) (w2x.heap.size + 1) (by simp)
      rw [app_appS] at hrun
      have hnb : ∀ q, q < pl + 1 + 1 + 1 + 1 + 1 → some q ≠ (vAt vs2 V).ownBlock := fun q hq e => by have := (own_ge how q e.symm).1; omega
      have hwc := (hgrow.cell_far ⟨pl + 1 + 1 + 1, V, none⟩ (by simp <;> omega) (hnb _ (by simp))).trans (haw.cell hVn)
      have hwf := (hgrow.frozen_far ⟨pl + 1 + 1 + 1, V, none⟩ (by simp <;> omega) (hnb _ (by simp))).trans (frozen_of_block haw.bg V)
      have hwa : w1.cell? ⟨pl + 1 + 1 + 1 + 1, 0, none⟩ = some (.slice (some ⟨pl + 1 + 1 + 1, 0, none⟩) n n) := (hgrow.cell_far ⟨pl + 1 + 1 + 1 + 1, 0, none⟩ (by simp <;> omega) (hnb _ (by simp))).trans (cells_of_block haw.ba 0)
      have hwp : w1.cell? ⟨pl, 0, none⟩ = some (.slice (some ⟨bE, oE, none⟩) l.length ca) := (hgrow.cell_far ⟨pl, 0, none⟩ (by simp <;> omega) (hnb _ (by simp <;> omega))).trans (cells_of_block ((hbw.block pl (by omega)).trans HB0.out) 0)
      have hwe : w1.cell? ⟨bE, oE + ei * 3 + 1, none⟩ = some (.int .i64 (V : Int)) := (hgrow.cell_far ⟨bE, oE + ei * 3 + 1, none⟩ (by simp <;> omega) (hnb _ (by simp <;> omega))).trans ((hbw.cell (p := ⟨bE, oE + ei * 3 + 1, none⟩) (by show bE < _; omega)).trans HKV.out)
      have HAR1 : Hid (AR n (pl + 1 + 1 + 1 + 1 + 1) (pl + 1 + 1 + 1 + 1) (pl + 1 + 1 + 1) (fun y => if y = V then rs1 V ++ [(k : Int)] else rs1 y) _ _) := Lib.hid (haw.step (H := w2x.heap.size + 1) hVn (by simp) hgrow hown1 (hat.elim (fun h => .inl h.symm) (fun h => .inr (by rw [h]; rfl))))
      have HBW1 := Lib.hid ((hbw.grown hgrow (by simp <;> omega) (fun q hq => by have := (own_ge how q hq).1; omega)).setCell (p := ⟨pl + 1 + 1 + 1, V, none⟩) (by show pl + 1 + 1 + 1 ≤ pl + 1 + 1 + 1; omega) (.slice (some ⟨gg, 0, none⟩) ((rs1 V).length + 1) cap))
      clear hl1 how haw hbw har2 hb2 hown1 hgrow hat hlt2 hnb hrl
      generalize (rs1 V).length + 1 = len1 at *
      generalize vAt vs2 V = vu at *
      go_wp2_with fail
      go_region
      go_wp2_with fail
      go_roundw
      case rel =>
        refine ⟨k + 1, by omega, by go_num, _, HAR1.out.congr fun x _ => ?_, HBW1.out⟩
        rw [HRK.out x, HRS.out]
      case measure => simp [intOf]; omega
    · have hkk : k = a.length := by omega
      subst hkk
      have hsz := block_lt har.ba
      have e0 := (hb.block pl (by omega)).trans HB0.out
      have e1 := (hb.block (pl + 1) (by omega)).trans HB1.out
      have e2 := (hb.block (pl + 1 + 1) (by omega)).trans HB2.out
      have hbw : Below pl w wr := HB6.out.trans (hb.mono (by omega))
      have hbw2 : Below w.heap.size w wr := by rw [HPL.out]; exact hbw
      have hbW : Below wr.heap.size wr (wr.alloc (.cells #[findF (pl + 1 + 1) (pl + 1 + 1 + 1 + 1) pl (pl + 1) wr.heap.size] 111)) := (Below.refl _ _).alloc (Nat.le_refl _) _
      have hfs : FS n l a v (pl + 1 + 1) (pl + 1 + 1 + 1 + 1) pl (pl + 1) wr.heap.size (pl + 1 + 1 + 1) A B ca cb (wr.alloc (.cells #[findF (pl + 1 + 1) (pl + 1 + 1 + 1 + 1) pl (pl + 1) wr.heap.size] 111)) :=
        ⟨cells_of_block ((hbW.block _ (by omega)).trans e2) 0, cells_of_block (har.on hbW).ba 0, cells_of_block ((hbW.block _ (by omega)).trans e0) 0, cells_of_block ((hbW.block _ (by omega)).trans e1) 0, cells_of_block (block_new _ _ _ rfl) 0, (HE.out.on hbw2).on hbW, (HO.out.on hbw2).on hbW, fun x hx => (har.on hbW).read hx⟩
      have hreach : ∀ z, Hp.Conn (a.map (Hp.ends l)) (Hp.But (-1)) u z → z ∈ List.range n := fun z hz => List.mem_range.2 (hz.lt hu fun k c d hk => by
        rw [List.getElem?_map] at hk
        cases hak : a[k]? with
        | none => rw [hak] at hk; cases hk
        | some i =>
          rw [hak] at hk
          have hm := List.mem_of_getElem? hak
          have := Hp.ends_lt HV.out (HA.out _ hm)
          injection hk with hk
          injection hk with h1 h2
          rw [← h1, ← h2]
          exact this)
      have HFS := Lib.hid hfs; have HRE := Lib.hid hreach; have HE1 := Lib.hid e1; have HBW := Lib.hid hbW; have HBW2 := Lib.hid hbw2
      have q1 : pl + 1 < wr.heap.size := by omega
      have HFC : Hid (∀ (e' : Ending) (w' : World), _) := Lib.hid fun _ _ => (find_any (v := v) HV.out (by omega) hl hal HA.out HSQ.out (n + 1) (List.range n) u (-1) (-1) _ (by simp) HRE.out (fun j h => absurd h (by omega)) hu (by omega) (by omega) HFS.out)
      clear hsz e0 e1 e2 hbw hbw2 hbW hfs hreach har hb
      go_wp2_with fail
      refine (HFC.out (.returned nilS) w).mono ?_
      rintro e w2 ⟨⟨r, rfl, hf⟩, hb2⟩
      refine Hid.out ?_
      have HB2 := Lib.hid hb2
      have HBX : Hid (Below w.heap.size w w2) := Lib.hid ((HBW2.out.alloc HBW2.out.size _).trans (hb2.mono (by have := HBW2.out.size; simp; omega)))
      rcases hf.top huv with ⟨hc, rfl⟩ | ⟨p, rfl, hp⟩
      · have HC := Lib.hid hc
        clear hf hb2 hc
        refine Lib.hid ?_
        go_wp2_with fail
        go_ret
        exact ⟨⟨-1, rfl, .inl ⟨HC.out, rfl⟩⟩, HBX.out⟩
      · have hpl := hp.lt
        rw [List.length_map] at hpl
        obtain ⟨bb, oo, rfl, hcc⟩ := HO.out (by omega)
        have k1 := (HBX.out.cell (p := ⟨bb, oo + p, none⟩) (World.block_lt_of_cell? w _ (hcc p hpl))).trans (hcc p hpl)
        have k2 : w2.cell? ⟨pl + 1, 0, none⟩ = some (.slice (some ⟨bb, oo, none⟩) a.length cb) := (hb2.cell (p := ⟨pl + 1, 0, none⟩) (by simp; omega)).trans (cells_of_block ((HBW.out.block _ q1).trans HE1.out) 0)
        have p1 : (p : Int) < a.length := by omega
        have HP := Lib.hid hp
        generalize hx : St.v a p = x at *
        have HX := Lib.hid hx
        clear hf hb2 hp hcc hx
        refine Lib.hid ?_
        go_wp2_with fail
        go_ret
        exact ⟨⟨x, rfl, .inr ⟨p, HX.out.symm, hpl, HP.out⟩⟩, HBX.out⟩
end Go.Proofs.Ytobaodkcjjgkdaa
