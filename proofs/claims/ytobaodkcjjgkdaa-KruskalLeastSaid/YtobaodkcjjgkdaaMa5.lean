/- Plain facts on rows that are sorted block by block. The stable sort, and Order, walked. kruskal.Order, walked. kruskal.Forest, walked. kruskal.Weight, walked. Forests, in plain Lean: what is connected by which edges; a forest has one path alone. What Kruskal's algorithm grows is a forest, in plain Lean. One edge more in Kruskal's algorithm, in plain Lean. -/
import Derived.Test.YtobaodkcjjgkdaaMa4
namespace Go.Proofs.Ytobaodkcjjgkdaa.St
variable {wt : Int → Int}

/-- The places from a to b are sorted, and hold numbers from a to b. -/
structure BOK (wt : Int → Int) (a b : Nat) (ys : List Int) : Prop where
  srt : Srt wt a b ys
  rng : ∀ i, a ≤ i → i < b → (a : Int) ≤ v ys i ∧ v ys i < b
theorem BOK.empty (a : Nat) (ys : List Int) : BOK wt a a ys := ⟨fun i j h1 h2 h3 => by omega, fun i h1 h2 => by omega⟩
theorem BOK.keep {a b p q : Nat} {ys zs : List Int} (h : BOK wt p q ys) (hm : Mv a b ys zs) (hd : q ≤ a ∨ b ≤ p) : BOK wt p q zs := by
  have e : ∀ i, p ≤ i → i < q → v zs i = v ys i := fun i h1 h2 => hm.v_out (by omega)
  refine ⟨fun i j h1 h2 h3 => ?_, fun i h1 h2 => ?_⟩
  · rw [e i h1 (by omega), e j (by omega) h3]; exact h.srt i j h1 h2 h3
  · rw [e i h1 h2]; exact h.rng i h1 h2
theorem BOK.lss {a m b : Nat} {ys : List Int} (h : BOK wt a m ys) (k : BOK wt m b ys) : Lss a m b ys := fun i j h1 h2 h3 h4 => by
  have := (h.rng i h1 h2).2; have := (k.rng j h3 h4).1; omega
theorem BOK.merged {a m b : Nat} {ys zs : List Int} (hb : b ≤ ys.length) (h : BOK wt a m ys) (k : BOK wt m b ys) (ham : a ≤ m) (hmb : m ≤ b) (hm : Mv a b ys zs) (hs : Srt wt a b zs) : BOK wt a b zs := by
  refine ⟨hs, fun i h1 h2 => ?_⟩
  obtain ⟨j, j1, j2, e⟩ := hm.v hb h1 h2
  rw [e]
  by_cases hj : j < m
  · have := h.rng j j1 hj; omega
  · have := k.rng j (by omega) j2; omega
/-- Numbers in their own places. -/
def Own (a b : Nat) (xs : List Int) : Prop := ∀ i, a ≤ i → i < b → v xs i = i
theorem Own.inc {a b : Nat} {xs : List Int} (h : Own a b xs) : Inc a b xs := fun i j h1 h2 h3 => by rw [h i h1 (by omega), h j (by omega) h3]; omega
theorem Own.bok {a b : Nat} {xs ys : List Int} (h : Own a b xs) (hb : b ≤ xs.length) (hm : Mv a b xs ys) (hs : Srt wt a b ys) : BOK wt a b ys := by
  refine ⟨hs, fun i h1 h2 => ?_⟩
  obtain ⟨j, j1, j2, e⟩ := hm.v hb h1 h2
  rw [e, h j j1 j2]; omega
theorem Own.out {a b c d : Nat} {xs ys : List Int} (h : Own c d xs) (hm : Mv a b xs ys) (hd : b ≤ c) : Own c d ys := fun i h1 h2 => by
  rw [hm.v_out (.inr (by omega))]; exact h i h1 h2
/-- All blocks of B places are sorted. -/
def Bks (wt : Int → Int) (B n : Nat) (ys : List Int) : Prop := ∀ p, B * p < n → BOK wt (B * p) (min (B * (p + 1)) n) ys
theorem Bks.all {B n : Nat} {ys : List Int} (h : Bks wt B n ys) (hB : n ≤ B) (h0 : 0 < n) : Srt wt 0 n ys := by
  have := (h 0 (by omega)).srt
  rw [Nat.mul_zero, Nat.mul_one, Nat.min_eq_right hB] at this
  exact this
/-- While blocks of B places are merged by twos: q of the double ones are sorted. -/
structure Mid (wt : Int → Int) (B q n : Nat) (ys : List Int) : Prop where
  done : ∀ p, p < q → BOK wt (2 * B * p) (2 * B * (p + 1)) ys
  left : ∀ p, 2 * q ≤ p → B * p < n → BOK wt (B * p) (min (B * (p + 1)) n) ys
theorem Mid.start {B n : Nat} {ys : List Int} (h : Bks wt B n ys) : Mid wt B 0 n ys := ⟨fun p hp => by omega, fun p _ hp => h p hp⟩
theorem two_q (B q : Nat) : B * (2 * q) = 2 * B * q := by rw [← Nat.mul_assoc, Nat.mul_comm B 2]
theorem mul_s (B q : Nat) : B * (q + 1) = B * q + B := by rw [Nat.mul_add, Nat.mul_one]
/-- The two next blocks, both whole. -/
theorem Mid.next2 {B q n : Nat} {ys : List Int} (h : Mid wt B q n ys) (hB : 0 < B) (hn : 2 * B * q + 2 * B ≤ n) : BOK wt (2 * B * q) (2 * B * q + B) ys ∧ BOK wt (2 * B * q + B) (2 * B * q + 2 * B) ys := by
  have h1 := h.left (2 * q) (Nat.le_refl _) (by rw [two_q]; omega)
  have h2 := h.left (2 * q + 1) (by omega) (by rw [mul_s, two_q]; omega)
  rw [mul_s, two_q, Nat.min_eq_left (by omega)] at h1
  rw [mul_s B (2 * q + 1), mul_s, two_q, Nat.min_eq_left (by omega), show 2 * B * q + B + B = 2 * B * q + 2 * B by omega] at h2
  exact ⟨h1, h2⟩
theorem Mid.step {B q n : Nat} {ys zs : List Int} (h : Mid wt B q n ys) (hm : Mv (2 * B * q) (2 * B * q + 2 * B) ys zs) (hk : BOK wt (2 * B * q) (2 * B * q + 2 * B) zs) : Mid wt B (q + 1) n zs := by
  refine ⟨fun p hp => ?_, fun p hp hn => ?_⟩
  · by_cases e : p = q
    · subst e; rw [mul_s]; exact hk
    · have : 2 * B * (p + 1) ≤ 2 * B * q := Nat.mul_le_mul_left _ (by omega)
      exact (h.done p (by omega)).keep hm (.inl this)
  · have : 2 * B * q + 2 * B ≤ B * p := by
      have := Nat.mul_le_mul_left B (show 2 * (q + 1) ≤ p by omega)
      rw [two_q, mul_s] at this; exact this
    exact (h.left p (by omega) hn).keep hm (.inr this)
/-- The last two blocks, the second one perhaps cut. -/
theorem Mid.last2 {B q n : Nat} {ys : List Int} (h : Mid wt B q n ys) (h1 : 2 * B * q + B < n) (h2 : n < 2 * B * q + 2 * B) : BOK wt (2 * B * q) (2 * B * q + B) ys ∧ BOK wt (2 * B * q + B) n ys := by
  have k1 := h.left (2 * q) (Nat.le_refl _) (by rw [two_q]; omega)
  have k2 := h.left (2 * q + 1) (by omega) (by rw [mul_s, two_q]; omega)
  rw [mul_s, two_q, Nat.min_eq_left (by omega)] at k1
  rw [mul_s B (2 * q + 1), mul_s, two_q, Nat.min_eq_right (by omega)] at k2
  exact ⟨k1, k2⟩
theorem Mid.stop {B q n : Nat} {ys zs : List Int} (h : Mid wt B q n ys) (hq : 2 * B * q ≤ n) (h2 : n < 2 * B * q + 2 * B) (hm : Mv (2 * B * q) n ys zs) (hk : 2 * B * q < n → BOK wt (2 * B * q) n zs) : Bks wt (2 * B) n zs := by
  intro p hp
  by_cases e : p = q
  · subst e
    rw [mul_s, Nat.min_eq_right (by omega)]
    exact hk hp
  · have hlt : p < q := by
      rcases Nat.lt_or_ge p q with h | h
      · exact h
      · have := Nat.mul_le_mul_left (2 * B) (show q + 1 ≤ p by omega)
        rw [mul_s] at this; omega
    have : 2 * B * (p + 1) ≤ 2 * B * q := Nat.mul_le_mul_left _ (by omega)
    rw [Nat.min_eq_left (by omega)]
    exact (h.done p hlt).keep hm (.inl this)
/-- No second block: the last one is sorted already. -/
theorem Mid.stop1 {B q n : Nat} {ys : List Int} (h : Mid wt B q n ys) (hq : 2 * B * q ≤ n) (h1 : n ≤ 2 * B * q + B) (h2 : n < 2 * B * q + 2 * B) : Bks wt (2 * B) n ys := by
  refine h.stop hq h2 (Mv.refl _ _ _) fun hlt => ?_
  have k1 := h.left (2 * q) (Nat.le_refl _) (by rw [two_q]; omega)
  rw [mul_s, two_q, Nat.min_eq_right h1] at k1
  exact k1
/-- While the blocks of 20 are being sorted: q of them are. -/
structure Fst (wt : Int → Int) (q n : Nat) (ys : List Int) : Prop where
  done : ∀ p, p < q → BOK wt (20 * p) (20 * (p + 1)) ys
  left : Own (20 * q) n ys
theorem Fst.start {n : Nat} {ys : List Int} (h : Own 0 n ys) : Fst wt 0 n ys := ⟨fun p hp => by omega, h⟩
theorem Fst.step {q n : Nat} {ys zs : List Int} (hl : n ≤ ys.length) (h : Fst wt q n ys) (hn : 20 * q + 20 ≤ n) (hm : Mv (20 * q) (20 * q + 20) ys zs) (hs : Srt wt (20 * q) (20 * q + 20) zs) : Fst wt (q + 1) n zs := by
  refine ⟨fun p hp => ?_, fun i h1 h2 => ?_⟩
  · by_cases e : p = q
    · subst e
      exact Own.bok (fun i h1 h2 => h.left i h1 (by omega)) (by omega) hm hs
    · exact (h.done p (by omega)).keep hm (.inl (by omega))
  · rw [hm.v_out (.inr (by omega))]; exact h.left i (by omega) h2
theorem Fst.stop {q n : Nat} {ys zs : List Int} (hl : n ≤ ys.length) (h : Fst wt q n ys) (hq : 20 * q ≤ n) (hn : n < 20 * q + 20) (hm : Mv (20 * q) n ys zs) (hs : Srt wt (20 * q) n zs) : Bks wt 20 n zs := by
  intro p hp
  by_cases e : p = q
  · subst e
    rw [Nat.min_eq_right (by omega)]
    exact Own.bok h.left hl hm hs
  · rw [Nat.min_eq_left (by omega)]
    exact (h.done p (by omega)).keep hm (.inl (by omega))
end Go.Proofs.Ytobaodkcjjgkdaa.St
namespace Go.Proofs.Ytobaodkcjjgkdaa
open Go Go.RowKit

theorem ins_int (g c a b : Nat) {x y : Int} (hx : x = a) (hy : y = b) (l : List Edge) (xs : List Int) (n : Nat) (hxn : xs.length = n) (hln : l.length = n) (w : World) (h : Row g xs w) (hc : Cmpr g c l w) (hr : InR n xs) (hinc : St.Inc a b xs) (hab : a ≤ b) (hb : b ≤ n) (hn : n ≤ 1000000) :
    Calls Try.prog 81 #[.slice (some ⟨g, 0, none⟩) n n, .int .i64 x, .int .i64 y, cmpF c] w fun e w' => e = .returned (.tuple #[]) ∧ ∃ ys, St.Mv a b xs ys ∧ St.Srt (wtOf l) a b ys ∧ Row g ys w' ∧ w.grownBy w' (some g) := by
  subst hx hy; exact ins_any g c a b l xs n hxn hln w h hc hr hinc hab hb hn

set_option maxRecDepth 1000000 in
set_option maxHeartbeats 8000000 in
theorem stable_any (g c n : Nat) (l : List Edge) (hln : l.length = n) (hn : n ≤ 1000000) (xs : List Int) (hxn : xs.length = n) (w : World) (h : Row g xs w) (hc : Cmpr g c l w) (ho : St.Own 0 n xs) :
    Calls Try.prog 61 #[.slice (some ⟨g, 0, none⟩) n n, .int .i64 n, cmpF c] w fun e w' => e = .returned (.tuple #[]) ∧ ∃ ys, St.Mv 0 n xs ys ∧ St.Srt (wtOf l) 0 n ys ∧ Row g ys w' ∧ w.grownBy w' (some g) := by
  have HR := Lib.hid h; have HX := Lib.hid hxn; have HLN := Lib.hid hln; have HC := Lib.hid hc; have HO := Lib.hid ho
  have HIR : Hid (InR n xs) := Lib.hid fun i hi => by rw [ho i (by omega) (by omega)]; omega
  have hn1 : (n : Int) ≤ 1000000 := by omega
  clear h hxn hln hc ho
  go_enter Try.func61, Try.ntmps61
  go_wp2
  go_loopw [7, 8] (fun x y wr => ∃ q : Nat, 20 * q ≤ n ∧ x = .int .i64 ((20 * q : Nat) : Int) ∧ y = .int .i64 ((20 * q + 20 : Nat) : Int) ∧ ∃ ys, Hid (St.Mv 0 n xs ys ∧ St.Fst (wtOf l) q n ys) ∧ Row g ys wr ∧ w.grownBy wr (some g)) (fun x _ _ => n - (intOf x).toNat)
  case atStart => exact ⟨0, by omega, rfl, rfl, xs, Lib.hid ⟨St.Mv.refl _ _ _, St.Fst.start HO.out⟩, HR.out, World.grownBy.refl _ _⟩
  case round =>
    obtain ⟨q, hq, rfl, rfl, ys, hY, hrow, hg⟩ := hrel
    have hyl : ys.length = n := hY.out.1.len.trans HX.out
    have HROW := Lib.hid hrow; have HG := Lib.hid hg; have HYL := Lib.hid hyl
    clear hrow hg hyl
    obtain ⟨a, ha⟩ : ∃ a, a = 20 * q := ⟨_, rfl⟩
    rw [← ha] at hq ⊢
    have HA := Lib.hid ha
    clear ha
    by_cases hlt : a + 20 ≤ n
    · have hlt1 : (a : Int) + 20 ≤ n := by omega
      have hlt2 : ((a + 20 : Nat) : Int) ≤ n := by omega
      go_wp2_with (go_at_call 81; refine (ins_int g c a (a + 20) rfl ?_ l ys n HYL.out HLN.out _ HROW.out (HC.out.keep HG.out) (HIR.out.mv hY.out.1) (St.Own.inc fun i h1 h2 => hY.out.2.left i (by have := HA.out; omega) (by omega)) (by omega) hlt hn).mono ?_; omega; rintro e w1 ⟨rfl, zs, hm1, hs1, hr1, hg1⟩; have HZ1 := Lib.hid (And.intro hm1 hs1); have HR1 := Lib.hid hr1; have HG1 := Lib.hid hg1; clear hm1 hs1 hr1 hg1)
      go_roundw
      case rel =>
        have ha := HA.out
        have hz := HZ1.out
        rw [ha] at hz
        refine ⟨q + 1, by omega, by congr 1; omega, by congr 1; omega, zs, Lib.hid ⟨hY.out.1.trans (HZ1.out.1.mono (by omega) hlt), hY.out.2.step (by rw [HYL.out]; exact Nat.le_refl _) (by omega) hz.1 hz.2⟩, HR1.out, only_trans HG.out HG1.out⟩
      case measure => simp [intOf]; omega
    · have hlt2 : ¬ ((a + 20 : Nat) : Int) ≤ n := by omega
      have hlt1 : ¬ (a : Int) + 20 ≤ n := by omega
      go_wp2_with (go_at_call 81; refine (ins_int g c a n rfl rfl l ys n HYL.out HLN.out _ HROW.out (HC.out.keep HG.out) (HIR.out.mv hY.out.1) (St.Own.inc fun i h1 h2 => hY.out.2.left i (by have := HA.out; omega) h2) hq (Nat.le_refl _) hn).mono ?_; rintro e w1 ⟨rfl, zs, hm1, hs1, hr1, hg1⟩; have HZ1 := Lib.hid (And.intro hm1 hs1); have HR1 := Lib.hid hr1; have HG1 := Lib.hid hg1; clear hm1 hs1 hr1 hg1)
      have HB : Hid (St.Bks (wtOf l) 20 n zs) := Lib.hid (by
        have ha := HA.out
        have hz := HZ1.out
        rw [ha] at hz
        exact hY.out.2.stop (by rw [HYL.out]; exact Nat.le_refl _) (by omega) (by omega) hz.1 hz.2)
      have HM : Hid (St.Mv 0 n xs zs) := Lib.hid (hY.out.1.trans (HZ1.out.1.mono (by omega) (Nat.le_refl _)))
      have HRZ := Lib.hid HR1.out; have HGZ := Lib.hid (only_trans HG.out HG1.out)
      clear HZ1 HR1 HG1 HROW HG HYL hY hlt hlt1 hlt2 HA hq
      go_loopw [6, 7, 8, 9] (fun x _ _ _ wr => ∃ B : Nat, 1 ≤ B ∧ B ≤ 2000000 ∧ x = .int .i64 B ∧ ∃ ys, Hid (St.Mv 0 n xs ys ∧ St.Bks (wtOf l) B n ys) ∧ Row g ys wr ∧ w.grownBy wr (some g)) (fun x _ _ _ _ => n - (intOf x).toNat)
      case atStart => exact ⟨20, by omega, by omega, rfl, zs, Lib.hid ⟨HM.out, HB.out⟩, HRZ.out, HGZ.out⟩
      case round =>
        obtain ⟨B, hB1, hB2, rfl, ys, hY, hrow, hg⟩ := hrel
        have B1 : (1 : Int) ≤ B := by omega
        have B2 : (B : Int) ≤ 2000000 := by omega
        have HROW := Lib.hid hrow; have HG := Lib.hid hg
        clear hrow hg HM HRZ HGZ HB
        by_cases hlt : B < n
        · have hlt1 : (B : Int) < n := by omega
          go_wp2_with fail
          go_loopw [7, 8] (fun x y wx => ∃ q : Nat, 2 * B * q ≤ n ∧ x = .int .i64 ((2 * B * q : Nat) : Int) ∧ y = .int .i64 ((2 * B * q + 2 * B : Nat) : Int) ∧ ∃ zs, Hid (St.Mv 0 n xs zs ∧ St.Mid (wtOf l) B q n zs) ∧ Row g zs wx ∧ w.grownBy wx (some g)) (fun x _ _ => n - (intOf x).toNat)
          case atStart => exact ⟨0, by omega, rfl, by congr 1; simp, ys, Lib.hid ⟨hY.out.1, St.Mid.start hY.out.2⟩, HROW.out, HG.out⟩
          case round =>
            obtain ⟨q, hq, rfl, rfl, zs, hZ, hrow, hg⟩ := hrel
            have hzl : zs.length = n := hZ.out.1.len.trans HX.out
            have HROWZ := Lib.hid hrow; have HGZ := Lib.hid hg; have HZL := Lib.hid hzl
            clear hrow hg hzl HROW HG
            have hstep : St.Mid (wtOf l) B q n zs := hZ.out.2
            have HSTEP := Lib.hid hstep
            have hq1 : 2 * B * (q + 1) = 2 * B * q + 2 * B := St.mul_s _ _
            have HQ1 := Lib.hid hq1
            clear hstep hq1
            obtain ⟨a, ha⟩ : ∃ a, a = 2 * B * q := ⟨_, rfl⟩
            rw [← ha] at hq HQ1 ⊢
            have HA := Lib.hid ha
            clear ha
            by_cases hle : a + 2 * B ≤ n
            · have hle1 : ((a + 2 * B : Nat) : Int) ≤ n := by omega
              have hle2 : (a : Int) + 2 * B ≤ n := by omega
              have hb := hZ.out.2.next2 (by omega) (by rw [← HA.out]; exact hle)
              rw [← HA.out] at hb
              have HCALL := Lib.hid (sym_all g c n l HLN.out hn _ a (a + B) (a + 2 * B) zs _ (Nat.le_refl _) ⟨HZL.out, HROWZ.out, HC.out.keep HGZ.out, HIR.out.mv hZ.out.1, hb.1.srt, hb.2.srt, hb.1.lss hb.2, by omega, by omega, hle⟩)
              clear hb
              go_wp2_with (go_at_call 82; refine (HCALL.out.at_ rfl ?_ ?_).mono ?_; omega; omega; rintro e w1 ⟨rfl, us, hm1, hs1, hr1, hg1⟩; have HZ1 := Lib.hid (And.intro hm1 hs1); have HR1 := Lib.hid hr1; have HG1 := Lib.hid hg1; clear hm1 hs1 hr1 hg1)
              go_roundw
              case rel =>
                have ha := HA.out
                have hz := HZ1.out
                have hb := hZ.out.2.next2 (by omega) (by rw [← ha]; exact hle)
                rw [← ha] at hb
                have hbok := St.BOK.merged (by rw [HZL.out]; exact hle) hb.1 hb.2 (by omega) (by omega) hz.1 hz.2
                rw [ha] at hbok hz
                exact ⟨q + 1, by rw [HQ1.out]; exact hle, by congr 1; rw [HQ1.out]; omega, by congr 1; rw [HQ1.out]; omega, us, Lib.hid ⟨hZ.out.1.trans (HZ1.out.1.mono (by omega) hle), hZ.out.2.step hz.1 hbok⟩, HR1.out, only_trans HGZ.out HG1.out⟩
              case measure => simp [intOf]; omega
            · have hle1 : ¬ ((a + 2 * B : Nat) : Int) ≤ n := by omega
              have hle2 : ¬ (a : Int) + 2 * B ≤ n := by omega
              by_cases hm : a + B < n
              · have hm1 : (a : Int) + B < n := by omega
                have hb := hZ.out.2.last2 (by rw [← HA.out]; exact hm) (by rw [← HA.out]; omega)
                rw [← HA.out] at hb
                have HCALL := Lib.hid (sym_all g c n l HLN.out hn _ a (a + B) n zs _ (Nat.le_refl _) ⟨HZL.out, HROWZ.out, HC.out.keep HGZ.out, HIR.out.mv hZ.out.1, hb.1.srt, hb.2.srt, hb.1.lss hb.2, by omega, hm, Nat.le_refl _⟩)
                clear hb
                go_wp2_with (go_at_call 82; refine (HCALL.out.at_ rfl ?_ rfl).mono ?_; omega; rintro e w1 ⟨rfl, us, hm1, hs1, hr1, hg1⟩; have HZ1 := Lib.hid (And.intro hm1 hs1); have HR1 := Lib.hid hr1; have HG1 := Lib.hid hg1; clear hm1 hs1 hr1 hg1)
                go_roundw
                case rel =>
                  have ha := HA.out
                  have hz := HZ1.out
                  have hb := hZ.out.2.last2 (by rw [← ha]; exact hm) (by rw [← ha]; omega)
                  rw [← ha] at hb
                  have hbok := St.BOK.merged (by rw [HZL.out]; exact Nat.le_refl _) hb.1 hb.2 (by omega) (by omega) hz.1 hz.2
                  rw [ha] at hbok hz
                  exact ⟨2 * B, by omega, by omega, by congr 1; omega, us, Lib.hid ⟨hZ.out.1.trans (HZ1.out.1.mono (by omega) (Nat.le_refl _)), hZ.out.2.stop (by rw [← ha]; exact hq) (by rw [← ha]; omega) hz.1 fun _ => hbok⟩, HR1.out, only_trans HGZ.out HG1.out⟩
                case measure => simp [intOf]; omega
              · have hm1 : ¬ (a : Int) + B < n := by omega
                go_wp2_with fail
                go_roundw
                case rel =>
                  have ha := HA.out
                  exact ⟨2 * B, by omega, by omega, by congr 1; omega, zs, Lib.hid ⟨hZ.out.1, hZ.out.2.stop1 (by rw [← ha]; exact hq) (by rw [← ha]; omega) (by rw [← ha]; omega)⟩, HROWZ.out, HGZ.out⟩
                case measure => simp [intOf]; omega
        · have hlt1 : ¬ (B : Int) < n := by omega
          go_wp2_with fail
          go_end0
          refine ⟨rfl, ys, hY.out.1, ?_, HROW.out, HG.out⟩
          by_cases h0 : n = 0
          · intro i j h1 h2 h3; omega
          · exact hY.out.2.all (by omega) (by omega)
end Go.Proofs.Ytobaodkcjjgkdaa
namespace Go.Proofs.Ytobaodkcjjgkdaa
open Go Go.RowKit

/-- The order of edges: all their places, by weight, and then by place. -/
structure IsOrd (l : List Edge) (zs : List Int) : Prop where
  len : zs.length = l.length
  perm : zs.Perm ((List.range l.length).map Int.ofNat)
  srt : St.Srt (wtOf l) 0 l.length zs
theorem own_list {n : Nat} {xs : List Int} (hl : xs.length = n) (h : St.Own 0 n xs) : xs = (List.range n).map Int.ofNat := by
  apply List.ext_getElem?
  intro i
  by_cases hi : i < n
  · have := h i (Nat.zero_le _) hi
    rw [show St.v xs i = xs[i]'(by omega) from St.getD_at (by omega)] at this
    rw [List.getElem?_eq_getElem (by omega), this]
    simp [hi]
  · rw [List.getElem?_eq_none (by omega), List.getElem?_eq_none (by simp; omega)]

set_option maxRecDepth 100000 in
theorem sort_any (g c n : Nat) (l : List Edge) (hln : l.length = n) (hn : n ≤ 1000000) (xs : List Int) (hxn : xs.length = n) (w : World) (h : Row g xs w) (hc : Cmpr g c l w) (ho : St.Own 0 n xs) :
    Calls Try.prog 36 #[.slice (some ⟨g, 0, none⟩) n n, cmpF c] w fun e w' => e = .returned (.tuple #[]) ∧ ∃ ys, St.Mv 0 n xs ys ∧ St.Srt (wtOf l) 0 n ys ∧ Row g ys w' ∧ w.grownBy w' (some g) := by
  have HS := Lib.hid (stable_any g c n l hln hn xs hxn w h hc ho)
  clear h hc ho hxn hln
  go_enter Try.func36, Try.ntmps36
  go_wp2_with (go_at_call 61; refine (HS.out).mono ?_; rintro e w1 ⟨rfl, hs⟩; have H1 := Lib.hid hs; clear hs)
  go_end0
  exact ⟨rfl, H1.out⟩

set_option maxRecDepth 100000 in
set_option maxHeartbeats 4000000 in
theorem order_any (A : Option Addr) (cap : Nat) (l : List Edge) (w : World) (hE : Edges A l w) (hl : l.length ≤ 1000000) :
    Calls Try.prog 13 #[.slice A l.length cap] w fun e w' => ∃ g zs, e = .returned (.slice (some ⟨g, 0, none⟩) l.length l.length) ∧ w.heap.size ≤ g ∧ IsOrd l zs ∧ Row g zs w' ∧ Below w.heap.size w w' := by
  obtain ⟨n, hn⟩ : ∃ n, l.length = n := ⟨_, rfl⟩
  have HE := Lib.hid hE; have HN := Lib.hid hn
  rw [hn] at hl ⊢
  have hmk := mk_ints n hl
  have hn1 : (n : Int) ≤ 1000000 := by omega
  have hw0 : Below w.heap.size w (w.alloc (.cells #[.slice A n cap] 22)) := (Below.refl _ _).alloc (Nat.le_refl _) _
  have HC0 : Hid (Cmpr (w.heap.size + 1) w.heap.size l ((w.alloc (.cells #[.slice A n cap] 22)).alloc (.cells (ints (List.replicate n 0)) 3))) := Lib.hid (by
    refine ⟨by omega, by simp; omega, A, cap, ?_, fun h0 => ?_⟩
    · rw [hn]
      exact cells_of_block ((Below.heap_alloc _ _ _ (by simp)).trans (block_new w _ _ rfl)) 0
    · obtain ⟨b, o, rfl, hc⟩ := hE h0
      have hlt := World.block_lt_of_cell? w _ (hc 0 h0).1
      have hlt' : b < w.heap.size := hlt
      refine ⟨b, o, rfl, by omega, by simp; omega, fun j hj => ?_⟩
      have hb : Below w.heap.size w ((w.alloc (.cells #[.slice (some ⟨b, o, none⟩) n cap] 22)).alloc (.cells (ints (List.replicate n 0)) 3)) := hw0.alloc (by simp) _
      exact (hb.cell (p := ⟨b, o + j * 3 + 2, none⟩) hlt').trans (hc j hj).2.2)
  have HR0 : Hid (Row (w.heap.size + 1) (List.replicate n 0) ((w.alloc (.cells #[.slice A n cap] 22)).alloc (.cells (ints (List.replicate n 0)) 3))) := Lib.hid ⟨block_new _ _ _ (by simp)⟩
  have HB0 : Hid (Below w.heap.size w ((w.alloc (.cells #[.slice A n cap] 22)).alloc (.cells (ints (List.replicate n 0)) 3))) := Lib.hid (hw0.alloc (by simp) _)
  have hz2 : w.heap.size + 1 < ((w.alloc (.cells #[.slice A n cap] 22)).alloc (.cells (ints (List.replicate n 0)) 3)).heap.size := by simp
  clear hE hn hw0
  go_enter Try.func13, Try.ntmps13
  go_wp2
  clear hmk
  generalize hW : (w.alloc (.cells #[.slice A n cap] 22)).alloc (.cells (ints (List.replicate n 0)) 3) = W at *
  clear hW
  go_loopw [10, 4] (fun i _ wr => ∃ k : Nat, k ≤ n ∧ i = .int .i64 k ∧ ∃ ys, Hid (ys.length = n ∧ St.Own 0 k ys) ∧ Row (w.heap.size + 1) ys wr ∧ W.grownBy wr (some (w.heap.size + 1))) (fun i _ _ => n - (intOf i).toNat)
  case atStart => exact ⟨0, by omega, rfl, _, Lib.hid ⟨List.length_replicate, fun i h1 h2 => by omega⟩, HR0.out, World.grownBy.refl _ _⟩
  case round =>
    obtain ⟨k, hk, rfl, ys, hY, hrow, hg⟩ := hrel
    have HROW := Lib.hid hrow; have HG := Lib.hid hg
    by_cases hlt : k < n
    · have hlt1 : (k : Int) < n := by omega
      have c1 := hrow.cell (i := k) (by rw [hY.out.1]; exact hlt)
      have f1 := hrow.frozen k
      generalize St.v ys k = x at *
      clear hrow hg HR0
      go_wp2
      go_roundw
      case rel =>
        refine ⟨k + 1, by omega, by go_num, ys.set k k, Lib.hid ⟨by rw [List.length_set]; exact hY.out.1, fun i h1 h2 => ?_⟩, HROW.out.set k k, only_setCell HG.out (.inl rfl) _⟩
        have hl := hY.out.1
        by_cases e : i = k
        · subst e; simp [St.v, List.getD_eq_getElem?_getD, hl, hlt]
        · have := hY.out.2 i h1 (by omega)
          rw [← this]
          simp [St.v, List.getD_eq_getElem?_getD, Ne.symm e]
      case measure => simp [intOf]; omega
    · have hkn : k = n := by omega
      subst hkn
      have HCALL := Lib.hid (sort_any (w.heap.size + 1) w.heap.size k l HN.out hl ys hY.out.1 _ hrow (HC0.out.keep hg) hY.out.2)
      clear hrow hg HR0
      go_wp2_with (go_at_call 36; refine (HCALL.out).mono ?_; rintro e w1 ⟨rfl, zs, hm1, hs1, hr1, hg1⟩; have HZ1 := Lib.hid (And.intro hm1 hs1); have HR1 := Lib.hid hr1; have HG1 := Lib.hid hg1; clear hm1 hs1 hr1 hg1)
      go_ret
      refine ⟨w.heap.size + 1, zs, rfl, by omega, ?_, HR1.out, ?_⟩
      · have hzl := HZ1.out.1.len
        have hp := HZ1.out.1.perm
        rw [own_list hY.out.1 hY.out.2] at hp
        exact ⟨by rw [hzl, hY.out.1, HN.out], by rw [HN.out]; exact hp, by rw [HN.out]; exact HZ1.out.2⟩
      · exact HB0.out.grown (only_trans HG.out HG1.out) (by omega) (fun q hq => by injection hq with hq; omega)
end Go.Proofs.Ytobaodkcjjgkdaa
namespace Go.Proofs.Ytobaodkcjjgkdaa
open Go Go.RowKit

def ordLe (l : List Edge) (i j : Int) : Bool := decide (wtOf l i < wtOf l j ∨ (wtOf l i = wtOf l j ∧ i ≤ j))
/-- The places of edges, by weight, and then by place. -/
def ordL (l : List Edge) : List Int := ((List.range l.length).map Int.ofNat).mergeSort (ordLe l)
theorem IsOrd.eq {l : List Edge} {zs : List Int} (h : IsOrd l zs) : zs = ordL l := by
  refine List.Perm.eq_of_pairwise (le := fun a b => ordLe l a b = true) (fun a b _ _ h1 h2 => ?_) ?_ (List.pairwise_mergeSort (fun a b c => ?_) (fun a b => ?_) _) (h.perm.trans (List.mergeSort_perm _ _).symm)
  · simp only [ordLe, decide_eq_true_eq] at h1 h2; omega
  · refine List.pairwise_iff_getElem.2 fun i j hi hj hij => ?_
    have := h.srt i j (Nat.zero_le _) hij (by rw [← h.len]; exact hj)
    rw [show St.v zs i = zs[i] from St.getD_at hi, show St.v zs j = zs[j] from St.getD_at hj] at this
    unfold St.R at this
    simp only [ordLe, decide_eq_true_eq]
    omega
  · simp only [ordLe, decide_eq_true_eq]; omega
  · simp only [ordLe, Bool.or_eq_true, decide_eq_true_eq]; omega
theorem IsOrd.mem {l : List Edge} {zs : List Int} (h : IsOrd l zs) : ∀ x ∈ zs, 0 ≤ x ∧ x < l.length := by
  intro x hx
  obtain ⟨i, hi, rfl⟩ := List.mem_map.1 (h.perm.mem_iff.1 hx)
  have := List.mem_range.1 hi
  exact ⟨Int.natCast_nonneg i, by show (i : Int) < _; omega⟩
theorem newE_zero {n : Int} {l : List Edge} (h : newE n l = 0) : ∃ k : Nat, n = k ∧ k ≤ 4096 ∧ l.length ≤ 16384 ∧ Vld k l := by
  unfold newE at h
  by_cases hb : n < 0 ∨ 4096 < n ∨ 16384 < l.length
  · rw [if_pos hb] at h; omega
  · rw [if_neg hb] at h
    obtain ⟨k, rfl⟩ := Int.eq_ofNat_of_zero_le (a := n) (by omega)
    exact ⟨k, rfl, by omega, by omega, firstE_zero k l h⟩
/-- The edges of the forest. -/
def forF (n : Int) (l : List Edge) : List Int := if newE n l = 0 then accF n.toNat l (ordL l) else []

theorem accept_any (n : Nat) (hn : n ≤ 65536) (A B : Option Addr) (ca cb : Nat) (l : List Edge) (os : List Int) (w : World) (hE : Edges A l w) (hO : IntsR B os w) (hv : Vld n l) (hos : ∀ x ∈ os, 0 ≤ x ∧ x < l.length) (hl : l.length ≤ 1000000) (hol : os.length ≤ 1000000) :
    Calls Try.prog 39 #[.int .i64 n, .slice A l.length ca, .slice B os.length cb] w fun e w' => ∃ vo, e = .returned vo ∧ w'.ownsRow w.heap.size 3 1 vo (accF n l os).length (nums (accF n l os)) ∧ Below w.heap.size w w' := by
  rcases Nat.eq_zero_or_pos os.length with h0 | h0
  · have e0 : os = [] := List.eq_nil_of_length_eq_zero h0
    subst e0
    refine (accept_nil n hn A B l.length ca cb l w).mono ?_
    rintro e w' ⟨rfl, hb⟩
    exact ⟨_, rfl, ⟨rfl, .inl ⟨rfl, rfl⟩⟩, hb⟩
  · exact accept_some n hn A B ca cb l os w hE hO hv hos hl hol h0

set_option maxRecDepth 1000000 in
set_option maxHeartbeats 4000000 in
theorem forest_any (n : Int) (A : Option Addr) (c : Nat) (l : List Edge) (w : World) (hE : Edges A l w) (hl : l.length ≤ 1000000) :
    Calls Try.prog 18 #[.int .i64 n, .slice A l.length c] w fun e w' => ∃ vo, e = .returned (.tuple #[vo, .int .i64 (newE n l)]) ∧ w'.ownsRow w.heap.size 3 1 vo (forF n l).length (nums (forF n l)) ∧ Below w.heap.size w w' := by
  have HE := Lib.hid hE
  clear hE
  by_cases he : newE n l = 0
  · obtain ⟨k, rfl, hk, hm, hv⟩ := newE_zero he
    have hd : (newE k l != 0) = false := by rw [he]; rfl
    have HFO : Hid (forF k l = accF k l (ordL l)) := Lib.hid (by unfold forF; rw [if_pos he, Int.toNat_natCast])
    have HV := Lib.hid hv; have HZ := Lib.hid he
    clear hv he
    go_enter Try.func18, Try.ntmps18
    go_wp2_with (go_at_call 25; refine (new_any k A c l w HE.out hl).mono ?_; rintro e w1 ⟨pv, rfl, -, hb⟩; refine Hid.out ?_)
    have HB := Lib.hid hb; have HE1 := Lib.hid (HE.out.on hb)
    clear hb
    refine Lib.hid ?_
    rw [HZ.out]
    go_wp2_with (go_at_call 13; refine (order_any A c l w1 HE1.out hl).mono ?_; rintro e w2 ⟨g, zs, rfl, hg, hord, hrow, hb⟩; refine Hid.out ?_)
    have HB2 := Lib.hid (HB.out.trans (hb.mono HB.out.size)); have HE2 := Lib.hid (HE1.out.on hb)
    have hzl := hord.len
    have hzs := hord.eq
    have HA := Lib.hid (accept_any k (by omega) A (some ⟨g, 0, none⟩) c l.length l zs w2 HE2.out (IntsR.ofRow hrow) HV.out hord.mem hl (by omega))
    rw [hzl, hzs] at HA
    clear hb hg hord hrow hzl hzs
    refine Lib.hid ?_
    go_wp2_with fail
    refine HA.out.mono ?_
    rintro e w3 ⟨vo, rfl, ho, hb⟩
    refine Hid.out ?_
    have HO := Lib.hid (own_low ho HB2.out.size); have HB3 := Lib.hid (HB2.out.trans (hb.mono HB2.out.size))
    clear ho hb
    refine Lib.hid ?_
    go_wp2
    go_ret2
    exact ⟨_, by rw [HZ.out]; rfl, by rw [HFO.out]; exact HO.out, HB3.out⟩
  · have hd : (newE n l != 0) = true := by simp [he]
    have HFO : Hid (forF n l = []) := Lib.hid (if_neg he)
    clear he
    go_enter Try.func18, Try.ntmps18
    go_wp2_with (go_at_call 25; refine (new_any n A c l w HE.out hl).mono ?_; rintro e w1 ⟨pv, rfl, -, hb⟩; refine Hid.out ?_)
    have HB := Lib.hid hb
    clear hb
    refine Lib.hid ?_
    go_wp2
    go_ret2
    exact ⟨_, rfl, by rw [HFO.out]; exact ⟨rfl, .inl ⟨rfl, rfl⟩⟩, HB.out⟩
end Go.Proofs.Ytobaodkcjjgkdaa
namespace Go.Proofs.Ytobaodkcjjgkdaa
open Go Go.RowKit

theorem IntsR.ofOwn {w : World} {B : Nat} {v : Value} {xs : List Int} (h : w.ownsRow B 3 1 v xs.length (nums xs)) : ∃ A c, v = .slice A xs.length c ∧ IntsR A xs w ∧ xs.length ≤ c := by
  have hc := h.2
  rcases hc with ⟨rfl, hn⟩ | ⟨g, cap, cur, rfl, -, -, hle, -, -⟩
  · exact ⟨none, 0, by rw [hn], fun h => by omega, by omega⟩
  · refine ⟨some ⟨g, 0, none⟩, cap, rfl, fun _ => ⟨g, 0, rfl, fun j hj => ?_⟩, hle⟩
    have := h.cells (g := g) rfl j (.int .i64 (St.v xs j)) (by simp [nums, St.v, List.getD_eq_getElem?_getD, hj])
    rw [Nat.zero_add]
    unfold Addr.add at this
    split at this
    · rename_i e; subst e; exact this
    · simpa using this
/-- A row of int64. -/
structure Row64 (g : Nat) (xs : List Int) (w : World) : Prop where
  bh : w.heap[g]? = some (.cells (ints xs) 2 (0, 0))
theorem Row64.lt {g : Nat} {xs : List Int} {w : World} (h : Row64 g xs w) : g < w.heap.size := block_lt h.bh
theorem Row64.cell {g : Nat} {xs : List Int} {w : World} (h : Row64 g xs w) {i : Nat} (hi : i < xs.length) : w.cell? ⟨g, i, none⟩ = some (.int .i64 (St.v xs i)) := by
  rw [cells_of_block h.bh]
  simp [ints, St.v, List.getD_eq_getElem?_getD, hi]
theorem Row64.frozen {g : Nat} {xs : List Int} {w : World} (h : Row64 g xs w) (i : Nat) : w.frozen? ⟨g, i, none⟩ = false := frozen_of_block h.bh i
theorem Row64.set {g : Nat} {xs : List Int} {w : World} (h : Row64 g xs w) (i : Nat) (x : Int) : Row64 g (xs.set i x) (w.setCell ⟨g, i, none⟩ (.int .i64 x)) := by
  refine ⟨(set_same h.bh).trans ?_⟩
  congr 2
  apply Array.ext'
  simp [ints, List.map_set]
theorem IntsR.of64 {g : Nat} {xs : List Int} {w : World} (h : Row64 g xs w) : IntsR (some ⟨g, 0, none⟩) xs w := fun _ => ⟨g, 0, rfl, fun j hj => by rw [Nat.zero_add]; exact h.cell hj⟩
theorem info_i64 : (Try.prog.info? 2).map (fun i => (i.zero, i.size, i.bytes)) = some (some (.int .i64 0), 1, 8) := by kernel_rfl
theorem mk_i64s (n : Nat) (hn : n ≤ 1000000) (W : World) : (Instr.makeSlice 72 (.int .i64 (n : Int)) (.int .i64 (n : Int))).run Try.prog W = .ok (.slice (some ⟨W.heap.size, 0, none⟩) n n) (W.alloc (.cells (ints (List.replicate n 0)) 2)) := by
  obtain ⟨i0, hi, hz0, hz1, hz2⟩ := info_parts info_i64
  have h := run_make (P := Try.prog) W 72 2 i0 (.int .i64 0) Try.underlying72 hi hz0 .i64 .i64 n n (by omega) (by omega) (by rw [hz2]; omega) (by omega)
  have e : madeCells (Value.int .i64 0).cells (n * i0.size) = ints (List.replicate n 0) := by
    rw [hz1, Nat.mul_one]
    apply Array.ext'
    have : (Value.int .i64 0).cells = #[.int .i64 0] := rfl
    rw [this, toList_madeCells_one]
    simp [ints]
  simp only [Int.toNat_natCast] at h
  rw [h, e]
def wts (l : List Edge) (os : List Int) : List Int := os.map (wtOf l)

set_option maxRecDepth 1000000 in
set_option maxHeartbeats 4000000 in
theorem weights_any (A B : Option Addr) (c cb : Nat) (l : List Edge) (os : List Int) (w : World) (hE : Edges A l w) (hO : IntsR B os w) (hos : ∀ x ∈ os, 0 ≤ x ∧ x < l.length) (hl : l.length ≤ 1000000) (hol : os.length ≤ 1000000) :
    Calls Try.prog 43 #[.slice A l.length c, .slice B os.length cb] w fun e w' => ∃ g, e = .returned (.slice (some ⟨g, 0, none⟩) os.length os.length) ∧ w.heap.size ≤ g ∧ Row64 g (wts l os) w' ∧ Below w.heap.size w w' := by
  have HE := Lib.hid hE; have HO := Lib.hid hO; have HOS := Lib.hid hos
  have hmk := mk_i64s os.length hol
  have l1 : (l.length : Int) ≤ 1000000 := by omega
  have ol1 : (os.length : Int) ≤ 1000000 := by omega
  clear hE hO hos
  go_enter Try.func43, Try.ntmps43
  go_wp2_with fail
  go_loopw [13] (fun x wr => ∃ k : Nat, k ≤ os.length ∧ x = .int .i64 k ∧ ∃ ys, Hid (ys.length = os.length ∧ ∀ j, j < k → St.v ys j = wtOf l (St.v os j)) ∧ Row64 w.heap.size ys wr ∧ Below w.heap.size w wr) (fun x _ => os.length - (intOf x).toNat)
  case atStart => exact ⟨0, by omega, rfl, _, Lib.hid ⟨List.length_replicate .., fun j hj => by omega⟩, ⟨block_new _ _ _ rfl⟩, (Below.refl _ _).alloc (Nat.le_refl _) _⟩
  case round =>
    obtain ⟨k, hk, rfl, ys, hY, hr, hb⟩ := hrel
    by_cases hlt : k < os.length
    · have hlt1 : (k : Int) < os.length := by omega
      have hxr := HOS.out _ (List.getElem_mem hlt)
      obtain ⟨ei, hei⟩ := Int.eq_ofNat_of_zero_le hxr.1
      have heil : ei < l.length := by omega
      obtain ⟨b2, o2, rfl, hc2⟩ := HO.out (by omega)
      obtain ⟨b, o, rfl, hc⟩ := HE.out (by omega)
      have hvx : St.v os k = (ei : Int) := by rw [← hei]; exact St.getD_at hlt
      have k1 := (hb.cell (p := ⟨b2, o2 + k, none⟩) (World.block_lt_of_cell? w _ (hc2 k hlt))).trans (hc2 k hlt)
      rw [hvx] at k1
      have kw := (hb.cell (p := ⟨b, o + ei * 3 + 2, none⟩) (World.block_lt_of_cell? w _ (hc ei heil).2.2)).trans (hc ei heil).2.2
      have fz := hr.frozen k
      have ky := hr.cell (i := k) (by rw [hY.out.1]; omega)
      have ei1 : (ei : Int) < l.length := by omega
      have hY2 : (ys.set k (l.getD ei edge0).W).length = os.length ∧ ∀ j, j < k + 1 → St.v (ys.set k (l.getD ei edge0).W) j = wtOf l (St.v os j) := by
        refine ⟨by rw [List.length_set]; exact hY.out.1, fun j hj => ?_⟩
        rw [Gp.v_set _ _ _ _ (by rw [hY.out.1]; omega)]
        by_cases e : j = k
        · subst e; rw [if_pos rfl, hvx]; simp [wtOf]
        · rw [if_neg e]; exact hY.out.2 j (by omega)
      have HY2 := Lib.hid hY2; have HR := Lib.hid hr; have HB := Lib.hid hb
      generalize (l.getD ei edge0).W = W at *
      generalize St.v ys k = y0 at *
      clear hxr hei hvx hc2 hc hY hY2 hr hb
      go_wp2
      go_roundw
      case rel => exact ⟨k + 1, by omega, by go_num, _, HY2, HR.out.set k W, HB.out.setCell (p := ⟨w.heap.size, k, none⟩) (Nat.le_refl _) _⟩
      case measure => simp [intOf]; omega
    · have hkk : k = os.length := by omega
      subst hkk
      have hfin : ys = wts l os := by
        apply List.ext_getElem
        · rw [hY.out.1, wts, List.length_map]
        · intro i h1 h2
          have := hY.out.2 i (by rw [← hY.out.1]; exact h1)
          rw [show St.v ys i = ys[i] from St.getD_at h1, show St.v os i = os[i]'(by rw [← hY.out.1]; exact h1) from St.getD_at (by rw [← hY.out.1]; exact h1)] at this
          rw [this]
          simp [wts]
      subst hfin
      have HR := Lib.hid hr; have HB := Lib.hid hb
      clear hY hr hb
      go_wp2
      go_ret
      exact ⟨_, rfl, Nat.le_refl _, HR.out, HB.out⟩

theorem growF_mem (l : List Edge) : ∀ (os K out : List Int) (x : Int), x ∈ (growF l os K out).2 → x ∈ out ∨ x ∈ os
  | [], _, _, _, h => .inl h
  | i :: r, K, out, x, h => by
    rw [growF] at h
    split at h
    · rcases growF_mem l r _ _ x h with h | h
      · exact .inl h
      · exact .inr (List.mem_cons_of_mem _ h)
    · rcases growF_mem l r _ _ x h with h | h
      · rcases List.mem_append.1 h with h | h
        · exact .inl h
        · have := List.mem_singleton.1 h
          exact .inr (by rw [this]; exact List.mem_cons_self ..)
      · exact .inr (List.mem_cons_of_mem _ h)
theorem growF_len (l : List Edge) : ∀ (os K out : List Int), (growF l os K out).2.length ≤ out.length + os.length
  | [], _, _ => Nat.le_refl _
  | i :: r, K, out => by
    rw [growF]
    split
    · have := growF_len l r K out
      simp only [List.length_cons]; omega
    · have := growF_len l r (Uf.joined K (eU l i) (eV l i)) (out ++ [i])
      simp only [List.length_append, List.length_cons, List.length_nil] at this ⊢; omega
theorem ordL_mem (l : List Edge) : ∀ x ∈ ordL l, 0 ≤ x ∧ x < l.length := by
  intro x hx
  obtain ⟨i, hi, rfl⟩ := List.mem_map.1 ((List.mergeSort_perm _ _).mem_iff.1 hx)
  have := List.mem_range.1 hi
  exact ⟨Int.natCast_nonneg i, by show (i : Int) < _; omega⟩
theorem ordL_len (l : List Edge) : (ordL l).length = l.length := by
  unfold ordL
  rw [(List.mergeSort_perm _ _).length_eq]
  simp
theorem forF_mem (n : Int) (l : List Edge) : ∀ x ∈ forF n l, 0 ≤ x ∧ x < l.length := by
  intro x hx
  unfold forF at hx
  split at hx
  · rcases growF_mem l _ _ _ x hx with h | h
    · simp at h
    · exact ordL_mem l x h
  · simp at hx
theorem forF_len (n : Int) (l : List Edge) : (forF n l).length ≤ l.length := by
  unfold forF
  split
  · have := growF_len l (ordL l) (Uf.iota n.toNat) []
    rw [ordL_len] at this
    simpa [accF] using this
  · simp
def wSum (n : Int) (l : List Edge) : Int := (wts l (forF n l)).sum
def weiV (n : Int) (l : List Edge) : Int := if newE n l = 0 then sumV (wSum n l) else 0
def weiE (n : Int) (l : List Edge) : Int := if newE n l = 0 then sumE (wSum n l) else newE n l
/-- Weights of 64 bits. -/
def WOk (l : List Edge) : Prop := ∀ e ∈ l, -9223372036854775808 ≤ e.W ∧ e.W < 9223372036854775808
theorem wts_ok {l : List Edge} (h : WOk l) {os : List Int} (hos : ∀ x ∈ os, 0 ≤ x ∧ x < l.length) : I64s (wts l os) := by
  intro x hx
  obtain ⟨i, hi, rfl⟩ := List.mem_map.1 hx
  have hi2 := hos i hi
  obtain ⟨k, rfl⟩ := Int.eq_ofNat_of_zero_le hi2.1
  have hk : k < l.length := by omega
  have := h _ (List.getElem_mem hk)
  unfold wtOf
  simpa [List.getD_eq_getElem?_getD, hk] using this

set_option maxRecDepth 1000000 in
set_option maxHeartbeats 4000000 in
theorem weight_any (n : Int) (A : Option Addr) (c : Nat) (l : List Edge) (w : World) (hE : Edges A l w) (hl : l.length ≤ 1000000) (hw : WOk l) :
    Calls Try.prog 20 #[.int .i64 n, .slice A l.length c] w fun e w' => e = .returned (.tuple #[.int .i64 (weiV n l), .int .i64 (weiE n l)]) ∧ Below w.heap.size w w' := by
  have HE := Lib.hid hE; have HW := Lib.hid hw
  clear hE hw
  by_cases he : newE n l = 0
  · have hd : (newE n l != 0) = false := by rw [he]; rfl
    have HZ := Lib.hid he
    have HV : Hid (weiV n l = sumV (wSum n l) ∧ weiE n l = sumE (wSum n l)) := Lib.hid ⟨if_pos he, if_pos he⟩
    clear he
    go_enter Try.func20, Try.ntmps20
    go_wp2_with (go_at_call 18; refine (forest_any n A c l w HE.out hl).mono ?_; rintro e w1 ⟨vo, rfl, ho, hb⟩; refine Hid.out ?_)
    obtain ⟨B, cb, rfl, hO, -⟩ := IntsR.ofOwn ho
    have HB := Lib.hid hb; have HE1 := Lib.hid (HE.out.on hb); have HO := Lib.hid hO
    clear hb hO ho
    refine Lib.hid ?_
    have hfl := forF_len n l
    go_wp2_with (go_at_call 43; refine (weights_any A B c cb l (forF n l) w1 HE1.out HO.out (forF_mem n l) hl (Nat.le_trans hfl hl)).mono ?_; rintro e w2 ⟨g, rfl, hg, hr, hb⟩; refine Hid.out ?_)
    have HB2 := Lib.hid (HB.out.trans (hb.mono HB.out.size))
    have hwl : (wts l (forF n l)).length = (forF n l).length := by unfold wts; rw [List.length_map]
    have HS := Lib.hid (sum_any (some ⟨g, 0, none⟩) (forF n l).length (wts l (forF n l)) w2 (IntsR.of64 hr) (wts_ok HW.out (forF_mem n l)) (by omega))
    rw [hwl] at HS
    clear hb hg hr hwl
    refine Lib.hid ?_
    go_wp2_with fail
    refine HS.out.mono ?_
    rintro e w3 ⟨rfl, hb⟩
    refine Hid.out ?_
    have HB3 := Lib.hid (HB2.out.trans (hb.mono HB2.out.size))
    clear hb hfl
    refine Lib.hid ?_
    go_wp2
    go_ret2
    exact ⟨by rw [HV.out.1, HV.out.2]; rfl, HB3.out⟩
  · have hd : (newE n l != 0) = true := by simp [he]
    have HV : Hid (weiV n l = 0 ∧ weiE n l = newE n l) := Lib.hid ⟨if_neg he, if_neg he⟩
    clear he
    go_enter Try.func20, Try.ntmps20
    go_wp2_with (go_at_call 18; refine (forest_any n A c l w HE.out hl).mono ?_; rintro e w1 ⟨vo, rfl, ho, hb⟩; refine Hid.out ?_)
    have HB := Lib.hid hb
    clear hb ho
    refine Lib.hid ?_
    go_wp2
    go_ret2
    exact ⟨by rw [HV.out.1, HV.out.2]; rfl, HB.out⟩
end Go.Proofs.Ytobaodkcjjgkdaa
namespace Go.Proofs.Ytobaodkcjjgkdaa
open Go

namespace Hp
def Jn (F : List (Nat × Nat)) (k y z : Nat) : Prop := F[k]? = some (y, z) ∨ F[k]? = some (z, y)
/-- Two vertices are connected by edges of a kind. -/
inductive Conn (F : List (Nat × Nat)) (E : Nat → Prop) : Nat → Nat → Prop
  | refl (x : Nat) : Conn F E x x
  | snoc {x y z k : Nat} : Conn F E x y → E k → Jn F k y z → Conn F E x z
variable {F : List (Nat × Nat)} {E E' : Nat → Prop}
theorem Jn.symm {k y z : Nat} (h : Jn F k y z) : Jn F k z y := h.elim .inr .inl
theorem Jn.lt {k y z : Nat} (h : Jn F k y z) : k < F.length := by
  rcases h with h | h <;> exact (List.getElem?_eq_some_iff.1 h).1
theorem Conn.mono (hE : ∀ k, k < F.length → E k → E' k) {x y : Nat} (h : Conn F E x y) : Conn F E' x y := by
  induction h with
  | refl => exact .refl _
  | snoc _ e j ih => exact .snoc ih (hE _ j.lt e) j
theorem Conn.trans {x y z : Nat} (h : Conn F E x y) (k : Conn F E y z) : Conn F E x z := by
  induction k with
  | refl => exact h
  | snoc _ e j ih => exact .snoc ih e j
theorem Conn.one {k x y : Nat} (e : E k) (j : Jn F k x y) : Conn F E x y := .snoc (.refl x) e j
theorem Conn.symm {x y : Nat} (h : Conn F E x y) : Conn F E y x := by
  induction h with
  | refl => exact .refl _
  | snoc _ e j ih => exact (Conn.one e j.symm).trans ih
theorem Jn.ends {k c d y z : Nat} (hk : F[k]? = some (c, d)) (h : Jn F k y z) : (y = c ∧ z = d) ∨ (y = d ∧ z = c) := by
  rcases h with h | h <;> (rw [hk] at h; injection h with h; injection h with h1 h2)
  · exact .inl ⟨h1.symm, h2.symm⟩
  · exact .inr ⟨h2.symm, h1.symm⟩
/-- One edge more. -/
theorem Conn.add {j c d x y : Nat} (hj : F[j]? = some (c, d)) (h : Conn F (fun i => E i ∨ i = j) x y) : Conn F E x y ∨ (Conn F E x c ∧ Conn F E d y) ∨ (Conn F E x d ∧ Conn F E c y) := by
  induction h with
  | refl => exact .inl (.refl _)
  | snoc h e jn ih =>
    rcases e with e | rfl
    · rcases ih with ih | ih | ih
      · exact .inl (.snoc ih e jn)
      · exact .inr (.inl ⟨ih.1, .snoc ih.2 e jn⟩)
      · exact .inr (.inr ⟨ih.1, .snoc ih.2 e jn⟩)
    · rcases jn.ends hj with ⟨rfl, rfl⟩ | ⟨rfl, rfl⟩
      · rcases ih with ih | ih | ih
        · exact .inr (.inl ⟨ih, .refl _⟩)
        · exact .inr (.inl ⟨ih.1, .refl _⟩)
        · exact .inl ih.1
      · rcases ih with ih | ih | ih
        · exact .inr (.inr ⟨ih, .refl _⟩)
        · exact .inl ih.1
        · exact .inr (.inr ⟨ih.1, .refl _⟩)
/-- No edge connects what the ones before it connect. -/
def Seq (F : List (Nat × Nat)) : Prop := ∀ k c d, F[k]? = some (c, d) → ¬ Conn F (fun i => i < k) c d
theorem Seq.upto (h : Seq F) (k c d : Nat) (hk : F[k]? = some (c, d)) : ∀ j, ¬ Conn F (fun i => i < k + 1 + j ∧ i ≠ k) c d
  | 0 => fun hc => h k c d hk (hc.mono fun i _ hi => by omega)
  | j + 1 => fun hc => by
    have hkl : k < F.length := (List.getElem?_eq_some_iff.1 hk).1
    by_cases hjl : k + 1 + j < F.length
    · obtain ⟨⟨a, b⟩, hab⟩ : ∃ e, F[k + 1 + j]? = some e := ⟨_, List.getElem?_eq_getElem hjl⟩
      have hc2 : Conn F (fun i => (i < k + 1 + j ∧ i ≠ k) ∨ i = k + 1 + j) c d := hc.mono fun i _ hi => by omega
      have m : ∀ {x y}, Conn F (fun i => i < k + 1 + j ∧ i ≠ k) x y → Conn F (fun i => i < k + 1 + j) x y := fun h => h.mono fun i _ hi => hi.1
      have e : Conn F (fun i => i < k + 1 + j) c d := Conn.one (k := k) (by omega) (.inl hk)
      rcases hc2.add hab with h1 | ⟨h1, h2⟩ | ⟨h1, h2⟩
      · exact Seq.upto h k c d hk j h1
      · exact h _ a b hab ((m h1).symm.trans (e.trans (m h2).symm))
      · exact h _ a b hab ((m h2).trans (e.symm.trans (m h1)))
    · exact Seq.upto h k c d hk j (hc.mono fun i hi hh => by omega)
/-- There is no circle. -/
theorem Seq.acyclic (h : Seq F) {k x y : Nat} (hk : Jn F k x y) : ¬ Conn F (fun i => i ≠ k) x y := by
  have key : ∀ c d, F[k]? = some (c, d) → ¬ Conn F (fun i => i ≠ k) c d := fun c d hk hc =>
    Seq.upto h k c d hk F.length (hc.mono fun i hi hne => by omega)
  rcases hk with hk | hk
  · exact key _ _ hk
  · exact fun hc => key _ _ hk hc.symm
/-- Edges but one, or all of them (-1). -/
def But (e : Int) (i : Nat) : Prop := (i : Int) ≠ e
/-- What lies behind an edge is no less than what lies behind the next one. -/
theorem Seq.sub (h : Seq F) {at' k y : Nat} {e : Int} (hk : Jn F k at' y) (hke : (k : Int) ≠ e) (he : ∀ j : Nat, e = j → ∀ a b, Jn F j a b → a = at' ∨ b = at') {z : Nat} (hz : Conn F (But k) y z) : Conn F (But e) at' z ∧ z ≠ at' := by
  have hno : ∀ z, Conn F (But k) y z → z ≠ at' := fun z hz e' => by
    subst e'
    exact h.acyclic hk (hz.mono fun i _ hi => fun e => hi (by rw [e])).symm
  refine ⟨?_, hno z hz⟩
  induction hz with
  | refl => exact Conn.one hke hk
  | @snoc y' z' j hc ej jn ih =>
    refine .snoc ih ?_ jn
    intro e'
    rcases he j e'.symm _ _ jn with r | r
    · exact hno _ hc r
    · exact hno _ (.snoc hc ej jn) r
/-- All that can be reached lies behind one of the next edges. -/
theorem Conn.first {at' : Nat} {e : Int} {z : Nat} (h : Conn F (But e) at' z) : z = at' ∨ ∃ k y : Nat, (k : Int) ≠ e ∧ Jn F k at' y ∧ Conn F (But k) y z := by
  induction h with
  | refl => exact .inl rfl
  | @snoc y' z' j hc ej jn ih =>
    rcases ih with rfl | ⟨k, y, h1, h2, h3⟩
    · exact .inr ⟨j, z', ej, jn, .refl _⟩
    · by_cases hjk : j = k
      · subst hjk
        rcases (by
          rcases h2 with h2 | h2
          · rcases jn.ends h2 with ⟨a, b⟩ | ⟨a, b⟩
            · exact .inr ⟨a, b⟩
            · exact .inl b
          · rcases jn.ends h2 with ⟨a, b⟩ | ⟨a, b⟩
            · exact .inl b
            · exact .inr ⟨a, b⟩ : z' = at' ∨ (y' = at' ∧ z' = y)) with r | ⟨r, r2⟩
        · exact .inl r
        · exact .inr ⟨j, y, h1, h2, by rw [r2]; exact .refl _⟩
      · exact .inr ⟨k, y, h1, h2, .snoc h3 (fun e' => hjk (by omega)) jn⟩
/-- The first edge behind which two vertices are connected; -1 if they are one. -/
def IsPi (F : List (Nat × Nat)) (x y : Nat) (p : Int) : Prop := (x = y ∧ p = -1) ∨ (0 ≤ p ∧ Conn F (fun i => (i : Int) ≤ p) x y ∧ ¬ Conn F (fun i => (i : Int) < p) x y)
theorem IsPi.step (h : Seq F) {at' k y v : Nat} {p : Int} (hk : Jn F k at' y) (hc : Conn F (But k) y v) (hp : IsPi F y v p) : IsPi F at' v (max (k : Int) p) := by
  have hseq : ¬ Conn F (fun i => (i : Int) < k) at' y := fun hc => h.acyclic hk (hc.mono fun i _ hi => by omega)
  rcases hp with ⟨rfl, rfl⟩ | ⟨p0, p1, p2⟩
  · rw [show max (k : Int) (-1) = k by omega]
    exact .inr ⟨by omega, Conn.one (k := k) (by omega) hk, hseq⟩
  · refine .inr ⟨by omega, (Conn.one (k := k) (by omega) hk).trans (p1.mono fun i _ hi => by omega), fun hn => ?_⟩
    rcases Int.lt_trichotomy p k with hlt | heq | hgt
    · rw [show max (k : Int) p = k by omega] at hn
      exact hseq (hn.trans (p1.symm.mono fun i _ hi => by omega))
    · subst heq
      rw [show max (k : Int) k = k by omega] at hn
      exact h.acyclic hk ((hn.mono fun i _ hi => by omega).trans (hc.symm.mono fun i _ hi => fun e => hi (by rw [e])))
    · rw [show max (k : Int) p = p by omega] at hn
      exact p2 ((Conn.one (k := k) (by omega) hk.symm).trans hn)
end Hp
end Go.Proofs.Ytobaodkcjjgkdaa
namespace Go.Proofs.Ytobaodkcjjgkdaa
open Go

namespace Hp
variable {F G : List (Nat × Nat)} {E E' : Nat → Prop}
theorem Jn.app {k y z : Nat} (h : Jn F k y z) : Jn (F ++ G) k y z := by
  have hl := h.lt
  unfold Jn
  rw [List.getElem?_append_left hl]
  exact h
theorem Jn.ofApp {k y z : Nat} (h : Jn (F ++ G) k y z) (hk : k < F.length) : Jn F k y z := by
  unfold Jn at h
  rw [List.getElem?_append_left hk] at h
  exact h
theorem Conn.app {x y : Nat} (h : Conn F E x y) : Conn (F ++ G) E x y := by
  induction h with
  | refl => exact .refl _
  | snoc _ e j ih => exact .snoc ih e j.app
theorem Conn.ofApp {x y : Nat} (h : Conn (F ++ G) E x y) (hE : ∀ k, E k → k < F.length) : Conn F E x y := by
  induction h with
  | refl => exact .refl _
  | snoc _ e j ih => exact .snoc ih e (j.ofApp (hE _ e))
theorem Conn.nil {x y : Nat} (h : Conn [] E x y) : x = y := by
  induction h with
  | refl => rfl
  | snoc _ _ j _ => have := j.lt; simp at this
/-- Labels that are the same just where vertices are connected. -/
def LabF (n : Nat) (F : List (Nat × Nat)) (K : List Int) : Prop := K.length = n ∧ ∀ x y, x < n → y < n → (St.v K x = St.v K y ↔ Conn F (fun _ => True) x y)
theorem joined_same (K : List Int) {i j x y : Nat} (hi : i < K.length) (hj : j < K.length) : St.v (Uf.joined K x y) i = St.v (Uf.joined K x y) j ↔ (St.v K i = St.v K j ∨ (St.v K i = St.v K x ∧ St.v K j = St.v K y) ∨ (St.v K i = St.v K y ∧ St.v K j = St.v K x)) := by
  unfold Uf.joined
  rw [Uf.v_map _ _ hi, Uf.v_map _ _ hj]
  split <;> split <;> omega
theorem joined_len (K : List Int) (x y : Nat) : (Uf.joined K x y).length = K.length := by unfold Uf.joined; rw [List.length_map]
theorem conn_app_iff (u v x y : Nat) : Conn (F ++ [(u, v)]) (fun _ => True) x y ↔ Conn F (fun _ => True) x y ∨ (Conn F (fun _ => True) x u ∧ Conn F (fun _ => True) v y) ∨ (Conn F (fun _ => True) x v ∧ Conn F (fun _ => True) u y) := by
  have hab : (F ++ [(u, v)])[F.length]? = some (u, v) := by simp
  have back : ∀ {x y}, Conn (F ++ [(u, v)]) (fun i => i < F.length) x y → Conn F (fun _ => True) x y := fun h => (h.ofApp fun _ h => h).mono fun _ _ _ => trivial
  have forth : ∀ {x y}, Conn F (fun _ => True) x y → Conn (F ++ [(u, v)]) (fun _ => True) x y := fun h => h.app
  have e : Conn (F ++ [(u, v)]) (fun _ => True) u v := Conn.one (k := F.length) trivial (.inl hab)
  constructor
  · intro h
    have h2 : Conn (F ++ [(u, v)]) (fun i => i < F.length ∨ i = F.length) x y := h.mono fun i hi _ => by simp at hi; omega
    rcases h2.add hab with h | h | h
    · exact .inl (back h)
    · exact .inr (.inl ⟨back h.1, back h.2⟩)
    · exact .inr (.inr ⟨back h.1, back h.2⟩)
  · rintro (h | h | h)
    · exact forth h
    · exact (forth h.1).trans (e.trans (forth h.2))
    · exact (forth h.1).trans (e.symm.trans (forth h.2))
theorem LabF.join {n : Nat} {K : List Int} (h : LabF n F K) {u v : Nat} (hu : u < n) (hv : v < n) : LabF n (F ++ [(u, v)]) (Uf.joined K u v) := by
  refine ⟨by rw [joined_len]; exact h.1, fun x y hx hy => ?_⟩
  rw [joined_same K (by rw [h.1]; exact hx) (by rw [h.1]; exact hy), conn_app_iff, h.2 x y hx hy, h.2 x u hx hu, h.2 y v hy hv, h.2 x v hx hv, h.2 y u hy hu]
  constructor
  · rintro (a | a | a)
    · exact .inl a
    · exact .inr (.inl ⟨a.1, a.2.symm⟩)
    · exact .inr (.inr ⟨a.1, a.2.symm⟩)
  · rintro (a | a | a)
    · exact .inl a
    · exact .inr (.inl ⟨a.1, a.2.symm⟩)
    · exact .inr (.inr ⟨a.1, a.2.symm⟩)
theorem Seq.snoc {u v : Nat} (h : Seq F) (hne : ¬ Conn F (fun _ => True) u v) : Seq (F ++ [(u, v)]) := by
  intro k c d hk hc
  by_cases hl : k < F.length
  · rw [List.getElem?_append_left hl] at hk
    exact h k c d hk (hc.ofApp fun i hi => by omega)
  · have hkl := (List.getElem?_eq_some_iff.1 hk).1
    simp at hkl
    have e : k = F.length := by omega
    subst e
    simp at hk
    obtain ⟨rfl, rfl⟩ := hk
    exact hne ((hc.ofApp fun _ h => h).mono fun _ _ _ => trivial)
def ends (l : List Edge) (i : Int) : Nat × Nat := (eU l i, eV l i)
theorem ends_lt {n : Nat} {l : List Edge} (hv : Vld n l) {i : Int} (hi : 0 ≤ i ∧ i < l.length) : eU l i < n ∧ eV l i < n := by
  obtain ⟨k, rfl⟩ := Int.eq_ofNat_of_zero_le hi.1
  have hk : k < l.length := by omega
  have := hv _ (List.getElem_mem hk)
  unfold eU eV
  rw [Int.toNat_natCast, show l.getD k edge0 = l[k] by simp [List.getD_eq_getElem?_getD, hk]]
  omega
theorem grow_ok {n : Nat} {l : List Edge} (hv : Vld n l) : ∀ (os K out : List Int), (∀ x ∈ os, 0 ≤ x ∧ x < l.length) → LabF n (out.map (ends l)) K → Seq (out.map (ends l)) →
    LabF n ((growF l os K out).2.map (ends l)) (growF l os K out).1 ∧ Seq ((growF l os K out).2.map (ends l))
  | [], _, _, _, h1, h2 => ⟨h1, h2⟩
  | i :: r, K, out, ho, h1, h2 => by
    have hi := ends_lt hv (ho i (by simp))
    rw [growF]
    split
    · exact grow_ok hv r K out (fun x hx => ho x (by simp [hx])) h1 h2
    · rename_i hne
      refine grow_ok hv r _ _ (fun x hx => ho x (by simp [hx])) ?_ ?_
      · rw [List.map_append]
        exact h1.join hi.1 hi.2
      · rw [List.map_append]
        exact h2.snoc fun hc => hne ((h1.2 _ _ hi.1 hi.2).2 hc)
theorem iota_ok (n : Nat) : LabF n [] (Uf.iota n) := by
  refine ⟨by simp [Uf.iota], fun x y hx hy => ?_⟩
  have e : ∀ i, i < n → St.v (Uf.iota n) i = i := fun i hi => by simp [Uf.iota, St.v, List.getD_eq_getElem?_getD, hi]
  rw [e x hx, e y hy]
  constructor
  · intro h
    have : x = y := by omega
    rw [this]
    exact .refl _
  · intro h
    rw [h.nil]
theorem acc_seq {n : Nat} {l : List Edge} (hv : Vld n l) (os : List Int) (ho : ∀ x ∈ os, 0 ≤ x ∧ x < l.length) : Seq ((accF n l os).map (ends l)) :=
  (grow_ok hv os (Uf.iota n) [] ho (iota_ok n) (fun k c d h => by simp at h)).2
end Hp
end Go.Proofs.Ytobaodkcjjgkdaa
namespace Go.Proofs.Ytobaodkcjjgkdaa
open Go

namespace Hp
def growK (l : List Edge) : List Int → List Int → List Int
  | [], K => K
  | i :: r, K => if St.v K (eU l i) = St.v K (eV l i) then growK l r K else growK l r (Uf.joined K (eU l i) (eV l i))
def growD (l : List Edge) : List Int → List Int → List Int
  | [], _ => []
  | i :: r, K => if St.v K (eU l i) = St.v K (eV l i) then growD l r K else i :: growD l r (Uf.joined K (eU l i) (eV l i))
theorem growF_eq (l : List Edge) : ∀ os K out, growF l os K out = (growK l os K, out ++ growD l os K)
  | [], K, out => by simp [growF, growK, growD]
  | i :: r, K, out => by
    rw [growF, growK, growD]
    split
    · exact growF_eq l r K out
    · rw [growF_eq l r, List.append_assoc]; rfl
theorem growK_app (l : List Edge) (Q : List Int) : ∀ P K, growK l (P ++ Q) K = growK l Q (growK l P K)
  | [], K => rfl
  | i :: r, K => by
    rw [List.cons_append, growK, growK]
    split
    · exact growK_app l Q r K
    · exact growK_app l Q r _
theorem growD_app (l : List Edge) (Q : List Int) : ∀ P K, growD l (P ++ Q) K = growD l P K ++ growD l Q (growK l P K)
  | [], K => rfl
  | i :: r, K => by
    rw [List.cons_append, growD, growD, growK]
    split
    · exact growD_app l Q r K
    · rw [growD_app l Q r]; rfl
theorem grow_congr (l l' : List Edge) : ∀ os K, (∀ i ∈ os, eU l' i = eU l i ∧ eV l' i = eV l i) → growK l' os K = growK l os K ∧ growD l' os K = growD l os K
  | [], K, _ => ⟨rfl, rfl⟩
  | i :: r, K, h => by
    have hi := h i (by simp)
    have hr := fun K => grow_congr l l' r K (fun j hj => h j (by simp [hj]))
    rw [growK, growK, growD, growD, hi.1, hi.2]
    split
    · exact hr K
    · rw [(hr _).1, (hr _).2]
      exact ⟨rfl, rfl⟩
theorem growK_len (l : List Edge) : ∀ os K, (growK l os K).length = K.length
  | [], _ => rfl
  | i :: r, K => by
    rw [growK]
    split
    · exact growK_len l r K
    · rw [growK_len l r, joined_len]
/-- The same sets. -/
def Same (n : Nat) (K K' : List Int) : Prop := K.length = n ∧ K'.length = n ∧ ∀ x y, x < n → y < n → (St.v K x = St.v K y ↔ St.v K' x = St.v K' y)
/-- The same sets, but that those of u and v are one. -/
def Rel (n : Nat) (K K' : List Int) (u v : Nat) : Prop := K.length = n ∧ K'.length = n ∧ St.v K u ≠ St.v K v ∧ ∀ x y, x < n → y < n → (St.v K' x = St.v K' y ↔ (St.v K x = St.v K y ∨ (St.v K x = St.v K u ∧ St.v K y = St.v K v) ∨ (St.v K x = St.v K v ∧ St.v K y = St.v K u)))
theorem Same.join {n : Nat} {K K' : List Int} (h : Same n K K') {a b : Nat} (ha : a < n) (hb : b < n) : Same n (Uf.joined K a b) (Uf.joined K' a b) := by
  obtain ⟨h1, h2, h3⟩ := h
  refine ⟨by rw [joined_len, h1], by rw [joined_len, h2], fun x y hx hy => ?_⟩
  rw [joined_same K (by omega) (by omega), joined_same K' (by omega) (by omega), h3 x y hx hy, h3 x a hx ha, h3 y b hy hb, h3 x b hx hb, h3 y a hy ha]
theorem Same.growD {n : Nat} {l : List Edge} : ∀ os {K K' : List Int}, Same n K K' → (∀ i ∈ os, eU l i < n ∧ eV l i < n) → growD l os K = growD l os K'
  | [], _, _, _, _ => rfl
  | i :: r, K, K', h, hm => by
    have hi := hm i (by simp)
    have hr := fun j hj => hm j (List.mem_cons_of_mem i hj)
    have e := h.2.2 _ _ hi.1 hi.2
    rw [Hp.growD, Hp.growD]
    by_cases he : St.v K (eU l i) = St.v K (eV l i)
    · rw [if_pos he, if_pos (e.1 he)]
      exact Same.growD r h hr
    · rw [if_neg he, if_neg (fun k => he (e.2 k))]
      rw [Same.growD r (h.join hi.1 hi.2) hr]
theorem Rel.merge {n : Nat} {K K' : List Int} {u v a b : Nat} (h : Rel n K K' u v) (ha : a < n) (hb : b < n) (h1 : St.v K a ≠ St.v K b) (h2 : St.v K' a = St.v K' b) : Same n (Uf.joined K a b) K' := by
  obtain ⟨e1, e2, e3, e4⟩ := h
  have hab := (e4 a b ha hb).1 h2
  refine ⟨by rw [joined_len, e1], e2, fun x y hx hy => ?_⟩
  rw [joined_same K (by omega) (by omega), e4 x y hx hy]
  generalize St.v K x = X at *
  generalize St.v K y = Y at *
  generalize St.v K a = A at *
  generalize St.v K b = B at *
  generalize St.v K u = U at *
  generalize St.v K v = V at *
  rcases hab with hab | ⟨rfl, rfl⟩ | ⟨rfl, rfl⟩
  · exact absurd hab h1
  · exact Iff.rfl
  · constructor
    · rintro (h | h | h)
      · exact .inl h
      · exact .inr (.inr h)
      · exact .inr (.inl h)
    · rintro (h | h | h)
      · exact .inl h
      · exact .inr (.inr h)
      · exact .inr (.inl h)
theorem Rel.keep {n : Nat} {K K' : List Int} {u v a b : Nat} (h : Rel n K K' u v) (hu : u < n) (hv : v < n) (ha : a < n) (hb : b < n) (h2 : St.v K' a ≠ St.v K' b) : Rel n (Uf.joined K a b) (Uf.joined K' a b) u v := by
  obtain ⟨e1, e2, e3, e4⟩ := h
  have hab : ¬ _ := fun k => h2 ((e4 a b ha hb).2 k)
  refine ⟨by rw [joined_len, e1], by rw [joined_len, e2], ?_, fun x y hx hy => ?_⟩
  · rw [Ne, joined_same K (by omega) (by omega)]
    generalize St.v K a = A at *
    generalize St.v K b = B at *
    generalize St.v K u = U at *
    generalize St.v K v = V at *
    clear e4 h2
    omega
  · rw [joined_same K' (by omega) (by omega), joined_same K (by omega) (by omega), joined_same K (by omega) (by omega), joined_same K (by omega) (by omega), joined_same K (by omega) (by omega), joined_same K (by omega) (by omega), e4 x y hx hy, e4 x a hx ha, e4 y b hy hb, e4 x b hx hb, e4 y a hy ha]
    generalize St.v K x = X at *
    generalize St.v K y = Y at *
    generalize St.v K a = A at *
    generalize St.v K b = B at *
    generalize St.v K u = U at *
    generalize St.v K v = V at *
    clear e4 h2
    grind
theorem sim {n : Nat} {l : List Edge} {u v : Nat} (hu : u < n) (hv : v < n) : ∀ Q (K K' : List Int), Rel n K K' u v → (∀ i ∈ Q, eU l i < n ∧ eV l i < n) →
    (growD l Q K' = growD l Q K ∧ St.v (growK l Q K) u ≠ St.v (growK l Q K) v) ∨
    ∃ Q1 e Q2 A', Q = Q1 ++ e :: Q2 ∧ growD l Q K = growD l Q1 K ++ e :: A' ∧ growD l Q K' = growD l Q1 K ++ A' ∧ growD l (Q1 ++ [e]) K = growD l Q1 K ++ [e] ∧ St.v (growK l Q1 K) u ≠ St.v (growK l Q1 K) v ∧ St.v (growK l (Q1 ++ [e]) K) u = St.v (growK l (Q1 ++ [e]) K) v
  | [], K, K', h, _ => .inl ⟨rfl, h.2.2.1⟩
  | i :: r, K, K', h, hm => by
    have hi := hm i (by simp)
    have hr := fun j hj => hm j (List.mem_cons_of_mem i hj)
    have e4 := h.2.2.2 _ _ hi.1 hi.2
    by_cases he : St.v K (eU l i) = St.v K (eV l i)
    · have he' := e4.2 (.inl he)
      have d : ∀ q, growD l (i :: q) K = growD l q K := fun q => by rw [growD, if_pos he]
      have d' : ∀ q, growD l (i :: q) K' = growD l q K' := fun q => by rw [growD, if_pos he']
      have k : ∀ q, growK l (i :: q) K = growK l q K := fun q => by rw [growK, if_pos he]
      rcases sim hu hv r K K' h hr with ⟨a, b⟩ | ⟨Q1, e, Q2, A', a1, a2, a3, a4, a5, a6⟩
      · exact .inl ⟨by rw [d, d', a], by rw [k]; exact b⟩
      · exact .inr ⟨i :: Q1, e, Q2, A', by rw [a1]; rfl, by rw [d, d, a2], by rw [d', d, a3], by rw [List.cons_append, d, d, a4], by rw [k]; exact a5, by rw [List.cons_append, k]; exact a6⟩
    · by_cases he' : St.v K' (eU l i) = St.v K' (eV l i)
      · have hs := h.merge hi.1 hi.2 he he'
        have d0 : growD l (i :: r) K = i :: growD l r (Uf.joined K (eU l i) (eV l i)) := by rw [growD, if_neg he]
        have d1 : growD l (i :: r) K' = growD l r K' := by rw [growD, if_pos he']
        refine .inr ⟨[], i, r, growD l r (Uf.joined K (eU l i) (eV l i)), rfl, by rw [d0]; rfl, by rw [d1, Same.growD r hs hr]; rfl, by simp [growD, he], h.2.2.1, ?_⟩
        show St.v (growK l [i] K) u = St.v (growK l [i] K) v
        rw [growK, if_neg he, growK]
        exact (hs.2.2 u v hu hv).2 ((h.2.2.2 u v hu hv).2 (.inr (.inl ⟨rfl, rfl⟩)))
      · have hk := h.keep hu hv hi.1 hi.2 he'
        have d : ∀ q, growD l (i :: q) K = i :: growD l q (Uf.joined K (eU l i) (eV l i)) := fun q => by rw [growD, if_neg he]
        have d' : ∀ q, growD l (i :: q) K' = i :: growD l q (Uf.joined K' (eU l i) (eV l i)) := fun q => by rw [growD, if_neg he']
        have k : ∀ q, growK l (i :: q) K = growK l q (Uf.joined K (eU l i) (eV l i)) := fun q => by rw [growK, if_neg he]
        rcases sim hu hv r _ _ hk hr with ⟨a, b⟩ | ⟨Q1, e, Q2, A', a1, a2, a3, a4, a5, a6⟩
        · exact .inl ⟨by rw [d, d', a], by rw [k]; exact b⟩
        · exact .inr ⟨i :: Q1, e, Q2, A', by rw [a1]; rfl, by rw [d, d, a2]; rfl, by rw [d', d, a3]; rfl, by rw [List.cons_append, d, d, a4]; rfl, by rw [k]; exact a5, by rw [List.cons_append, k]; exact a6⟩
end Hp
end Go.Proofs.Ytobaodkcjjgkdaa
