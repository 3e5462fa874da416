/- symMerge, walked. -/
import Derived.Test.YtobaodkcjjgkdaaMa3
import Derived.Deep.DeepCutAuto
import Derived.Deep.Cut
namespace Go.Proofs.Ytobaodkcjjgkdaa
open Go Go.RowKit

/-- What symMerge wants of its row. -/
structure Pre (g c n : Nat) (l : List Edge) (a m b : Nat) (xs : List Int) (w : World) : Prop where
  xl : xs.length = n
  row : Row g xs w
  cm : Cmpr g c l w
  inr : InR n xs
  s1 : St.Srt (wtOf l) a m xs
  s2 : St.Srt (wtOf l) m b xs
  ls : St.Lss a m b xs
  am : a < m
  mb : m < b
  bn : b ≤ n
/-- What symMerge brings about. -/
def SymC (g c n : Nat) (l : List Edge) (a m b : Nat) (xs : List Int) (w : World) : Prop :=
  Calls Try.prog 82 #[.slice (some ⟨g, 0, none⟩) n n, .int .i64 a, .int .i64 m, .int .i64 b, cmpF c] w fun e w' => e = .returned (.tuple #[]) ∧ ∃ ys, St.Mv a b xs ys ∧ St.Srt (wtOf l) a b ys ∧ Row g ys w' ∧ w.grownBy w' (some g)
theorem SymC.at_ {g c n : Nat} {l : List Edge} {a m b : Nat} {xs : List Int} {w : World} (h : SymC g c n l a m b xs w) {x y z : Int} (hx : x = a) (hy : y = m) (hz : z = b) :
    Calls Try.prog 82 #[.slice (some ⟨g, 0, none⟩) n n, .int .i64 x, .int .i64 y, .int .i64 z, cmpF c] w fun e w' => e = .returned (.tuple #[]) ∧ ∃ ys, St.Mv a b xs ys ∧ St.Srt (wtOf l) a b ys ∧ Row g ys w' ∧ w.grownBy w' (some g) := by
  subst hx hy hz; exact h

theorem rot_int (g a m b : Nat) (z : Int) (hz : z = b) (xs : List Int) (n : Nat) (hxn : xs.length = n) (f : Value) (w : World) (h : Row g xs w) (ham : a < m) (hmb : m < b) (hb : b ≤ n) (hn : n ≤ 1000000) :
    Calls Try.prog 100 #[.slice (some ⟨g, 0, none⟩) n n, .int .i64 a, .int .i64 m, .int .i64 z, f] w fun e w' => e = .returned (.tuple #[]) ∧ ∃ ys, St.Rot xs a m b ys ∧ Row g ys w' ∧ w.grownBy w' (some g) := by
  subst hz; exact rot_any g a m b xs n hxn f w h ham hmb hb hn
theorem tgt_none {xs : List Int} {a m b : Nat} (h : a = m ∨ m = b) (k : Nat) : St.tgt xs a m b k = xs[k]? := by
  unfold St.tgt
  rcases h with rfl | rfl
  · by_cases h1 : a ≤ k ∧ k < a + (b - a)
    · rw [if_pos h1]; congr 1; omega
    · rw [if_neg h1, if_neg (by omega)]
  · rw [if_neg (by omega)]
    by_cases h1 : a + (m - m) ≤ k ∧ k < m
    · rw [if_pos h1]; congr 1; omega
    · rw [if_neg h1]
theorem srt_out {wt : Int → Int} {a mid p q : Nat} {ys zs : List Int} (h : St.Mv a mid ys zs) (hs : St.Srt wt p q ys) (hp : mid ≤ p) : St.Srt wt p q zs := fun i j h1 h2 h3 => by
  rw [h.v_out (.inr (by omega)), h.v_out (.inr (by omega))]
  exact hs i j h1 h2 h3
theorem lss_out {a mid p q r : Nat} {ys zs : List Int} (h : St.Mv a mid ys zs) (hs : St.Lss p q r ys) (hp : mid ≤ p) : St.Lss p q r zs := fun i j h1 h2 h3 h4 => by
  rw [h.v_out (.inr (by omega)), h.v_out (.inr (by omega))]
  exact hs i j h1 h2 h3 h4

/-- Where the search of symMerge begins and ends. -/
def H0 (a m b mid s0 r0 : Nat) : Prop := (mid < m ∧ s0 + b = mid + m ∧ r0 = mid) ∨ (m ≤ mid ∧ s0 = a ∧ r0 = m)

set_option maxRecDepth 1000000 in
set_option maxHeartbeats 16000000 in
theorem sym_gen (K g c n : Nat) (l : List Edge) (hln : l.length = n) (hn : n ≤ 1000000) (IH : ∀ a m b xs w, b - a ≤ K → Pre g c n l a m b xs w → SymC g c n l a m b xs w)
    (a m b : Nat) (xs : List Int) (w : World) (hK : b - a ≤ K + 1) (P : Pre g c n l a m b xs w) (h1 : a + 1 < m) (h2 : m + 1 < b) : SymC g c n l a m b xs w := by
  have HP := Lib.hid P; have HIH := Lib.hid IH; have HLN := Lib.hid hln
  have hbn := P.bn
  have hn1 : (n : Int) ≤ 1000000 := by omega
  have b1 : (b : Int) ≤ n := by omega
  have a1 : (a : Int) + 1 < m := by omega
  have m1 : (m : Int) + 1 < b := by omega
  have hd : (((m : Int) - a) == 1) = false := by simp; omega
  have hd2 : (((b : Int) - m) == 1) = false := by simp; omega
  obtain ⟨mid, hmid⟩ : ∃ mid, mid = (a + b) / 2 := ⟨_, rfl⟩
  have HMID := Lib.hid hmid
  clear P IH hln
  unfold SymC
  go_enter Try.func82, Try.ntmps82
  go_upto_if 140 with fail
  go_cut [18, 19, 20, 21] (fun x18 x19 x20 x21 wx => x18 = .int .i64 (mid : Int) ∧ x19 = .int .i64 ((mid + m : Nat) : Int) ∧ (∃ s0 r0 : Nat, x20 = .int .i64 s0 ∧ x21 = .int .i64 r0 ∧ Hid (H0 a m b mid s0 r0)) ∧ w = wx)
  case first => as_aux_lemma =>
    by_cases hm : ((a : Int) + b) / 2 < m
    · have e1 : mid < m := by omega
      have e2 : b ≤ mid + m := by omega
      clear hmid
      go_wp2_with fail
      go_meet
      have hm2 := HMID.out
      exact ⟨by congr 1; omega, by congr 1; omega, ⟨mid + m - b, mid, by congr 1; omega, by congr 1; omega, Lib.hid (.inl ⟨e1, by omega, rfl⟩)⟩, rfl⟩
    · have e1 : m ≤ mid := by omega
      clear hmid
      go_wp2_with fail
      go_meet
      have hm2 := HMID.out
      exact ⟨by congr 1; omega, by congr 1; omega, ⟨a, m, rfl, rfl, Lib.hid (.inr ⟨e1, rfl, rfl⟩)⟩, rfl⟩
  case rest =>
    obtain ⟨rfl, rfl, ⟨s0, r0, rfl, rfl, h0⟩, rfl⟩ := hcut
    obtain ⟨nn, hnn⟩ : ∃ nn, nn = mid + m := ⟨_, rfl⟩
    rw [← hnn]
    have HNN := Lib.hid hnn
    have z1 : a ≤ s0 ∧ s0 ≤ r0 ∧ r0 ≤ m ∧ m ≤ nn - r0 ∧ r0 ≤ nn ∧ nn - s0 ≤ b ∧ mid < b ∧ a < mid ∧ r0 ≤ mid := by
      have := h0.out; unfold H0 at this; omega
    obtain ⟨z1, z2, z3, z4, z5, z6, z7, z8, z9⟩ := z1
    have nn1 : (nn : Int) ≤ 2000000 := by omega
    clear hmid hnn
    go_wp2_with fail
    go_loopw [20, 21] (fun x y wr => ∃ s r : Nat, s0 ≤ s ∧ s ≤ r ∧ r ≤ r0 ∧ x = .int .i64 s ∧ y = .int .i64 r ∧ Hid ((s = s0 ∨ wtOf l (St.v xs (s - 1)) ≤ wtOf l (St.v xs (nn - s))) ∧ (r = r0 ∨ wtOf l (St.v xs (nn - 1 - r)) < wtOf l (St.v xs r))) ∧ Row g xs wr ∧ w.grownBy wr (some g)) (fun x y _ => (intOf y).toNat - (intOf x).toNat)
    case atStart => exact ⟨s0, r0, Nat.le_refl _, z2, Nat.le_refl _, rfl, rfl, Lib.hid ⟨.inl rfl, .inl rfl⟩, HP.out.row, World.grownBy.refl _ _⟩
    case round =>
      obtain ⟨s, r, hs, hsr, hr, rfl, rfl, hQ, hrow, hg⟩ := hrel
      have i1 : (s0 : Int) ≤ s := by omega
      have i2 : (s : Int) ≤ r := by omega
      have i3 : (r : Int) ≤ r0 := by omega
      have HROW := Lib.hid hrow; have HG := Lib.hid hg
      by_cases hlt : s < r
      · have hlt1 : (s : Int) < r := by omega
        obtain ⟨h, hh⟩ : ∃ h, h = (s + r) / 2 := ⟨_, rfl⟩
        obtain ⟨u, hu⟩ : ∃ u, u = nn - 1 - h := ⟨_, rfl⟩
        have q0 : (0 : Int) ≤ ((s : Int) + r) / 2 := by omega
        have q1 : ((s : Int) + r) / 2 < n := by omega
        have q2 : (0 : Int) ≤ (nn : Int) - 1 - ((s : Int) + r) / 2 := by omega
        have q3 : (nn : Int) - 1 - ((s : Int) + r) / 2 < n := by omega
        have c1 := hrow.cell (i := h) (by rw [HP.out.xl]; omega)
        have c2 := hrow.cell (i := u) (by rw [HP.out.xl]; omega)
        have hidx : (((s : Int) + r) / 2).toNat = h := by omega
        have hidx2 : ((nn : Int) - 1 - ((s : Int) + r) / 2).toNat = u := by omega
        have HH := Lib.hid hh; have HU := Lib.hid hu
        have hcall := fun k => cmp_at HP.out.cm hg (by rw [HLN.out]; exact hn) (by rw [HLN.out]; exact HP.out.inr) (i := u) (j := h) (by rw [HP.out.xl]; omega) (by rw [HP.out.xl]; omega) rfl k
        by_cases hcmp : wtOf l (St.v xs u) < wtOf l (St.v xs h)
        · as_aux_lemma =>
          have hz := cmpI_lt hcmp
          have HQ2 := Lib.hid (show (s = s0 ∨ wtOf l (St.v xs (s - 1)) ≤ wtOf l (St.v xs (nn - s))) ∧ (h = r0 ∨ wtOf l (St.v xs (nn - 1 - h)) < wtOf l (St.v xs h)) from ⟨hQ.out.1, .inr (by rw [← hu]; exact hcmp)⟩)
          generalize cmpI (wtOf l (St.v xs u)) (wtOf l (St.v xs h)) = z at *
          generalize St.v xs h = x at c1 hcall
          generalize St.v xs u = y at c2 hcall
          have HCALL := Lib.hid hcall
          clear hrow hg hcmp hcall hh hu
          go_wp2_with fail
          go_quiet ((go_at_call 37; exact Calls.quiet_of (HCALL.out _)))
          go_wp2
          go_roundw
          case rel => exact ⟨s, h, hs, by have := HH.out; omega, by have := HH.out; omega, rfl, by congr 1; omega, HQ2, HROW.out.drewN _, only_drewN HG.out _⟩
          case measure => simp [intOf]; omega
        · as_aux_lemma =>
          have hz : decide (cmpI (wtOf l (St.v xs u)) (wtOf l (St.v xs h)) < 0) = false := decide_eq_false (cmpI_ge hcmp)
          have HQ2 := Lib.hid (show (h + 1 = s0 ∨ wtOf l (St.v xs (h + 1 - 1)) ≤ wtOf l (St.v xs (nn - (h + 1)))) ∧ (r = r0 ∨ wtOf l (St.v xs (nn - 1 - r)) < wtOf l (St.v xs r)) from ⟨.inr (by rw [Nat.add_sub_cancel, show nn - (h + 1) = u by omega]; omega), hQ.out.2⟩)
          generalize cmpI (wtOf l (St.v xs u)) (wtOf l (St.v xs h)) = z at *
          generalize St.v xs h = x at c1 hcall
          generalize St.v xs u = y at c2 hcall
          have HCALL := Lib.hid hcall
          clear hrow hg hcmp hcall hh hu
          go_wp2_with fail
          go_quiet ((go_at_call 37; exact Calls.quiet_of (HCALL.out _)))
          go_wp2
          go_roundw
          case rel => exact ⟨h + 1, r, by have := HH.out; omega, by have := HH.out; omega, hr, by congr 1; omega, rfl, HQ2, HROW.out.drewN _, only_drewN HG.out _⟩
          case measure => simp [intOf]; omega
      · have hsr2 : s = r := by omega
        subst hsr2
        as_aux_lemma =>
        obtain ⟨e, he⟩ : ∃ e, e = nn - s := ⟨_, rfl⟩
        have he1 : (nn : Int) - s = e := by omega
        have hsm : s ≤ m := by omega
        have hme : m ≤ e := by omega
        have heb : e ≤ b := by omega
        have hsd : s ≤ mid := by omega
        have hde : mid ≤ e := by have := HNN.out; omega
        have HE := Lib.hid he; have HE1 := Lib.hid he1
        clear hrow hg he he1
        go_upto_region 39 with fail
        go_cut [185] (fun x wx => (∃ B : Bool, x = .bool B ∧ Hid (B = true ↔ s < m ∧ m < e)) ∧ wr = wx)
        case first => as_aux_lemma =>
          by_cases t1 : (s : Int) < m
          · by_cases t2 : (m : Int) < nn - s
            · go_wp2_with fail
              go_meet
              exact ⟨⟨true, rfl, Lib.hid ⟨fun _ => ⟨by omega, by have := HE.out; omega⟩, fun _ => rfl⟩⟩, rfl⟩
            · go_wp2_with fail
              go_meet
              exact ⟨⟨false, rfl, Lib.hid ⟨fun h => (by cases h), fun h => (by have := HE.out; omega)⟩⟩, rfl⟩
          · go_wp2_with fail
            go_meet
            exact ⟨⟨false, rfl, Lib.hid ⟨fun h => (by cases h), fun h => (by omega)⟩⟩, rfl⟩
        case rest =>
        obtain ⟨⟨B, rfl, hB⟩, rfl⟩ := hcut
        go_upto_if 185 with fail
        go_cut [191] (fun _ wx => ∃ ys, Hid (St.Mv a b xs ys ∧ ∀ k, ys[k]? = St.tgt xs s m e k) ∧ Row g ys wx ∧ w.grownBy wx (some g))
        case first => as_aux_lemma =>
          cases B with
          | true =>
            obtain ⟨t1, t2⟩ := hB.out.1 rfl
            go_wp2_with (go_at_call 100; refine (rot_int g s m e _ HE1.out xs n HP.out.xl _ _ HROW.out t1 t2 ?_ hn).mono ?_; omega; rintro e' w1 ⟨rfl, ys, hrot, hr1, hg1⟩; have HROT := Lib.hid hrot; have HR1 := Lib.hid hr1; have HG1 := Lib.hid hg1; clear hrot hr1 hg1)
            go_meet
            exact ⟨ys, Lib.hid ⟨HROT.out.mv.mono (by omega) heb, HROT.out.at_⟩, HR1.out, only_trans HG.out HG1.out⟩
          | false =>
            have hno : s = m ∨ m = e := by
              have : ¬ (s < m ∧ m < e) := fun h => by have := hB.out.2 h; cases this
              omega
            have HNO := Lib.hid hno
            clear hno
            go_wp2_with fail
            go_meet
            exact ⟨xs, Lib.hid ⟨St.Mv.refl _ _ _, fun k => (tgt_none HNO.out k).symm⟩, HROW.out, HG.out⟩
        case rest =>
          obtain ⟨ys, hY, hrow, hg⟩ := hcut
          have hsp := St.sym_split (wt := wtOf l) (a := a) (m := m) (b := b) (mid := mid) (start := s) (s0 := s0) (r0 := r0) (xs := xs) (ys := ys) (by omega) (by omega) HMID.out h0.out hs hr HP.out.s1 HP.out.s2 HP.out.ls
            (by rw [← HNN.out]; exact hQ.out.1) (by rw [← HNN.out]; exact hQ.out.2) (by rw [← HNN.out, ← HE.out]; exact hY.out.2)
          rw [← HNN.out, ← HE.out] at hsp
          have hyl : ys.length = n := hY.out.1.len.trans HP.out.xl
          have HSP := Lib.hid hsp; have HROWY := Lib.hid hrow; have HGY := Lib.hid hg; have HYL := Lib.hid hyl
          clear hsp hrow hg HROW HG hyl
          go_upto_region 41 with fail
          obtain ⟨wy, hwy⟩ : ∃ wy : World, wy = wc := ⟨_, rfl⟩
          subst hwy
          go_cut [199] (fun x wx => (∃ B : Bool, x = .bool B ∧ Hid (B = true ↔ a < s ∧ s < mid)) ∧ wy = wx)
          case first => as_aux_lemma =>
            by_cases t1 : (a : Int) < s
            · by_cases t2 : (s : Int) < mid
              · go_wp2_with fail
                go_meet
                exact ⟨⟨true, rfl, Lib.hid ⟨fun _ => ⟨by omega, by omega⟩, fun _ => rfl⟩⟩, rfl⟩
              · go_wp2_with fail
                go_meet
                exact ⟨⟨false, rfl, Lib.hid ⟨fun h => (by cases h), fun h => (by omega)⟩⟩, rfl⟩
            · go_wp2_with fail
              go_meet
              exact ⟨⟨false, rfl, Lib.hid ⟨fun h => (by cases h), fun h => (by omega)⟩⟩, rfl⟩
          case rest =>
          obtain ⟨⟨B2, rfl, hB2⟩, rfl⟩ := hcut
          go_upto_if 199 with fail
          go_cut [205] (fun _ wx => ∃ zs, Hid (St.Mv a mid ys zs ∧ St.Srt (wtOf l) a mid zs) ∧ Row g zs wx ∧ w.grownBy wx (some g))
          case first => as_aux_lemma =>
            cases B2 with
            | true =>
              obtain ⟨t1, t2⟩ := hB2.out.1 rfl
              have hrec := HIH.out a s mid ys _ (by omega) ⟨HYL.out, HROWY.out, HP.out.cm.keep HGY.out, HP.out.inr.mv hY.out.1, HSP.out.2.1, HSP.out.2.2.1, HSP.out.2.2.2.1, t1, t2, by omega⟩
              have HREC := Lib.hid hrec
              clear hrec
              go_wp2_with (go_at_call 82; refine (HREC.out.at_ rfl rfl rfl).mono ?_; rintro e' w1 ⟨rfl, zs, hm1, hs1, hr1, hg1⟩; have HZ1 := Lib.hid (And.intro hm1 hs1); have HR1 := Lib.hid hr1; have HG1 := Lib.hid hg1; clear hm1 hs1 hr1 hg1)
              go_meet
              exact ⟨zs, HZ1, HR1.out, only_trans HGY.out HG1.out⟩
            | false =>
              have hno : s = a ∨ s = mid := by
                have : ¬ (a < s ∧ s < mid) := fun h => by have := hB2.out.2 h; cases this
                omega
              have HQ3 : Hid (St.Srt (wtOf l) a mid ys) := by
                rcases hno with e3 | e3
                · exact Lib.hid (by have := HSP.out.2.2.1; rw [e3] at this; exact this)
                · exact Lib.hid (by have := HSP.out.2.1; rw [e3] at this; exact this)
              clear hno
              go_wp2_with fail
              go_meet
              exact ⟨ys, Lib.hid ⟨St.Mv.refl _ _ _, HQ3.out⟩, HROWY.out, HGY.out⟩
          case rest =>
            obtain ⟨zs, hZ, hrow, hg⟩ := hcut
            have hzl : zs.length = n := hZ.out.1.len.trans HYL.out
            have HROWZ := Lib.hid hrow; have HGZ := Lib.hid hg; have HZL := Lib.hid hzl
            clear hrow hg hzl HROWY HGY
            have HS1 := Lib.hid (srt_out hZ.out.1 HSP.out.2.2.2.2.1 (Nat.le_refl _))
            have HS2 := Lib.hid (srt_out hZ.out.1 HSP.out.2.2.2.2.2.1 hde)
            have HS3 := Lib.hid (lss_out hZ.out.1 HSP.out.2.2.2.2.2.2 (Nat.le_refl _))
            have hfin : ∀ us, St.Mv mid b zs us → St.Srt (wtOf l) mid b us → St.Mv a b xs us ∧ St.Srt (wtOf l) a b us := fun us k1 k2 =>
              ⟨(hY.out.1.trans (hZ.out.1.mono (Nat.le_refl _) (by omega))).trans (k1.mono (by omega) (Nat.le_refl _)), St.srt_join (by rw [HYL.out]; exact hbn) hZ.out.1 hZ.out.2 k1 k2 HSP.out.1⟩
            have HFIN := Lib.hid hfin
            clear hfin
            as_aux_lemma =>
            by_cases hls : mid < e ∧ e < b
            · obtain ⟨t1, t2⟩ := hls
              have t3 : (mid : Int) < nn - s := by have := HE.out; omega
              have t4 : (nn : Int) - s < b := by have := HE.out; omega
              have hrec := HIH.out mid e b zs _ (by omega) ⟨HZL.out, HROWZ.out, HP.out.cm.keep HGZ.out, (HP.out.inr.mv hY.out.1).mv hZ.out.1, HS1.out, HS2.out, HS3.out, t1, t2, hbn⟩
              have HREC := Lib.hid hrec
              clear hrec
              go_wp2_with (go_at_call 82; refine (HREC.out.at_ rfl HE1.out rfl).mono ?_; rintro e' w1 ⟨rfl, us, hm1, hs1, hr1, hg1⟩; have HZ1 := Lib.hid (And.intro hm1 hs1); have HR1 := Lib.hid hr1; have HG1 := Lib.hid hg1; clear hm1 hs1 hr1 hg1)
              go_end0
              exact ⟨rfl, us, (HFIN.out us HZ1.out.1 HZ1.out.2).1, (HFIN.out us HZ1.out.1 HZ1.out.2).2, HR1.out, only_trans HGZ.out HG1.out⟩
            · have HFZ : Hid (St.Srt (wtOf l) mid b zs) := by
                by_cases t1 : mid < e
                · have e3 : e = b := by omega
                  exact Lib.hid (by have := HS1.out; rw [e3] at this; exact this)
                · have e3 : e = mid := by omega
                  exact Lib.hid (by have := HS2.out; rw [e3] at this; exact this)
              by_cases t1 : (mid : Int) < nn - s
              · have t2 : ¬ (nn : Int) - s < b := by have := HE.out; omega
                go_wp2_with fail
                go_end0
                exact ⟨rfl, zs, (HFIN.out zs (St.Mv.refl _ _ _) HFZ.out).1, (HFIN.out zs (St.Mv.refl _ _ _) HFZ.out).2, HROWZ.out, HGZ.out⟩
              · go_wp2_with fail
                go_end0
                exact ⟨rfl, zs, (HFIN.out zs (St.Mv.refl _ _ _) HFZ.out).1, (HFIN.out zs (St.Mv.refl _ _ _) HFZ.out).2, HROWZ.out, HGZ.out⟩

theorem sym_all (g c n : Nat) (l : List Edge) (hln : l.length = n) (hn : n ≤ 1000000) : ∀ (K : Nat) (a m b : Nat) (xs : List Int) (w : World), b - a ≤ K → Pre g c n l a m b xs w → SymC g c n l a m b xs w := by
  intro K
  induction K with
  | zero => intro a m b xs w hK P; have := P.am; have := P.mb; omega
  | succ K ih =>
    intro a m b xs w hK P
    by_cases h1 : m = a + 1
    · subst h1
      exact sym_one g c a b l xs n P.xl hln w P.row P.cm P.inr P.s2 P.ls P.mb P.bn hn
    · by_cases h2 : b = m + 1
      · subst h2
        exact sym_last g c a m l xs n P.xl hln w P.row P.cm P.inr P.s1 P.ls (by have := P.am; omega) P.bn hn
      · exact sym_gen K g c n l hln hn ih a m b xs w hK P (by have := P.am; omega) (by have := P.mb; omega)
end Go.Proofs.Ytobaodkcjjgkdaa
