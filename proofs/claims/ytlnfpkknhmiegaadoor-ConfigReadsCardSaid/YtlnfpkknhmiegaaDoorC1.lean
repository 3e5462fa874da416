/- The contract of config.Parse. -/
import Derived.Test.YtlnfpkknhmiegaaDoorA9
namespace Go.Proofs.YtlnfpkknhmiegaaDoor
open Go Go.RowKit

/-- The answer of config.Parse: the four numbers, and the error. -/
def answer : Option PS → Int × Int × Int × Int × Int
  | none => (0, 0, 0, 0, 15)
  | some st => if 1 ≤ st.a ∧ st.a ≤ 9223372036854775807 ∧ 1 ≤ st.b ∧ st.b ≤ 16384 ∧ 2 ≤ st.c ∧ st.c ≤ 4096 ∧ 0 ≤ st.d ∧ st.d ≤ 16384 then (st.a, st.b, st.c, st.d, 0) else (0, 0, 0, 0, 2)
def Answers (s : List UInt8) (w : World) (e : Ending) (w' : World) : Prop :=
  e = .returned (.tuple #[quad (answer (parsed s)).1 (answer (parsed s)).2.1 (answer (parsed s)).2.2.1 (answer (parsed s)).2.2.2.1, .int .i64 (answer (parsed s)).2.2.2.2]) ∧ Below w.heap.size w w'

theorem res_ret {n : Nat} {a b c d x : Int} {w : World} (h : Res n a b c d x w) (tmps : Array Value) (h2 : tmps[2]?.getD undef = .pointer (some ⟨n, 0, none⟩)) (h3 : tmps[3]?.getD undef = .pointer (some ⟨n + 1, 0, none⟩)) :
    (results Tryd.f13 tmps).run Tryd.prog w = .ok (.tuple #[quad a b c d, .int .i64 x]) w := by
  obtain ⟨⟨c0, c1, c2, c3, c4⟩, -⟩ := h.cells
  simp [results, Tryd.results13, go_sem, h2, h3, c0, c1, c2, c3, c4]

set_option maxRecDepth 100000 in
set_option maxHeartbeats 1000000 in
theorem parse_empty (w : World) (hG : G w) :
    Calls Tryd.prog 13 #[.string ⟨#[]⟩] w (Answers [] w) := by
  have HV : Hid (Valid 60 1024 1024 1024) := by unfold Hid Valid; omega
  have hmf : ∀ (fn : Fn) (first cap : Array Value) (w : World), (Instr.makeFunc fn first cap).run Tryd.prog w = .ok (.func fn first cap) w := fun _ _ _ _ => rfl
  have h9 := hG.big
  have HG := Lib.hid hG; clear hG
  go_enter_defers Tryd.func13, Tryd.ntmps13
  go_wp2_with (first | (go_at_call 19; refine (default_any _).mono ?_; rintro e w1 ⟨rfl, hb⟩; refine Hid.out ?_))
  have hb1 : Below w.heap.size w w1 := (((Below.refl _ _).alloc (Nat.le_refl _) _).alloc (by simp) _).trans (hb.mono (by simp; omega))
  have hR1 : Res w.heap.size 0 0 0 0 0 w1 :=
    ⟨(hb.block _ (by simp; omega)).trans ((Below.heap_alloc _ _ _ (by simp)).trans (block_new w _ _ rfl)), (hb.block _ (by simp)).trans (block_new (w.alloc _) _ _ (by simp))⟩
  have HB1 := Lib.hid hb1; have HR1 := Lib.hid hR1
  clear hb hb1 hR1
  refine Lib.hid ?_
  go_wp2_with (first | (go_at_call 35; refine (fields_any _ _ _ _ _).mono ?_; rintro e w2 ⟨rfl, hb⟩; refine Hid.out ?_))
  have hR2 := HR1.out.on HR1.out.lt.2 hb
  have hz2 := hR2.lt.2
  have HB2 := Lib.hid (HB1.out.trans (hb.mono HB1.out.size)); have HR2 := Lib.hid hR2
  clear hb hR2 HB1 HR1
  refine Lib.hid ?_
  go_wp2_with (go_at_call 37; refine (made_any _ _ _ _ _).mono ?_; rintro e wA ⟨rfl, hbA⟩; refine Hid.out ?_)
  have hbA2 : Below w2.heap.size w2 wA := (((Below.refl _ _).alloc (Nat.le_refl _) _).alloc (by simp) _).trans (hbA.mono (by simp; omega))
  have hRA := HR2.out.on hz2 hbA2
  have hBA : Below w.heap.size w wA := HB2.out.trans (hbA2.mono HB2.out.size)
  clear hbA2 HR2 HB2
  obtain ⟨⟨k0, k1, k2, k3, k4⟩, f0, f1, f2, f3, f4⟩ := hRA.cells
  obtain ⟨zn, zm⟩ := hRA.lt
  have hR3 := hRA.put (60) (1024) (1024) (1024)
  have hB3 := below_quad hBA (Nat.le_refl _) (.int .i64 (60)) (.int .i64 (1024)) (.int .i64 (1024)) (.int .i64 (1024))
  have HR3 := Lib.hid hR3; have HB3 := Lib.hid hB3
  clear hRA hBA hR3 hB3 hbA
  refine Lib.hid ?_
  go_wp2_with (go_at_call 18; refine (check_ok _ _ _ _ _ (HG.out.on HB3.out).tab HV.out).mono ?_; rintro e wB ⟨rfl, hbB⟩; refine Hid.out ?_)
  have hR4 := HR3.out.on HR3.out.lt.2 hbB
  have hB4 := HB3.out.trans (hbB.mono HB3.out.size)
  clear k0 k1 k2 k3 k4 f0 f1 f2 f3 f4 zn zm
  obtain ⟨⟨k0, k1, k2, k3, k4⟩, f0, f1, f2, f3, f4⟩ := hR4.cells
  obtain ⟨zn, zm⟩ := hR4.lt
  have hR5 := (hR4.put (60) (1024) (1024) (1024)).err 0
  have hB5 := (below_quad hB4 (Nat.le_refl _) (.int .i64 (60)) (.int .i64 (1024)) (.int .i64 (1024)) (.int .i64 (1024))).setCell (p := ⟨w.heap.size + 1, 0, none⟩) (by show w.heap.size ≤ w.heap.size + 1; omega) (.int .i64 0)
  have HR5 := Lib.hid hR5; have HB5 := Lib.hid hB5
  clear hR4 hB4 hR5 hB5 hbB HR3 HB3
  refine Lib.hid ?_
  go_wp2
  refine leaves_cons (f := 34) (args := #[.pointer (some ⟨w.heap.size, 0, none⟩), .pointer (some ⟨w.heap.size + 1, 0, none⟩)]) (by simp) (by simp [go_sem]) ?_
  refine (catch_idle w.heap.size (w.heap.size + 1) _).mono ?_
  rintro e u' w'' ⟨rfl, rfl, rfl⟩
  exact ⟨_, res_ret HR5.out _ rfl rfl, by rfl, HB5.out⟩

/-- Where the loop over the settings stands behind k of them. -/
def Mid (s : List UInt8) (w : World) (bl sl : Nat) (k : Nat) (wr : World) : Prop :=
  sl = bl + 2 ∧ ∃ st : PS, PS.start.run ((spl 32 s).take k) = some st ∧ Arr bl (bl + 1) st wr ∧ Res w.heap.size 0 0 0 0 0 wr ∧ G wr ∧ Below w.heap.size w wr ∧ w.heap.size + 1 < bl ∧
    wr.heap[sl]? = some (.cells ((spl 32 s).map fun x => Value.string ⟨x.toArray⟩).toArray 9 (0, 0))

set_option maxRecDepth 100000 in
set_option maxHeartbeats 1000000 in
theorem parse_some (s : List UInt8) (hs : s ≠ []) (hl : s.length ≤ 4294967280) (w : World) (hG : G w) :
    Calls Tryd.prog 13 #[.string ⟨s.toArray⟩] w (Answers s w) := by
  have hne : s.toArray.toList.isEmpty = false := by cases s <;> simp_all
  have hmf : ∀ (fn : Fn) (first cap : Array Value) (w : World), (Instr.makeFunc fn first cap).run Tryd.prog w = .ok (.func fn first cap) w := fun _ _ _ _ => rfl
  have h9 := hG.big
  have HG := Lib.hid hG; clear hG
  go_enter_defers Tryd.func13, Tryd.ntmps13
  go_wp2_with (first | (go_at_call 19; refine (default_any _).mono ?_; rintro e w1 ⟨rfl, hb⟩; refine Hid.out ?_))
  have hb1 : Below w.heap.size w w1 := (((Below.refl _ _).alloc (Nat.le_refl _) _).alloc (by simp) _).trans (hb.mono (by simp; omega))
  have hR1 : Res w.heap.size 0 0 0 0 0 w1 :=
    ⟨(hb.block _ (by simp; omega)).trans ((Below.heap_alloc _ _ _ (by simp)).trans (block_new w _ _ rfl)), (hb.block _ (by simp)).trans (block_new (w.alloc _) _ _ (by simp))⟩
  have HB1 := Lib.hid hb1; have HR1 := Lib.hid hR1
  clear hb hb1 hR1
  refine Lib.hid ?_
  go_wp2_with (first | (go_at_call 35; refine (fields_any _ _ _ _ _).mono ?_; rintro e w2 ⟨rfl, hb⟩; refine Hid.out ?_))
  have hR2 := HR1.out.on HR1.out.lt.2 hb
  have hz2 := hR2.lt.2
  have HB2 := Lib.hid (HB1.out.trans (hb.mono HB1.out.size)); have HR2 := Lib.hid hR2
  clear hb hR2 HB1 HR1
  refine Lib.hid ?_
  have HL := Lib.hid hl; clear hl
  go_wp2_with (first | (go_at_call 20; refine (split_any s _ ?_ HL.out).mono ?_; exact HG.out.on (((HB2.out.alloc (by omega) _).alloc (by simp; omega) _)); rintro e w3 ⟨rfl, hw3⟩; have HW3 := Lib.hid hw3; clear hw3; refine Hid.out ?_))
  have hw3 := HW3.out
  have hz3 : w2.heap.size + 1 + 1 < w3.heap.size := by rw [hw3]; simp
  have hM : Mid s w w2.heap.size (w2.heap.size + 1 + 1) 0 w3 := by
    have hb3 : Below w2.heap.size w2 w3 := by rw [hw3]; exact (((Below.refl _ _).alloc (Nat.le_refl _) _).alloc (by simp) _).alloc (by simp; omega) _
    have hbw : Below w.heap.size w w3 := HB2.out.trans (hb3.mono (by omega))
    refine ⟨rfl, PS.start, rfl, ⟨?_, ?_, by omega⟩, HR2.out.on hz2 hb3, HG.out.on hbw, hbw, hz2, ?_⟩
    · rw [hw3, Below.heap_alloc _ _ _ (by simp; omega), Below.heap_alloc _ _ _ (by simp)]; exact block_new _ _ _ rfl
    · rw [hw3, Below.heap_alloc _ _ _ (by simp)]; exact block_new _ _ _ (by simp)
    · rw [hw3]; exact block_new _ _ _ (by simp)
  clear hw3 HW3 HR2 HB2 hz3
  generalize hsl : w2.heap.size + 1 + 1 = sl at *
  generalize hbl : w2.heap.size = bl at *
  have HSL := Lib.hid hsl; clear hsl hbl hz2
  have hN : (spl 32 s).length ≤ 4294967282 := by rw [spl_count 32 _ s (Nat.le_refl _)]; have := Lib.count_le s [32]; have := HL.out; omega
  generalize hN2 : (spl 32 s).length = N at *
  have HN2 := Lib.hid hN2; clear hN2
  refine Lib.hid ?_
  go_wp2
  go_loopw [18] (fun i wr => ∃ k : Nat, k ≤ N ∧ i = .int .i64 k ∧ Mid s w bl sl k wr) (fun i _ => N - (intOf i).toNat)
  case atStart => exact ⟨0, Nat.zero_le _, rfl, hM⟩
  case round =>
    obtain ⟨k, hk, rfl, hsl2, st, hrun, hA, hR, hGr, hBr, hnb, hrow⟩ := hrel
    by_cases hlt : k < N
    · have hcell := cells_of_block hrow k
      have hkN : k < (spl 32 s).length := by rw [HN2.out]; exact hlt
      rw [show (((spl 32 s).map fun x => Value.string ⟨x.toArray⟩).toArray)[k]? = some (.string ⟨((spl 32 s)[k]).toArray⟩) by simp [hkN]] at hcell
      have hzs : sl < wr.heap.size := (Array.getElem?_eq_some_iff.1 hrow).1
      have hxl : ((spl 32 s)[k]).length ≤ 4294967280 := Nat.le_trans (spl_part_len 32 _ s (Nat.le_refl _) _ (List.getElem_mem hkN)) HL.out
      generalize hx : (spl 32 s)[k] = x at *
      have HX := Lib.hid hx; have HRUN := Lib.hid hrun; have HA := Lib.hid hA; have HR := Lib.hid hR; have HGr := Lib.hid hGr; have HBr := Lib.hid hBr; have HROW := Lib.hid hrow; have HS2 := Lib.hid hsl2
      clear hx hrun hA hR hGr hBr hrow hsl2
      cases hstep : st.step x with
      | some st2 =>
        have H := Lib.hid (set_ok x st st2 bl (bl + 1) (w.heap.size + 2) wr HGr.out hxl (by omega) (by have := HS2.out; omega) (by omega) (by omega) HA.out hstep)
        have HST := Lib.hid hstep
        clear hstep hxl
        go_wp2_with (go_at_call 36; refine (H.out).mono ?_; rintro e wB ⟨rfl, hbB, hAB, hkeep⟩; have HBB := Lib.hid hbB; have HAB := Lib.hid hAB; have HKP := Lib.hid hkeep; clear hbB hAB hkeep)
        go_roundw
        case rel =>
          refine ⟨k + 1, by omega, by go_num, HS2.out, st2, ?_, HAB.out, HR.out.on (B := w.heap.size + 2) (by omega) HBB.out, HGr.out.below (B := w.heap.size + 2) (by omega) HBB.out, HBr.out.trans (HBB.out.mono (by omega)), hnb, ?_⟩
          · rw [List.take_succ_eq_append_getElem hkN, run_append, HRUN.out, HX.out]
            simp [PS.run, HST.out]
          · exact (HKP.out sl hzs (by have := HS2.out; omega) (by have := HS2.out; omega)).trans HROW.out
        case measure => simp [intOf]; omega
      | none =>
        have H := Lib.hid (set_bad x st bl (bl + 1) (w.heap.size + 2) wr HGr.out hxl (by omega) (by have := HS2.out; omega) (by omega) (by omega) HA.out hstep)
        have HST := Lib.hid hstep
        clear hstep hxl
        go_wp2_with (go_at_call 36; refine (H.out).mono ?_; rintro e wB ⟨rfl, hbB⟩; refine Hid.out ?_)
        have hnone : parsed s = none := by
          unfold parsed
          rw [if_neg hs, ← List.take_append_drop k (spl 32 s), run_append, HRUN.out, List.drop_eq_getElem_cons hkN, HX.out]
          simp [PS.run, HST.out]
        have hRB := HR.out.on (B := w.heap.size + 2) (by omega) hbB
        have hBB : Below w.heap.size w wB := HBr.out.trans (hbB.mono (by omega))
        clear hbB hcell
        refine Lib.hid ?_
        refine leaves_cons (f := 34) (args := #[.pointer (some ⟨w.heap.size, 0, none⟩), .pointer (some ⟨w.heap.size + 1, 0, none⟩)]) (by simp) (by simp [go_sem]) ?_
        refine (catch_some w.heap.size (w.heap.size + 1) 0 0 0 0 0 _ _ [] _ hRB.lh hRB.xh (by omega)).mono ?_
        rintro e u' w'' ⟨rfl, rfl, rfl⟩
        refine ⟨_, res_ret ((hRB.put 0 0 0 0).err 15) _ rfl rfl, ?_, ?_⟩
        · rw [hnone]; rfl
        · exact (below_quad hBB (Nat.le_refl _) _ _ _ _).setCell (by show w.heap.size ≤ w.heap.size + 1; omega) _
    · have hkN : k = N := by omega
      have hall : parsed s = some st := by
        unfold parsed
        rw [if_neg hs, ← hrun, hkN, ← HN2.out, List.take_length]
      have HALL := Lib.hid hall; have HA := Lib.hid hA; have HR := Lib.hid hR; have HGr := Lib.hid hGr; have HBr := Lib.hid hBr
      obtain rfl : k = N := hkN
      have hza := hA.lt.1
      obtain ⟨q0, q1, q2, q3⟩ := vals_at hA
      clear hall hrun hA hR hGr hBr hrow hsl2 hM
      by_cases hv : Valid st.a st.b st.c st.d
      · have HV := Lib.hid hv
        clear hv
        go_wp2_with (go_at_call 37; refine (made_any _ _ _ _ _).mono ?_; rintro e wA ⟨rfl, hbA⟩; refine Hid.out ?_)
        clear q0 q1 q2 q3
        have hRA := HR.out.on HR.out.lt.2 hbA
        have hBA : Below w.heap.size w wA := HBr.out.trans (hbA.mono HBr.out.size)
        obtain ⟨⟨k0, k1, k2, k3, k4⟩, f0, f1, f2, f3, f4⟩ := hRA.cells
        obtain ⟨zn, zm⟩ := hRA.lt
        have hR3 := hRA.put (st.a) (st.b) (st.c) (st.d)
        have hB3 := below_quad hBA (Nat.le_refl _) (.int .i64 (st.a)) (.int .i64 (st.b)) (.int .i64 (st.c)) (.int .i64 (st.d))
        have HR3 := Lib.hid hR3; have HB3 := Lib.hid hB3
        clear hRA hBA hR3 hB3 hbA
        refine Lib.hid ?_
        go_wp2_with (go_at_call 18; refine (check_ok _ _ _ _ _ (HG.out.on HB3.out).tab HV.out).mono ?_; rintro e wB ⟨rfl, hbB⟩; refine Hid.out ?_)
        have hR4 := HR3.out.on HR3.out.lt.2 hbB
        have hB4 := HB3.out.trans (hbB.mono HB3.out.size)
        clear k0 k1 k2 k3 k4 f0 f1 f2 f3 f4 zn zm
        obtain ⟨⟨k0, k1, k2, k3, k4⟩, f0, f1, f2, f3, f4⟩ := hR4.cells
        obtain ⟨zn, zm⟩ := hR4.lt
        have hR5 := (hR4.put (st.a) (st.b) (st.c) (st.d)).err 0
        have hB5 := (below_quad hB4 (Nat.le_refl _) (.int .i64 (st.a)) (.int .i64 (st.b)) (.int .i64 (st.c)) (.int .i64 (st.d))).setCell (p := ⟨w.heap.size + 1, 0, none⟩) (by show w.heap.size ≤ w.heap.size + 1; omega) (.int .i64 0)
        have HR5 := Lib.hid hR5; have HB5 := Lib.hid hB5
        clear hR4 hB4 hR5 hB5 hbB HR3 HB3
        refine Lib.hid ?_
        go_wp2
        refine leaves_cons (f := 34) (args := #[.pointer (some ⟨w.heap.size, 0, none⟩), .pointer (some ⟨w.heap.size + 1, 0, none⟩)]) (by simp) (by simp [go_sem]) ?_
        refine (catch_idle w.heap.size (w.heap.size + 1) _).mono ?_
        rintro e u' w'' ⟨rfl, rfl, rfl⟩
        refine ⟨_, res_ret HR5.out _ rfl rfl, ?_, HB5.out⟩
        rw [HALL.out]
        have := HV.out
        unfold Valid at this
        simp [answer, this]
      · have HV := Lib.hid hv
        clear hv
        go_wp2_with (go_at_call 37; refine (made_any _ _ _ _ _).mono ?_; rintro e wA ⟨rfl, hbA⟩; refine Hid.out ?_)
        clear q0 q1 q2 q3
        have hRA := HR.out.on HR.out.lt.2 hbA
        have hBA : Below w.heap.size w wA := HBr.out.trans (hbA.mono HBr.out.size)
        obtain ⟨⟨k0, k1, k2, k3, k4⟩, f0, f1, f2, f3, f4⟩ := hRA.cells
        obtain ⟨zn, zm⟩ := hRA.lt
        have hR3 := hRA.put (st.a) (st.b) (st.c) (st.d)
        have hB3 := below_quad hBA (Nat.le_refl _) (.int .i64 (st.a)) (.int .i64 (st.b)) (.int .i64 (st.c)) (.int .i64 (st.d))
        have HR3 := Lib.hid hR3; have HB3 := Lib.hid hB3
        clear hRA hBA hR3 hB3 hbA
        refine Lib.hid ?_
        go_wp2_with (go_at_call 18; refine (check_bad _ _ _ _ _ (HG.out.on HB3.out).tab HV.out).mono ?_; rintro e wB ⟨rfl, hbB⟩; refine Hid.out ?_)
        have hR4 := HR3.out.on HR3.out.lt.2 hbB
        have hB4 := HB3.out.trans (hbB.mono HB3.out.size)
        clear k0 k1 k2 k3 k4 f0 f1 f2 f3 f4 zn zm
        obtain ⟨⟨k0, k1, k2, k3, k4⟩, f0, f1, f2, f3, f4⟩ := hR4.cells
        obtain ⟨zn, zm⟩ := hR4.lt
        have hR5 := (hR4.put 0 0 0 0).err 2
        have hB5 := (below_quad hB4 (Nat.le_refl _) (.int .i64 0) (.int .i64 0) (.int .i64 0) (.int .i64 0)).setCell (p := ⟨w.heap.size + 1, 0, none⟩) (by show w.heap.size ≤ w.heap.size + 1; omega) (.int .i64 2)
        have HR5 := Lib.hid hR5; have HB5 := Lib.hid hB5
        clear hR4 hB4 hR5 hB5 hbB HR3 HB3
        refine Lib.hid ?_
        go_wp2
        refine leaves_cons (f := 34) (args := #[.pointer (some ⟨w.heap.size, 0, none⟩), .pointer (some ⟨w.heap.size + 1, 0, none⟩)]) (by simp) (by simp [go_sem]) ?_
        refine (catch_idle w.heap.size (w.heap.size + 1) _).mono ?_
        rintro e u' w'' ⟨rfl, rfl, rfl⟩
        refine ⟨_, res_ret HR5.out _ rfl rfl, ?_, HB5.out⟩
        rw [HALL.out]
        have := HV.out
        unfold Valid at this
        simp [answer, this]
end Go.Proofs.YtlnfpkknhmiegaaDoor
