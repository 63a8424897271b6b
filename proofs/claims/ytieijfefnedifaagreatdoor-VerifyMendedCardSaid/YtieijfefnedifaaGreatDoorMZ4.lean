/- The walks of the reference's Same of a heap and its like, and of the law VerifyMended. -/
import Derived.Test.YtieijfefnedifaaGreatDoorMVXZ0
namespace Go.Proofs.YtieijfefnedifaaGreatDoor
open Go.RowKit
set_option linter.unusedVariables false
set_option linter.unusedSimpArgs false

/-! ### Plain -/
theorem mends_right {h g : HeapB} {n : Nat} (m : Mends h g n) : faultsP g = [] := by
  induction m with
  | done he => exact he
  | step _ _ ih => exact ih
theorem mends_none {h g : HeapB} {n : Nat} (m : Mends h g n) (hf : faultsP h = []) : g = h ∧ n = 0 := by
  cases m with
  | done _ => exact ⟨rfl, rfl⟩
  | step hn _ => exact absurd hf hn
theorem mends_like {h g : HeapB} {n : Nat} (m : Mends h g n) : GeoP h → WfH h → g.sp.length = h.sp.length ∧ (∀ (i : Nat) s0 s, h.sp[i]? = some s0 → g.sp[i]? = some s → s.first = s0.first ∧ s.pages = s0.pages) ∧ GeoP g := by
  induction m with
  | done _ => intro hg _; exact ⟨rfl, fun i s0 s h1 h2 => by rw [h1] at h2; cases h2; exact ⟨rfl, rfl⟩, hg⟩
  | @step h g n _ _ ih =>
    intro hg hw
    have st := mendS_st hg hw
    obtain ⟨a, b, c⟩ := ih (mendS_geo hg hw) (mendS_mi hg hw).wf
    refine ⟨a.trans st.1, fun i s0 s h1 h2 => ?_, c⟩
    have hi := (List.getElem?_eq_some_iff.1 h1).1
    have h3 : (mendS h).sp[i]? = some ((mendS h).sp[i]'(by rw [st.1]; exact hi)) := List.getElem?_eq_getElem _
    have r := st.2 i _ _ h1 h3
    have q := b i _ _ h3 h2
    exact ⟨q.1.trans r.first, q.2.trans r.pages⟩
/-! ### Same of like ones -/
set_option maxRecDepth 100000 in
set_option maxHeartbeats 8000000 in
theorem sameA (l : List Int) (A B : Option Addr) (c d : Nat) (w : World) (ha : RdU w A l) (hb : RdU w B l) (hl : l.length ≤ 16384) : Calls Tryz.prog 21 #[.agg #[.slice A l.length c], .agg #[.slice B l.length d]] w (Ret (.bool true) w) := by
  have hba := balloc (balloc (Below.refl w.heap.size w) (.cells #[.slice A l.length c] 24)) (.cells #[.slice B l.length d] 24)
  have F1 : Hid (((w.alloc (.cells #[.slice A l.length c] 24)).alloc (.cells #[.slice B l.length d] 24)).cell? ⟨w.heap.size, 0, none⟩ = some (.slice A l.length c)) := by show _ = _; go_simp
  have F2 : Hid (((w.alloc (.cells #[.slice A l.length c] 24)).alloc (.cells #[.slice B l.length d] 24)).cell? ⟨w.heap.size + 1, 0, none⟩ = some (.slice B l.length d)) := by show _ = _; go_simp
  have HA := Lib.hid ha
  have HB := Lib.hid hb
  have HBA := Lib.hid hba
  clear ha hb hba
  go_enter Tryz.func21, Tryz.ntmps21
  go_wp2
  generalize (w.alloc (.cells #[.slice A l.length c] 24)).alloc (.cells #[.slice B l.length d] 24) = W0 at *
  obtain ⟨wo, hwo⟩ : ∃ wo : World, wo = W0 := ⟨_, rfl⟩
  go_loopw [16] (fun i wr => ∃ k : Nat, k ≤ l.length ∧ i = .int .i64 k ∧ Hid (Below w.heap.size w wr) ∧ Hid (wr.cell? ⟨w.heap.size, 0, none⟩ = some (.slice A l.length c)) ∧ Hid (wr.cell? ⟨w.heap.size + 1, 0, none⟩ = some (.slice B l.length d))) (fun i _ => l.length - (intOf i).toNat)
  case atStart => exact ⟨0, Nat.zero_le _, rfl, HBA.out, F1.out, F2.out⟩
  case round =>
    obtain ⟨k, hk, rfl, HBr, P1, P2⟩ := hrel
    clear F1 F2 HBA hwo
    by_cases hlt : k < l.length
    · have hx : l[k]? = some l[k] := List.getElem?_eq_getElem hlt
      generalize l[k] = x at hx
      obtain ⟨ba, oa, hAa, -, hca⟩ := (HA.out.below HBr.out).at_ hx
      obtain ⟨bb, ob, hBb, -, hcb⟩ := (HB.out.below HBr.out).at_ hx
      subst hAa hBb
      have P3 := Lib.hid hca
      have P4 := Lib.hid hcb
      have hq1 : (0 : Int) ≤ (k : Int) := by omega
      have hq2 : (k : Int) < (l.length : Int) := by omega
      clear hx hca hcb
      go_wp2
      refine region_up (by kernel_rfl) (by kernel_rfl) ?_
      iterate 11
        go_big_quiet_want
        apply Exists.intro
        refine ⟨fun W hW => ?_, ?_⟩
        · have g0 := cell_later hW P1.out
          have g1 := cell_later hW P2.out
          have g2 := cell_later hW P3.out
          have g3 := cell_later hW P4.out
          go_simp
          all_goals exact rfl
        simp only [Act.put, List.setIfInBounds_toArray, List.set_cons_succ, List.set_cons_zero]
        go_big_quiet_on
      refine wpQuiet_nil ?_
      intro W hW
      have HB3 := Lib.hid (bthen HBr.out hW)
      have Q1 := Lib.hid (cell_later hW P1.out)
      have Q2 := Lib.hid (cell_later hW P2.out)
      clear hW HBr P1 P2 P3 P4
      go_wp2
      go_roundw
      case rel => exact ⟨k + 1, by omega, by go_num, HB3.out, Q1.out, Q2.out⟩
      case measure => simp [intOf]; omega
    · obtain rfl : k = l.length := by omega
      go_wp2
      go_ret
      exact ⟨rfl, HBr.out⟩
set_option maxRecDepth 100000 in
theorem sameP (v u : BitV) (b : BitB) (w : World) (ha : RdB w v b) (hb : RdB w u b) : Calls Tryz.prog 22 #[v.v, u.v] w (Ret (.bool true) w) := by
  have hba := balloc (balloc (Below.refl w.heap.size w) (.cells #[.int .i64 v.n, .slice v.A v.m v.c] 28)) (.cells #[.int .i64 u.n, .slice u.A u.m u.c] 28)
  have CS := Lib.hid (same45 v u b b _ (ha.below hba) (hb.below hba))
  rw [show sameB b b = true by simp [sameB]] at CS
  have HBA := Lib.hid hba
  clear ha hb hba
  unfold BitV.v at CS ⊢
  go_enter Tryz.func22, Tryz.ntmps22
  go_wp2_with (go_at_call 53; refine CS.out.mono ?_)
  rintro e w1 ⟨rfl, hb1⟩
  have HB1 := Lib.hid (bthen HBA.out hb1)
  clear hb1 CS HBA
  go_wp2
  go_ret
  exact ⟨rfl, HB1.out⟩
set_option maxRecDepth 100000 in
set_option maxHeartbeats 8000000 in
theorem sameH (v u : HeapV) (h : HeapB) (w : World) (ha : RdH w v h) (hb : RdH w u h) (hl : h.ar.length ≤ 16384) : Calls Tryz.prog 12 #[v.v, u.v] w (Ret (.bool true) w) := by
  have hba := balloc (balloc (Below.refl w.heap.size w) (.cells #[.slice v.aA v.aN v.aC, .int .i64 v.us.n, .slice v.us.A v.us.m v.us.c, .slice v.sA v.sN v.sC] 31)) (.cells #[.slice u.aA u.aN u.aC, .int .i64 u.us.n, .slice u.us.A u.us.m u.us.c, .slice u.sA u.sN u.sC] 31)
  have HB := Lib.hid hba
  have HV : Hid (VarH ((w.alloc (.cells #[.slice v.aA v.aN v.aC, .int .i64 v.us.n, .slice v.us.A v.us.m v.us.c, .slice v.sA v.sN v.sC] 31)).alloc (.cells #[.slice u.aA u.aN u.aC, .int .i64 u.us.n, .slice u.us.A u.us.m u.us.c, .slice u.sA u.sN u.sC] 31)) w.heap.size v) :=
    (VarH.made w v).below (balloc (Below.refl _ _) _) (by simp)
  have HW : Hid (VarH ((w.alloc (.cells #[.slice v.aA v.aN v.aC, .int .i64 v.us.n, .slice v.us.A v.us.m v.us.c, .slice v.sA v.sN v.sC] 31)).alloc (.cells #[.slice u.aA u.aN u.aC, .int .i64 u.us.n, .slice u.us.A u.us.m u.us.c, .slice u.sA u.sN u.sC] 31)) (w.heap.size + 1) u) := by
    have h1 := VarH.made (w.alloc (.cells #[.slice v.aA v.aN v.aC, .int .i64 v.us.n, .slice v.us.A v.us.m v.us.c, .slice v.sA v.sN v.sC] 31)) u
    have hz : (w.alloc (.cells #[.slice v.aA v.aN v.aC, .int .i64 v.us.n, .slice v.us.A v.us.m v.us.c, .slice v.sA v.sN v.sC] 31)).heap.size = w.heap.size + 1 := by simp
    rw [hz] at h1
    exact h1
  have CA : Hid (∀ W, Below w.heap.size w W → Calls Tryz.prog 21 #[.agg #[.slice v.aA v.aN v.aC], .agg #[.slice u.aA u.aN u.aC]] W (Ret (.bool true) W)) := fun W hW => by rw [ha.n, hb.n]; exact sameA h.ar v.aA u.aA v.aC u.aC W (ha.ar.below hW) (hb.ar.below hW) hl
  have CP : Hid (∀ W, Below w.heap.size w W → Calls Tryz.prog 22 #[.agg #[.int .i64 v.us.n, .slice v.us.A v.us.m v.us.c], .agg #[.int .i64 u.us.n, .slice u.us.A u.us.m u.us.c]] W (Ret (.bool true) W)) := fun W hW => sameP v.us u.us h.us W (ha.us.below hW) (hb.us.below hW)
  have CS : Hid (∀ W, Below w.heap.size w W → Calls Tryz.prog 23 #[.slice v.sA v.sN v.sC, .slice u.sA u.sN u.sC] W (Ret (.bool true) W)) := fun W hW => by
    have h1 := same30 v.sA u.sA v.sC u.sC v.vs u.vs h.sp h.sp W (ha.sp.below hW) (hb.sp.below hW)
    rw [decide_eq_true rfl] at h1
    rw [ha.sn, hb.sn]
    exact h1
  clear ha hb hl hba
  unfold HeapV.v
  go_enter Tryz.func12, Tryz.ntmps12
  go_upto_region 1 with fail
  generalize (w.alloc (.cells #[.slice v.aA v.aN v.aC, .int .i64 v.us.n, .slice v.us.A v.us.m v.us.c, .slice v.sA v.sN v.sC] 31)).alloc (.cells #[.slice u.aA u.aN u.aC, .int .i64 u.us.n, .slice u.us.A u.us.m u.us.c, .slice u.sA u.sN u.sC] 31) = W0 at *
  obtain ⟨t0, t1, t2, t3, tf⟩ := HV.out
  obtain ⟨s0, s1, s2, s3, sf⟩ := HW.out
  clear tf sf
  go_wp2_with (go_at_call 21; refine (CA.out _ HB.out).mono ?_)
  rintro e w1 ⟨rfl, hb1⟩
  have HV1 := Lib.hid (HV.out.below hb1 HV.out.lt)
  have HW1 := Lib.hid (HW.out.below hb1 HW.out.lt)
  have HB1 := Lib.hid (bthen HB.out hb1)
  clear t0 t1 t2 t3 s0 s1 s2 s3 hb1 HV HW HB CA
  obtain ⟨t0, t1, t2, t3, tf⟩ := HV1.out
  obtain ⟨s0, s1, s2, s3, sf⟩ := HW1.out
  clear tf sf
  go_wp2_with (go_at_call 22; refine (CP.out _ HB1.out).mono ?_)
  rintro e w2 ⟨rfl, hb2⟩
  have HV2 := Lib.hid (HV1.out.below hb2 HV1.out.lt)
  have HW2 := Lib.hid (HW1.out.below hb2 HW1.out.lt)
  have HB2 := Lib.hid (bthen HB1.out hb2)
  clear t0 t1 t2 t3 s0 s1 s2 s3 hb2 HV1 HW1 HB1 CP
  obtain ⟨t0, t1, t2, t3, tf⟩ := HV2.out
  obtain ⟨s0, s1, s2, s3, sf⟩ := HW2.out
  clear tf sf
  go_wp2_with (go_at_call 23; refine (CS.out _ HB2.out).mono ?_)
  rintro e w3 ⟨rfl, hb3⟩
  have HB3 := Lib.hid (bthen HB2.out hb3)
  clear t0 t1 t2 t3 s0 s1 s2 s3 hb3 CS
  go_wp2
  go_ret
  exact ⟨rfl, HB3.out⟩
/-! ### The law -/
set_option maxRecDepth 100000 in
set_option maxHeartbeats 8000000 in
theorem mended_bad (v : HeapV) (h : HeapB) (w : World) (hr : RdH w v h) (hT : Tab w) (hg : ¬ GeoP h) : Calls Tryz.prog 4 #[v.v] w (Ret (.bool true) w) := by
  have ba := balloc (Below.refl w.heap.size w) (.cells #[.slice v.aA v.aN v.aC, .int .i64 v.us.n, .slice v.us.A v.us.m v.us.c, .slice v.sA v.sN v.sC] 31)
  have CL := Lib.hid (lives7 _ (hT.below ba))
  have HV0 := Lib.hid (VarH.made w v)
  have HB0 := Lib.hid ba
  have HR := Lib.hid hr
  clear hT ba
  have CM : Hid (∀ W, Below w.heap.size w W → Calls Tryz.prog 11 #[v.v] W (Ret (.tuple #[.agg #[.slice none 0 0, .int .i64 0, .slice none 0 0, .slice none 0 0], .int .i64 0, .int .i64 2]) W)) := fun W hW => mendBad v h W (hr.below hW) hg
  have CW : Hid (∀ W, Below w.heap.size w W → Calls Tryz.prog 10 #[v.v] W (Ret (.int .u8 (worstP (faultsP h))) W)) := fun W hW => worst10 v h W (hr.below hW)
  have hw := worst_bad hg
  unfold HeapV.v at CM CW ⊢
  generalize worstP (faultsP h) = z at *
  clear hr hg
  rcases hw with rfl | rfl
  all_goals
    go_enter Tryz.func4, Tryz.ntmps4
    go_wp2_with (go_at_call 7; refine CL.out.mono ?_)
    rintro e w1 ⟨rfl, hb1⟩
    have HB := Lib.hid (bthen HB0.out hb1)
    have HV := Lib.hid (HV0.out.below hb1 HV0.out.lt)
    clear hb1 HB0 HV0 CL
    obtain ⟨t0, t1, t2, t3, tf⟩ := HV.out
    clear tf
    go_wp2_with (go_at_call 11; refine (CM.out _ HB.out).mono ?_)
    rintro e w2 ⟨rfl, hb2⟩
    have HB2 := Lib.hid (bthen HB.out hb2)
    have HV2 := Lib.hid (HV.out.below hb2 HV.out.lt)
    clear hb2 HB HV CM t0 t1 t2 t3
    go_upto_region 4 with fail
    have bz := balloc (Below.refl w2.heap.size w2) (.cells #[.slice none 0 0, .int .i64 0, .slice none 0 0, .slice none 0 0] 31)
    have HB3 := Lib.hid (bthen HB2.out bz)
    have HV3 := Lib.hid (HV2.out.below bz HV2.out.lt)
    clear bz HB2 HV2
    generalize w2.alloc (.cells #[.slice none 0 0, .int .i64 0, .slice none 0 0, .slice none 0 0] 31) = W3 at *
    obtain ⟨t0, t1, t2, t3, tf⟩ := HV3.out
    clear tf
    go_wp2_with (go_at_call 10; refine (CW.out _ HB3.out).mono ?_)
    rintro e w4 ⟨rfl, hb4⟩
    have HB4 := Lib.hid (bthen HB3.out hb4)
    clear hb4 CW t0 t1 t2 t3
    go_wp2
    go_ret
    exact ⟨rfl, HB4.out⟩
set_option maxRecDepth 100000 in
set_option maxHeartbeats 16000000 in
theorem mended_good (v : HeapV) (h : HeapB) (w : World) (hr : RdH w v h) (hT : Tab w) (hg : GeoP h) : Calls Tryz.prog 4 #[v.v] w (Ret (.bool true) w) := by
  have ba := balloc (Below.refl w.heap.size w) (.cells #[.slice v.aA v.aN v.aC, .int .i64 v.us.n, .slice v.us.A v.us.m v.us.c, .slice v.sA v.sN v.sC] 31)
  have CL := Lib.hid (lives7 _ (hT.below ba))
  have HV0 := Lib.hid (VarH.made w v)
  have HB0 := Lib.hid ba
  have HR := Lib.hid hr
  clear hT ba
  have CM : Hid (∀ W, Below w.heap.size w W → Calls Tryz.prog 11 #[v.v] W (RetM h W)) := fun W hW => mendOk v h W (hr.below hW) hg
  have CK : Hid (∀ W, Below w.heap.size w W → Calls Tryz.prog 9 #[v.v] W (Ret (.int .i64 (chkH h)) W)) := fun W hW => hcheck9 v h W (hr.below hW)
  have HG := Lib.hid hg
  have HWF := Lib.hid hr.wf
  have HNN : Hid (v.sN = h.sp.length ∧ h.sp.length ≤ 256) := ⟨hr.sn, okL_len hg.2.2.1⟩
  unfold HeapV.v at CM CK ⊢
  clear hr hg
  go_enter Tryz.func4, Tryz.ntmps4
  go_wp2_with (go_at_call 7; refine CL.out.mono ?_)
  rintro e w1 ⟨rfl, hb1⟩
  have HB := Lib.hid (bthen HB0.out hb1)
  have HV := Lib.hid (HV0.out.below hb1 HV0.out.lt)
  clear hb1 HB0 HV0 CL
  obtain ⟨t0, t1, t2, t3, tf⟩ := HV.out
  clear tf
  go_wp2_with (go_at_call 11; refine (CM.out _ HB.out).mono ?_)
  rintro e w2 ⟨v2, g, n, rfl, hm, ho, hwf, hb2⟩
  unfold HeapV.v
  have HB2 := Lib.hid (bthen HB.out hb2)
  have HV2 := Lib.hid (HV.out.below hb2 HV.out.lt)
  have HMN := Lib.hid hm
  have HRG := Lib.hid (ho.rd hwf)
  have HLK := Lib.hid (mends_like hm HG.out HWF.out)
  have HFG := Lib.hid (mends_right hm)
  have HCG : Hid (chkH g = 0) := by show _ = _; unfold chkH; rw [if_pos ((faults_nil hwf.us).1 HFG.out)]
  clear hm ho hwf hb2 HB HV CM t0 t1 t2 t3
  go_upto_region 4 with fail
  have bz := balloc (Below.refl w2.heap.size w2) (.cells #[.slice v2.aA v2.aN v2.aC, .int .i64 v2.us.n, .slice v2.us.A v2.us.m v2.us.c, .slice v2.sA v2.sN v2.sC] 31)
  have HB3 := Lib.hid (bthen HB2.out bz)
  have HV3 := Lib.hid (HV2.out.below bz HV2.out.lt)
  have HW3 := Lib.hid (VarH.made w2 v2)
  have HR3 := Lib.hid (HRG.out.below bz)
  generalize hWA : w2.alloc (.cells #[.slice v2.aA v2.aN v2.aC, .int .i64 v2.us.n, .slice v2.us.A v2.us.m v2.us.c, .slice v2.sA v2.sN v2.sC] 31) = W3 at *
  generalize hpp : w2.heap.size = p at *
  clear hWA hpp bz HB2 HV2 HRG
  obtain ⟨t0, t1, t2, t3, tf⟩ := HW3.out
  clear tf
  have CE := Lib.hid (mendOk v2 g W3 HR3.out HLK.out.2.2)
  unfold HeapV.v at CE
  go_wp2_with (go_at_call 11; refine CE.out.mono ?_)
  rintro e w4 ⟨v4, g4, n4, rfl, hm4, ho4, hwf4, hb4⟩
  unfold HeapV.v
  obtain ⟨rfl, rfl⟩ := mends_none hm4 HFG.out
  have HB4 := Lib.hid (bthen HB3.out hb4)
  have HV4 := Lib.hid (HV3.out.below hb4 HV3.out.lt)
  have HW4 := Lib.hid (HW3.out.below hb4 HW3.out.lt)
  have HR4 := Lib.hid (HR3.out.below hb4)
  have HA4 := Lib.hid (ho4.rd hwf4)
  clear hm4 ho4 hwf4 hb4 HB3 HV3 HW3 HR3 CE t0 t1 t2 t3
  go_upto_region 8 with fail
  have bz := balloc (Below.refl w4.heap.size w4) (.cells #[.slice v4.aA v4.aN v4.aC, .int .i64 v4.us.n, .slice v4.us.A v4.us.m v4.us.c, .slice v4.sA v4.sN v4.sC] 31)
  have HB5 := Lib.hid (bthen HB4.out bz)
  have HV5 := Lib.hid (HV4.out.below bz HV4.out.lt)
  have HW5 := Lib.hid (HW4.out.below bz HW4.out.lt)
  have HX5 := Lib.hid (VarH.made w4 v4)
  have HR5 := Lib.hid (HR4.out.below bz)
  have HA5 := Lib.hid (HA4.out.below bz)
  generalize hWA : w4.alloc (.cells #[.slice v4.aA v4.aN v4.aC, .int .i64 v4.us.n, .slice v4.us.A v4.us.m v4.us.c, .slice v4.sA v4.sN v4.sC] 31) = W5 at *
  generalize hqq : w4.heap.size = q at *
  clear hWA hqq bz HB4 HV4 HW4 HR4 HA4
  obtain ⟨t0, t1, t2, t3, tf⟩ := HW5.out
  clear tf
  have CC := Lib.hid (hcheck9 v2 g4 W5 HR5.out)
  rw [HCG.out] at CC
  unfold HeapV.v at CC
  go_wp2_with (go_at_call 9; refine CC.out.mono ?_)
  rintro e w6 ⟨rfl, hb6⟩
  have HB6 := Lib.hid (bthen HB5.out hb6)
  have HV6 := Lib.hid (HV5.out.below hb6 HV5.out.lt)
  have HW6 := Lib.hid (HW5.out.below hb6 HW5.out.lt)
  have HX6 := Lib.hid (HX5.out.below hb6 HX5.out.lt)
  have HR6 := Lib.hid (HR5.out.below hb6)
  have HA6 := Lib.hid (HA5.out.below hb6)
  clear hb6 HB5 HV5 HW5 HX5 HR5 HA5 CC t0 t1 t2 t3
  obtain ⟨t0, t1, t2, t3, tf⟩ := HW6.out
  obtain ⟨s0, s1, s2, s3, sf⟩ := HX6.out
  clear tf sf
  have CS := Lib.hid (sameH v2 v4 g4 w6 HR6.out HA6.out HLK.out.2.2.1)
  unfold HeapV.v at CS
  go_wp2_with (go_at_call 12; refine CS.out.mono ?_)
  rintro e w7 ⟨rfl, hb7⟩
  have HB7 := Lib.hid (bthen HB6.out hb7)
  have HV7 := Lib.hid (HV6.out.below hb7 HV6.out.lt)
  have HW7 := Lib.hid (HW6.out.below hb7 HW6.out.lt)
  have HR7 := Lib.hid (HR6.out.below hb7)
  clear hb7 HB6 HV6 HW6 HX6 HR6 HA6 CS t0 t1 t2 t3 s0 s1 s2 s3
  obtain ⟨v2A, v2N, v2C, v2u, s2A, s2N, s2C, vs2⟩ := v2
  obtain ⟨vA, vN, vC, vu, sA, sN, sC, vs⟩ := v
  have hn2 := HR7.out.sn
  have hn1 := HNN.out.1
  have hl1 := HLK.out.1
  simp only at hn1 hn2
  rw [hl1] at hn2
  subst hn2
  subst hn1
  have h256 := HNN.out.2
  clear hl1
  obtain ⟨t0, t1, t2, t3, tf⟩ := HW7.out
  obtain ⟨s0, s1, s2, s3, sf⟩ := HV7.out
  simp only at t3 s3
  clear tf sf t0 t1 t2 s0 s1 s2
  go_wp2
  clear t3 s3
  have P1 := Lib.hid HW7.out.c3
  have P2 := Lib.hid HV7.out.c3
  simp only at P1 P2
  obtain ⟨wo, hwo⟩ : ∃ wo : World, wo = w7 := ⟨_, rfl⟩
  go_loopw [68] (fun i wr => ∃ k : Nat, k ≤ h.sp.length ∧ i = .int .i64 k ∧ Hid (Below w7.heap.size w7 wr)) (fun i _ => h.sp.length - (intOf i).toNat)
  case atStart => exact ⟨0, Nat.zero_le _, rfl, Below.refl _ _⟩
  case round =>
    obtain ⟨k, hk, rfl, HBr⟩ := hrel
    clear hwo
    by_cases hlt : k < h.sp.length
    · have hs0 : h.sp[k]? = some h.sp[k] := List.getElem?_eq_getElem hlt
      have hs1 : g4.sp[k]? = some (g4.sp[k]'(by have := HLK.out.1; omega)) := List.getElem?_eq_getElem _
      generalize h.sp[k] = s0 at hs0
      generalize (g4.sp[k]'_) = s1 at hs1
      have hlike := HLK.out.2.1 k s0 s1 hs0 hs1
      obtain ⟨va, ba, oa, -, hRa, hAa, -, a0, a1, -, -, -, -, -, -⟩ := (HR7.out.below HBr.out).sp.at_ hs1
      obtain ⟨vb, bb, ob, -, hRb, hAb, -, b0, b1, -, -, -, -, -, -⟩ := (HR.out.below (bthen HB7.out HBr.out)).sp.at_ hs0
      simp only at hAa hAb
      subst hAa hAb
      rw [hRa.first, hlike.1] at a0
      rw [hRa.pages, hlike.2] at a1
      rw [hRb.first] at b0
      rw [hRb.pages] at b1
      have Q1 := Lib.hid (cell_later HBr.out P1.out)
      have Q2 := Lib.hid (cell_later HBr.out P2.out)
      have Q3 := Lib.hid a0
      have Q4 := Lib.hid a1
      have Q5 := Lib.hid b0
      have Q6 := Lib.hid b1
      have hq1 : (0 : Int) ≤ (k : Int) := by omega
      have hq2 : (k : Int) < (h.sp.length : Int) := by omega
      clear hs0 hs1 hlike hRa hRb a0 a1 b0 b1
      go_wp2
      refine region_up (by kernel_rfl) (by kernel_rfl) ?_
      iterate 28
        go_big_quiet_want
        apply Exists.intro
        refine ⟨fun W hW => ?_, ?_⟩
        · have g0 := cell_later hW Q1.out
          have g1 := cell_later hW Q2.out
          have g2 := cell_later hW Q3.out
          have g3 := cell_later hW Q4.out
          have g4 := cell_later hW Q5.out
          have g5 := cell_later hW Q6.out
          go_simp
          all_goals exact rfl
        simp only [Act.put, List.setIfInBounds_toArray, List.set_cons_succ, List.set_cons_zero]
        go_big_quiet_on
      refine wpQuiet_nil ?_
      intro W hW
      have HB3 := Lib.hid (bthen HBr.out hW)
      clear hW HBr Q1 Q2 Q3 Q4 Q5 Q6
      go_wp2
      go_roundw
      case rel => exact ⟨k + 1, by omega, by go_num, HB3.out⟩
      case measure => simp [intOf]; omega
    · obtain rfl : k = h.sp.length := by omega
      have HB8 := Lib.hid (bthen HB7.out HBr.out)
      have HV8 := Lib.hid (HV7.out.below HBr.out HV7.out.lt)
      have HW8 := Lib.hid (HW7.out.below HBr.out HW7.out.lt)
      have HR8 := Lib.hid (HR7.out.below HBr.out)
      obtain ⟨s0, s1, s2, s3, sf⟩ := HV8.out
      simp only at s0 s1 s2 s3
      clear sf P1 P2 HBr
      by_cases hh : heapP h = true
      · have hk0 : chkH h = 0 := by unfold chkH; rw [if_pos hh]
        rw [hk0] at CK
        have hfn := (faults_nil HWF.out.us).2 hh
        obtain ⟨rfl, rfl⟩ := mends_none HMN.out hfn
        have CS : Hid (∀ W, Below wr.heap.size wr W → Calls Tryz.prog 12 #[.agg #[.slice v2A v2N v2C, .int .i64 v2u.n, .slice v2u.A v2u.m v2u.c, .slice s2A g4.sp.length s2C], .agg #[.slice vA vN vC, .int .i64 vu.n, .slice vu.A vu.m vu.c, .slice sA g4.sp.length sC]] W (Ret (.bool true) W)) := fun W hW => by
          have h1 := sameH _ _ g4 W (HR8.out.below hW) (HR.out.below (bthen HB8.out hW)) HLK.out.2.2.1
          unfold HeapV.v at h1
          exact h1
        clear hk0 hh hfn
        go_wp2_with (go_at_call 9; refine (CK.out _ HB8.out).mono ?_)
        rintro e w9 ⟨rfl, hb9⟩
        have HB9 := Lib.hid (bthen HB8.out hb9)
        have HBX := Lib.hid hb9
        have HV9 := Lib.hid (HV8.out.below hb9 HV8.out.lt)
        have HW9 := Lib.hid (HW8.out.below hb9 HW8.out.lt)
        clear hb9 s0 s1 s2 s3 CK
        obtain ⟨t0, t1, t2, t3, tf⟩ := HW9.out
        obtain ⟨s0, s1, s2, s3, sf⟩ := HV9.out
        simp only at t0 t1 t2 t3 s0 s1 s2 s3
        clear tf sf
        go_wp2_with (go_at_call 12; refine (CS.out _ HBX.out).mono ?_)
        rintro e w10 ⟨rfl, hb10⟩
        have HB10 := Lib.hid (bthen HB9.out hb10)
        clear hb10 t0 t1 t2 t3 s0 s1 s2 s3 CS
        go_wp2
        go_ret
        exact ⟨rfl, HB10.out⟩
      · have hk2 : chkH h = 2 := by unfold chkH; rw [if_neg hh]
        rw [hk2] at CK
        clear hk2 hh
        go_wp2_with (go_at_call 9; refine (CK.out _ HB8.out).mono ?_)
        rintro e w9 ⟨rfl, hb9⟩
        have HB9 := Lib.hid (bthen HB8.out hb9)
        clear hb9 s0 s1 s2 s3 CK
        go_wp2
        go_ret
        exact ⟨rfl, HB9.out⟩
theorem mended4 (v : HeapV) (h : HeapB) (w : World) (hr : RdH w v h) (hT : Tab w) : Calls Tryz.prog 4 #[v.v] w (Ret (.bool true) w) := by
  by_cases hg : GeoP h
  · exact mended_good v h w hr hT hg
  · exact mended_bad v h w hr hT hg
end Go.Proofs.YtieijfefnedifaaGreatDoor
