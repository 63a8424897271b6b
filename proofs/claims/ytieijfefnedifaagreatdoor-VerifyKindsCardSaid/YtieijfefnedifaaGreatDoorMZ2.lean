/- The walk of the law VerifyKinds. -/
import Derived.Test.YtieijfefnedifaaGreatDoorMVXZ0
namespace Go.Proofs.YtieijfefnedifaaGreatDoor
open Go.RowKit
set_option linter.unusedVariables false
set_option linter.unusedSimpArgs false

theorem kinds_1 (W : World) : RdK (W.alloc (.cells #[.int .u8 1] 37)) (some ⟨W.heap.size, 0, none⟩) [1] := by
  refine ⟨rfl, by simp, fun _ => ⟨W.heap.size, 0, rfl, by simp, fun j u hu => ?_⟩⟩
  have hj : j < 1 := by
    have := (List.getElem?_eq_some_iff.1 hu).1
    simpa [kcs] using this
  obtain rfl : j = 0 := by omega
  simp [kcs] at hu
  subst hu
  go_simp
theorem kinds_2 (W : World) : RdK (W.alloc (.cells #[.int .u8 2] 37)) (some ⟨W.heap.size, 0, none⟩) [2] := by
  refine ⟨rfl, by simp, fun _ => ⟨W.heap.size, 0, rfl, by simp, fun j u hu => ?_⟩⟩
  have hj : j < 1 := by
    have := (List.getElem?_eq_some_iff.1 hu).1
    simpa [kcs] using this
  obtain rfl : j = 0 := by omega
  simp [kcs] at hu
  subst hu
  go_simp
theorem kinds_4 (W : World) : RdK (W.alloc (.cells #[.int .u8 3, .int .u8 4, .int .u8 5, .int .u8 6] 37)) (some ⟨W.heap.size, 0, none⟩) [3, 4, 5, 6] := by
  refine ⟨rfl, by simp, fun _ => ⟨W.heap.size, 0, rfl, by simp, fun j u hu => ?_⟩⟩
  have hj : j < 4 := by
    have := (List.getElem?_eq_some_iff.1 hu).1
    simpa [kcs] using this
  have hc : j = 0 ∨ j = 1 ∨ j = 2 ∨ j = 3 := by omega
  rcases hc with rfl | rfl | rfl | rfl <;> (simp [kcs] at hu; subst hu; go_simp)
set_option maxRecDepth 100000 in
set_option maxHeartbeats 8000000 in
theorem kinds5 (v : HeapV) (h : HeapB) (w : World) (hr : RdH w v h) (hT : Tab w) : Calls Tryz.prog 5 #[v.v] w (Ret (.bool true) w) := by
  have hc := kinds_cases h
  have HSO : Hid (∀ (i : Nat) f g, (faultsP h)[i]? = some f → (faultsP h)[i + 1]? = some g → lexF f g) := fun i f g => faults_next
  have ba := balloc (Below.refl w.heap.size w) (.cells #[.slice v.aA v.aN v.aC, .int .i64 v.us.n, .slice v.us.A v.us.m v.us.c, .slice v.sA v.sN v.sC] 31)
  have CL := Lib.hid (lives7 _ (hT.below ba))
  have CF : Hid (∀ W, Below w.heap.size w W → Calls Tryz.prog 8 #[v.v] W (RetFs (faultsP h) W)) := fun W hW => faults8 v h W (hr.below hW)
  have CN : Hid (∀ (ks : List Nat) (KA : Option Addr) (kc n : Nat) W, ks.length = n → Below w.heap.size w W → RdK W KA ks → Calls Tryz.prog 13 #[v.v, .slice KA n kc] W (Ret (.int .i64 (cntP ks (faultsP h))) W)) := fun ks KA kc n W hn hW hk => by
    rw [← hn]
    exact count13 v h ks KA kc W (hr.below hW) hk
  have HV0 := Lib.hid (VarH.made w v)
  have HB0 := Lib.hid ba
  have hlen : (faultsP h).length ≤ 1000000 := by
    rcases faults_cases h with e | ⟨e, _⟩ | ⟨_, hg⟩
    · rw [e]; simp
    · rw [e]
      unfold spanF spansF
      split
      · have := spSt_len h.us.n h.sp h.sp.length; omega
      · have := spSt_len h.us.n h.sp 256; rw [List.length_append]; simp; omega
    · have := faults_len hg; omega
  unfold HeapV.v at CF CN ⊢
  clear hr hT ba
  generalize faultsP h = l at *
  have C1 : Hid (∀ W, Below w.heap.size w W → Calls Tryz.prog 13 #[.agg #[.slice v.aA v.aN v.aC, .int .i64 v.us.n, .slice v.us.A v.us.m v.us.c, .slice v.sA v.sN v.sC], .slice (some ⟨W.heap.size, 0, none⟩) 1 1] (W.alloc (.cells #[.int .u8 1] 37)) (Ret (.int .i64 (cntP [1] l)) (W.alloc (.cells #[.int .u8 1] 37)))) :=
    fun W hW => CN.out [1] _ 1 1 _ rfl (balloc hW _) (kinds_1 W)
  have C2 : Hid (∀ W, Below w.heap.size w W → Calls Tryz.prog 13 #[.agg #[.slice v.aA v.aN v.aC, .int .i64 v.us.n, .slice v.us.A v.us.m v.us.c, .slice v.sA v.sN v.sC], .slice (some ⟨W.heap.size, 0, none⟩) 1 1] (W.alloc (.cells #[.int .u8 2] 37)) (Ret (.int .i64 (cntP [2] l)) (W.alloc (.cells #[.int .u8 2] 37)))) :=
    fun W hW => CN.out [2] _ 1 1 _ rfl (balloc hW _) (kinds_2 W)
  have C3 : Hid (∀ W, Below w.heap.size w W → Calls Tryz.prog 13 #[.agg #[.slice v.aA v.aN v.aC, .int .i64 v.us.n, .slice v.us.A v.us.m v.us.c, .slice v.sA v.sN v.sC], .slice (some ⟨W.heap.size, 0, none⟩) 4 4] (W.alloc (.cells #[.int .u8 3, .int .u8 4, .int .u8 5, .int .u8 6] 37)) (Ret (.int .i64 (cntP [3, 4, 5, 6] l)) (W.alloc (.cells #[.int .u8 3, .int .u8 4, .int .u8 5, .int .u8 6] 37)))) :=
    fun W hW => CN.out [3, 4, 5, 6] _ 4 4 _ rfl (balloc hW _) (kinds_4 W)
  have HC := Lib.hid hc
  generalize hk1 : cntP [1] l = k1 at *
  generalize hk2 : cntP [2] l = k2 at *
  generalize hk3 : cntP [3, 4, 5, 6] l = k3 at *
  clear hc hk1 hk2 hk3 CN
  go_enter Tryz.func5, Tryz.ntmps5
  go_wp2_with (go_at_call 7; refine CL.out.mono ?_)
  rintro e w1 ⟨rfl, hb1⟩
  have HB := Lib.hid (bthen HB0.out hb1)
  have HV := Lib.hid (HV0.out.below hb1 HV0.out.lt)
  clear hb1 HB0 HV0 CL
  obtain ⟨t0, t1, t2, t3, tf⟩ := HV.out
  clear tf
  go_wp2_with (go_at_call 8; refine (CF.out _ HB.out).mono ?_)
  rintro e w2 ⟨A, c, rfl, hf2, hb2⟩
  have HF := Lib.hid (hf2.rd rfl)
  have HB2 := Lib.hid (bthen HB.out hb2)
  have HV2 := Lib.hid (HV.out.below hb2 HV.out.lt)
  clear hb2 HB HV hf2 CF t0 t1 t2 t3
  have HB := HB2
  have HV := HV2
  clear HB2 HV2
  obtain ⟨t0, t1, t2, t3, tf⟩ := HV.out
  clear tf
  generalize hln : l.length = n at *
  go_wp2_with (go_at_call 13; refine (C1.out _ HB.out).mono ?_)
  rintro e w7 ⟨rfl, hb7⟩
  have HB7 := Lib.hid (bthen HB.out (bthen (balloc (Below.refl _ _) _) hb7))
  have HV7 := Lib.hid (HV.out.below (bthen (balloc (Below.refl _ _) _) hb7) HV.out.lt)
  have HF7 := Lib.hid (HF.out.below (bthen (balloc (Below.refl _ _) _) hb7))
  clear hb7 HB HV HF t0 t1 t2 t3
  have HB := HB7
  have HV := HV7
  have HF := HF7
  clear HB7 HV7 HF7
  obtain ⟨t0, t1, t2, t3, tf⟩ := HV.out
  clear tf
  generalize w7 = wq at *
  go_wp2_with (go_at_call 13; refine (C2.out _ HB.out).mono ?_)
  rintro e w7 ⟨rfl, hb7⟩
  have HB7 := Lib.hid (bthen HB.out (bthen (balloc (Below.refl _ _) _) hb7))
  have HV7 := Lib.hid (HV.out.below (bthen (balloc (Below.refl _ _) _) hb7) HV.out.lt)
  have HF7 := Lib.hid (HF.out.below (bthen (balloc (Below.refl _ _) _) hb7))
  clear hb7 HB HV HF t0 t1 t2 t3
  have HB := HB7
  have HV := HV7
  have HF := HF7
  clear HB7 HV7 HF7
  obtain ⟨t0, t1, t2, t3, tf⟩ := HV.out
  clear tf
  generalize w7 = wq at *
  go_wp2_with (go_at_call 13; refine (C3.out _ HB.out).mono ?_)
  rintro e w7 ⟨rfl, hb7⟩
  have HB7 := Lib.hid (bthen HB.out (bthen (balloc (Below.refl _ _) _) hb7))
  have HV7 := Lib.hid (HV.out.below (bthen (balloc (Below.refl _ _) _) hb7) HV.out.lt)
  have HF7 := Lib.hid (HF.out.below (bthen (balloc (Below.refl _ _) _) hb7))
  clear hb7 HB HV HF t0 t1 t2 t3
  have HB := HB7
  have HV := HV7
  have HF := HF7
  clear HB7 HV7 HF7
  obtain ⟨t0, t1, t2, t3, tf⟩ := HV.out
  clear tf
  generalize w7 = wq at *
  have HLN := Lib.hid hln
  clear hln C1 C2 C3 t0 t1 t2 t3 HV
  go_wp2
  obtain ⟨wo, hwo⟩ : ∃ wo : World, wo = wq := ⟨_, rfl⟩
  go_loopw [23] (fun i wr => ∃ k : Nat, k ≤ n ∧ i = .int .i64 k ∧ Hid (Below w.heap.size w wr) ∧ Hid (RdF wr A l)) (fun i _ => n - (intOf i).toNat)
  case atStart => exact ⟨0, Nat.zero_le _, rfl, HB.out, HF.out⟩
  case round =>
    obtain ⟨k, hk, rfl, HBr, HFr⟩ := hrel
    clear HB HF hwo
    by_cases hlt : k < n
    · by_cases hk0 : k = 0
      · subst hk0
        go_wp2
        refine region_up (by kernel_rfl) (by kernel_rfl) ?_
        iterate 3
          go_big_quiet_want
          apply Exists.intro
          refine ⟨fun W hW => ?_, ?_⟩
          · go_simp
            all_goals exact rfl
          simp only [Act.put, List.setIfInBounds_toArray, List.set_cons_succ, List.set_cons_zero]
          go_big_quiet_on
        iterate 40 go_big_quiet_skip
        go_big_quiet_want
        apply Exists.intro
        refine ⟨fun W hW => ?_, ?_⟩
        · go_simp
          all_goals exact rfl
        simp only [Act.put, List.setIfInBounds_toArray, List.set_cons_succ, List.set_cons_zero]
        go_big_quiet_on
        refine wpQuiet_nil ?_
        intro W hW
        have HB3 := Lib.hid (bthen HBr.out hW)
        have HF3 := Lib.hid (HFr.out.below hW)
        clear hW HBr HFr
        go_wp2
        go_roundw
        case rel => exact ⟨1, by omega, by go_num, HB3.out, HF3.out⟩
        case measure => simp [intOf]; omega
      · obtain ⟨j, hj⟩ : ∃ j, k = j + 1 := ⟨k - 1, by omega⟩
        have hf : l[j]? = some (l[j]'(by have := HLN.out; omega)) := List.getElem?_eq_getElem _
        have hg : l[j + 1]? = some (l[j + 1]'(by have := HLN.out; omega)) := List.getElem?_eq_getElem _
        generalize (l[j]'_) = f at hf
        generalize (l[j + 1]'_) = g at hg
        have hlx := HSO.out j f g hf hg
        obtain ⟨bk, oo, hA, -, f0, f1⟩ := HFr.out.at_ hf
        obtain ⟨bk2, oo2, hA2, -, g0, g1⟩ := HFr.out.at_ hg
        subst hA
        simp only [Option.some.injEq, Addr.mk.injEq, and_true] at hA2
        obtain ⟨rfl, rfl⟩ := hA2
        rw [← hj] at g0 g1
        have F0 := Lib.hid f0
        have F1 := Lib.hid f1
        have G0 := Lib.hid g0
        have G1 := Lib.hid g1
        have ej : (k : Int) - 1 = (j : Int) := by omega
        have hkp : (0 : Int) < (k : Int) := by omega
        have hwj : IntKind.i64.wrap (j : Int) = (j : Int) := wrap_in (x := (j : Int)) (by omega)
        have hjn : (j : Int) < (n : Int) := by omega
        have hkn : (k : Int) < (n : Int) := by omega
        have hj0 : (0 : Int) ≤ (j : Int) := by omega
        have hd0 : decide ((0 : Int) < (k : Int)) = true := decide_eq_true hkp
        have hkq : 0 < k := by omega
        have hd9 : decide (0 < k) = true := decide_eq_true hkq
        clear hf hg f0 f1 g0 g1
        unfold lexF at hlx
        rcases hlx with hlx | ⟨hlx, hla⟩
        · have d1 : decide ((g.k : Int) < (f.k : Int)) = false := decide_eq_false (by omega)
          have d2 : ((f.k : Int) == (g.k : Int)) = false := by rw [beq_eq_false_iff_ne]; omega
          have d4 : decide (g.k < f.k) = false := decide_eq_false (by omega)
          have d5 : (f.k == g.k) = false := by rw [beq_eq_false_iff_ne]; omega
          clear hlx hj
          go_wp2
          refine region_up (by kernel_rfl) (by kernel_rfl) ?_
          iterate 29
            go_big_quiet_want
            apply Exists.intro
            refine ⟨fun W hW => ?_, ?_⟩
            · have g0 := cell_later hW F0.out
              have g1 := cell_later hW F1.out
              have g2 := cell_later hW G0.out
              have g3 := cell_later hW G1.out
              go_simp
              all_goals exact rfl
            simp only [Act.put, List.setIfInBounds_toArray, List.set_cons_succ, List.set_cons_zero]
            go_big_quiet_on
          iterate 12 go_big_quiet_skip
          iterate 3
            go_big_quiet_want
            apply Exists.intro
            refine ⟨fun W hW => ?_, ?_⟩
            · have g0 := cell_later hW F0.out
              have g1 := cell_later hW F1.out
              have g2 := cell_later hW G0.out
              have g3 := cell_later hW G1.out
              go_simp
              all_goals exact rfl
            simp only [Act.put, List.setIfInBounds_toArray, List.set_cons_succ, List.set_cons_zero]
            go_big_quiet_on
          refine wpQuiet_nil ?_
          intro W hW
          have HB3 := Lib.hid (bthen HBr.out hW)
          have HF3 := Lib.hid (HFr.out.below hW)
          clear hW HBr HFr
          go_wp2
          go_roundw
          case rel => exact ⟨k + 1, by omega, by go_num, HB3.out, HF3.out⟩
          case measure => simp [intOf]; omega
        · have d1 : decide ((g.k : Int) < (f.k : Int)) = false := decide_eq_false (by omega)
          have d2 : ((f.k : Int) == (g.k : Int)) = true := by simp [hlx]
          have d3 : decide ((g.a : Int) ≤ (f.a : Int)) = false := decide_eq_false (by omega)
          have d4 : decide (g.k < f.k) = false := decide_eq_false (by omega)
          have d5 : (f.k == g.k) = true := by simp [hlx]
          have d6 : decide (g.a ≤ f.a) = false := decide_eq_false (by omega)
          clear hlx hla hj
          go_wp2
          refine region_up (by kernel_rfl) (by kernel_rfl) ?_
          iterate 44
            go_big_quiet_want
            apply Exists.intro
            refine ⟨fun W hW => ?_, ?_⟩
            · have g0 := cell_later hW F0.out
              have g1 := cell_later hW F1.out
              have g2 := cell_later hW G0.out
              have g3 := cell_later hW G1.out
              go_simp
              all_goals exact rfl
            simp only [Act.put, List.setIfInBounds_toArray, List.set_cons_succ, List.set_cons_zero]
            go_big_quiet_on
          refine wpQuiet_nil ?_
          intro W hW
          have HB3 := Lib.hid (bthen HBr.out hW)
          have HF3 := Lib.hid (HFr.out.below hW)
          clear hW HBr HFr
          go_wp2
          go_roundw
          case rel => exact ⟨k + 1, by omega, by go_num, HB3.out, HF3.out⟩
          case measure => simp [intOf]; omega
    · obtain rfl : k = n := by omega
      rcases HC.out with ⟨e1, e2, e3, e4⟩ | ⟨e1, e4, e2, e3⟩ | ⟨e1, e2, e3⟩
      · subst e1 e2 e3 e4
        go_wp2
        go_ret
        exact ⟨rfl, HBr.out⟩
      · have d1 : ((k2 : Int) == 0) = false := by rw [beq_eq_false_iff_ne]; omega
        subst e1 e2 e3
        clear e4
        go_wp2
        go_ret
        exact ⟨rfl, HBr.out⟩
      · subst e1 e2 e3
        go_wp2
        go_ret
        exact ⟨rfl, HBr.out⟩
end Go.Proofs.YtieijfefnedifaaGreatDoor
