/- The walks of the reference's Copy, and of the law VerifyTurned. -/
import Derived.Test.YtieijfefnedifaaGreatDoorMVXZ0
namespace Go.Proofs.YtieijfefnedifaaGreatDoor
open Go.RowKit
set_option linter.unusedVariables false
set_option linter.unusedSimpArgs false

set_option maxRecDepth 100000 in
theorem arcopy (l : List Int) (A : Option Addr) (c : Nat) (w : World) (h : RdU w A l) (hb : l.length * 8 ≤ 140737488355328) : Calls Tryz.prog 25 #[.agg #[.slice A l.length c]] w (RetA l w) := by
  have hb0 : Below w.heap.size w ((w.alloc (.cells #[.slice A l.length c] 24)).alloc (.cells #[.slice none 0 0] 24)) := balloc (balloc (Below.refl _ _) _) _
  have hs2 : ((w.alloc (.cells #[.slice A l.length c] 24)).alloc (.cells #[.slice none 0 0] 24)).heap.size = w.heap.size + 2 := by simp
  have F1 : ((w.alloc (.cells #[.slice A l.length c] 24)).alloc (.cells #[.slice none 0 0] 24)).cell? ⟨w.heap.size, 0, none⟩ = some (.slice A l.length c) := by go_simp
  have F2 : ((w.alloc (.cells #[.slice A l.length c] 24)).alloc (.cells #[.slice none 0 0] 24)).cell? ⟨w.heap.size + 1, 0, none⟩ = some (.slice none 0 0) := by go_simp
  have Z2 : ((w.alloc (.cells #[.slice A l.length c] 24)).alloc (.cells #[.slice none 0 0] 24)).frozen? ⟨w.heap.size + 1, 0, none⟩ = false := by go_simp
  have HR := Lib.hid h
  have HY : Hid ((([] : List Int).length + l.length) * 8 ≤ 140737488355328) := by show _ ≤ _; simpa using hb
  clear h hb
  go_enter Tryz.func25, Tryz.ntmps25
  go_upto_region 1 with fail
  generalize (w.alloc (.cells #[.slice A l.length c] 24)).alloc (.cells #[.slice none 0 0] 24) = w0 at *
  have hba : Below w0.heap.size w0 (w0.alloc (.cells #[] 46)) := balloc (Below.refl _ w0) _
  have f1 := cell_later hba F1
  have HBa := Lib.hid hba
  have HB0 := Lib.hid hb0
  have HOa : Hid (OwU (w0.alloc (.cells #[] 46)) w0.heap.size (.slice (some ⟨w0.heap.size, 0, none⟩) 0 0) []) := made_empty w0
  have HRa := Lib.hid (HR.out.below (bthen hb0 hba))
  have HF2 := Lib.hid F2
  have HZ2 := Lib.hid Z2
  have HS2 := Lib.hid hs2
  clear F1 F2 Z2 hba hb0 hs2
  go_wp2_with (refine wpl_appU rfl (.tmp 3) (.tmp 5) rfl w0.heap.size (.slice (some ⟨w0.heap.size, 0, none⟩) 0 0) [] l rfl HOa.out A c rfl HRa.out HY.out (by simp) ?_)
  intro v1 w2 ho hg
  have hbw : Below w0.heap.size w0 w2 := bgrown HBa.out hg (fun k hk => by cases hk; exact Nat.le_refl _)
  have f2 := cell_later hbw HF2.out
  have z2 : w2.frozen? ⟨w.heap.size + 1, 0, none⟩ = false := (hbw.frozen (p := ⟨w.heap.size + 1, 0, none⟩) (by rw [HS2.out]; show _ < _; simp)).trans HZ2.out
  have ho : OwU w2 w0.heap.size v1 l := ho
  obtain ⟨A1, c1, hv1, hc1, hr1⟩ := ho.shape
  subst hv1
  have HC := Lib.hid hc1
  have HO := Lib.hid ho
  have HB2 := Lib.hid (bthen HB0.out hbw)
  clear ho hg hbw hc1 hr1 f1
  go_wp2
  have e1 : (w2.setCell ⟨w.heap.size + 1, 0, none⟩ (.slice A1 l.length c1)).cell? ⟨w.heap.size + 1, 0, none⟩ = some (.slice A1 l.length c1) := World.cell?_setCell_same _ _ _ f2
  refine bodyPost_ret (v := .agg #[.slice A1 l.length c1]) (by simp [results, Tryz.results25, go_sem, e1]) rfl ?_
  have := HS2.out
  exact ⟨A1, c1, rfl, HC.out, OwU.mono (HO.out.set_lo (by show _ < _; simp; omega) _) (by omega), HB2.out.setCell (by simp) _⟩
set_option maxRecDepth 100000 in
theorem pgcopy (v : BitV) (b : BitB) (w : World) (h : RdB w v b) (hb : b.w.length * 8 ≤ 140737488355328) : Calls Tryz.prog 26 #[v.v] w (RetB b w) := by
  have hb0 : Below w.heap.size w ((w.alloc (.cells #[.int .i64 v.n, .slice v.A v.m v.c] 28)).alloc (.cells #[.int .i64 0, .slice none 0 0] 28)) := balloc (balloc (Below.refl _ _) _) _
  have CO := Lib.hid (copy61 v b _ (h.below hb0) hb)
  have HB0 := Lib.hid hb0
  clear h hb hb0
  unfold BitV.v at CO ⊢
  go_enter Tryz.func26, Tryz.ntmps26
  go_wp2_with (go_at_call 56; refine CO.out.mono ?_)
  rintro e w1 ⟨⟨n1, A1, m1, c1⟩, rfl, hn1, hm1, hcap1, ho1, hb1⟩
  unfold BitV.v
  simp only at hn1 hm1 hcap1 ho1
  simp only
  have q0 := cell_later hb1 (show ((w.alloc (.cells #[.int .i64 v.n, .slice v.A v.m v.c] 28)).alloc (.cells #[.int .i64 0, .slice none 0 0] 28)).cell? ⟨w.heap.size + 1, 0, none⟩ = some (.int .i64 0) from by go_simp)
  have q1 := cell_later hb1 (show ((w.alloc (.cells #[.int .i64 v.n, .slice v.A v.m v.c] 28)).alloc (.cells #[.int .i64 0, .slice none 0 0] 28)).cell? ⟨w.heap.size + 1, 1, none⟩ = some (.slice none 0 0) from by go_simp)
  have z0 : ∀ j, w1.frozen? ⟨w.heap.size + 1, j, none⟩ = false := fun j => (hb1.frozen (p := ⟨w.heap.size + 1, j, none⟩) (by simp)).trans (by go_simp)
  have l0 := World.block_lt_of_cell? _ _ q0
  have HE : Hid (n1 = b.n ∧ m1 = b.w.length ∧ m1 ≤ c1) := ⟨hn1, hm1, hcap1⟩
  have HO : Hid (OwU w1 (w.heap.size + 2) (.slice A1 m1 c1) b.w) := by
    have hz : ((w.alloc (.cells #[.int .i64 v.n, .slice v.A v.m v.c] 28)).alloc (.cells #[.int .i64 0, .slice none 0 0] 28)).heap.size = w.heap.size + 2 := by simp
    rw [hz] at ho1
    exact ho1
  have HB1 := Lib.hid (bthen HB0.out hb1)
  obtain ⟨k2, k3, -⟩ := cell_set2 (x' := .int .i64 n1) (y' := .slice A1 m1 c1) q0 q1
  have K2 := Lib.hid k2
  have K3 := Lib.hid k3
  clear k2 k3 hn1 hm1 hcap1 ho1 hb1 CO HB0
  go_wp2
  clear q0 q1 z0
  have k2 := K2.out
  have k3 := K3.out
  refine bodyPost_ret (v := .agg #[.int .i64 n1, .slice A1 m1 c1]) (by simp [results, Tryz.results26, go_sem, k2, k3]) rfl ?_
  refine ⟨⟨n1, A1, m1, c1⟩, rfl, HE.out.1, HE.out.2.1, HE.out.2.2, ?_, ?_⟩
  · refine OwU.mono (base := w.heap.size + 2) ?_ (by omega)
    repeat (refine OwU.set_lo ?_ (by simp) _)
    exact HO.out
  · repeat (refine Below.setCell ?_ (by simp) _)
    exact HB1.out
set_option maxRecDepth 100000 in
set_option maxHeartbeats 8000000 in
theorem hcopy14 (v : HeapV) (h : HeapB) (w : World) (hr : RdH w v h) (hsm : smallH h) : Calls Tryz.prog 14 #[v.v] w (RetH h w) := by
  have hba := balloc (balloc (Below.refl w.heap.size w) (.cells #[.slice v.aA v.aN v.aC, .int .i64 v.us.n, .slice v.us.A v.us.m v.us.c, .slice v.sA v.sN v.sC] 31)) (.cells #[.slice none 0 0, .int .i64 0, .slice none 0 0, .slice none 0 0] 31)
  have HB := Lib.hid hba.drew
  have HV : Hid (VarH ((w.alloc (.cells #[.slice v.aA v.aN v.aC, .int .i64 v.us.n, .slice v.us.A v.us.m v.us.c, .slice v.sA v.sN v.sC] 31)).alloc (.cells #[.slice none 0 0, .int .i64 0, .slice none 0 0, .slice none 0 0] 31)).drew w.heap.size v) :=
    ((VarH.made w v).below (balloc (Below.refl _ _) _) (by simp)).below (Below.refl (w.heap.size + 1) _).drew (by omega)
  have HW : Hid (VarH ((w.alloc (.cells #[.slice v.aA v.aN v.aC, .int .i64 v.us.n, .slice v.us.A v.us.m v.us.c, .slice v.sA v.sN v.sC] 31)).alloc (.cells #[.slice none 0 0, .int .i64 0, .slice none 0 0, .slice none 0 0] 31)).drew (w.heap.size + 1) ⟨none, 0, 0, ⟨0, none, 0, 0⟩, none, 0, 0, []⟩) := by
    have h1 := VarH.made (w.alloc (.cells #[.slice v.aA v.aN v.aC, .int .i64 v.us.n, .slice v.us.A v.us.m v.us.c, .slice v.sA v.sN v.sC] 31)) ⟨none, 0, 0, ⟨0, none, 0, 0⟩, none, 0, 0, []⟩
    have hz : (w.alloc (.cells #[.slice v.aA v.aN v.aC, .int .i64 v.us.n, .slice v.us.A v.us.m v.us.c, .slice v.sA v.sN v.sC] 31)).heap.size = w.heap.size + 1 := by simp
    rw [hz] at h1
    exact h1.below (Below.refl (w.heap.size + 2) _).drew (by omega)
  have HZ : Hid (w.heap.size + 2 ≤ ((w.alloc (.cells #[.slice v.aA v.aN v.aC, .int .i64 v.us.n, .slice v.us.A v.us.m v.us.c, .slice v.sA v.sN v.sC] 31)).alloc (.cells #[.slice none 0 0, .int .i64 0, .slice none 0 0, .slice none 0 0] 31)).drew.heap.size) := by show _ ≤ _; have := ((Below.refl (w.heap.size + 2) ((w.alloc (.cells #[.slice v.aA v.aN v.aC, .int .i64 v.us.n, .slice v.us.A v.us.m v.us.c, .slice v.sA v.sN v.sC] 31)).alloc (.cells #[.slice none 0 0, .int .i64 0, .slice none 0 0, .slice none 0 0] 31))).drew).size; simp at this ⊢
  have hn := hr.n
  have hsn := hr.sn
  have CA : Hid (∀ W, Below w.heap.size w W → Calls Tryz.prog 25 #[.agg #[.slice v.aA v.aN v.aC]] W (RetA h.ar W)) := fun W hW => by rw [hn]; exact arcopy h.ar v.aA v.aC W (hr.ar.below hW) hsm.1
  have CP : Hid (∀ W, Below w.heap.size w W → Calls Tryz.prog 26 #[.agg #[.int .i64 v.us.n, .slice v.us.A v.us.m v.us.c]] W (RetB h.us W)) := fun W hW => pgcopy v.us h.us W (hr.us.below hW) hsm.2.1
  have CS : Hid (∀ W, Below w.heap.size w W → Calls Tryz.prog 27 #[.slice v.sA v.sN v.sC] W (RetL h.sp W)) := fun W hW => by rw [hsn]; exact copy25 v.sA v.sC v.vs h.sp W (hr.sp.below hW) hsm.2.2
  clear hr hsm hba hn hsn
  unfold HeapV.v
  go_enter Tryz.func14, Tryz.ntmps14
  go_upto_region 1 with fail
  refine wp_region_held_drew (S := fun W => VarH W w.heap.size v) (by kernel_rfl) HV.out (fun hHeld => ?_)
  generalize ((w.alloc (.cells #[.slice v.aA v.aN v.aC, .int .i64 v.us.n, .slice v.us.A v.us.m v.us.c, .slice v.sA v.sN v.sC] 31)).alloc (.cells #[.slice none 0 0, .int .i64 0, .slice none 0 0, .slice none 0 0] 31)).drew = w6 at *
  refine wpAnyH_take (i := 0) (oi := _) (v := ?_) rfl (by kernel_rfl) (by kernel_rfl) (by kernel_rfl) (fun _ _ _ h => h) (Or.inl ⟨by rfl, ?_⟩) (by assumption) ?_
  rotate_left
  · intro w hSw
    obtain ⟨t0, t1, t2, t3, tf⟩ := hSw
    clear tf
    go_simp
    all_goals with_reducible rfl
  try simp only [Act.put, List.setIfInBounds_toArray, List.set_cons_zero, List.set_cons_succ, List.getElem_toArray, List.getElem_cons_zero, List.getElem_cons_succ]
  refine wpAnyH_take (i := 1) (oi := _) (v := ?_) rfl (by kernel_rfl) (by kernel_rfl) (by kernel_rfl) (fun _ _ _ h => h) (Or.inl ⟨by rfl, ?_⟩) (by assumption) ?_
  rotate_left
  · intro w hSw
    obtain ⟨t0, t1, t2, t3, tf⟩ := hSw
    clear tf
    go_simp
    all_goals with_reducible rfl
  try simp only [Act.put, List.setIfInBounds_toArray, List.set_cons_zero, List.set_cons_succ, List.getElem_toArray, List.getElem_cons_zero, List.getElem_cons_succ]
  refine wpAnyH_take (i := 3) (oi := _) (v := ?_) rfl (by kernel_rfl) (by kernel_rfl) (by kernel_rfl) (fun _ _ _ h => h) (Or.inl ⟨by rfl, ?_⟩) (by assumption) ?_
  rotate_left
  · intro w hSw
    obtain ⟨t0, t1, t2, t3, tf⟩ := hSw
    clear tf
    go_simp
    all_goals with_reducible rfl
  try simp only [Act.put, List.setIfInBounds_toArray, List.set_cons_zero, List.set_cons_succ, List.getElem_toArray, List.getElem_cons_zero, List.getElem_cons_succ]
  refine wpAnyH_take (i := 4) (oi := _) (v := ?_) rfl (by kernel_rfl) (by kernel_rfl) (by kernel_rfl) (fun _ _ _ h => h) (Or.inl ⟨by rfl, ?_⟩) (by assumption) ?_
  rotate_left
  · intro w hSw
    obtain ⟨t0, t1, t2, t3, tf⟩ := hSw
    clear tf
    go_simp
    all_goals with_reducible rfl
  try simp only [Act.put, List.setIfInBounds_toArray, List.set_cons_zero, List.set_cons_succ, List.getElem_toArray, List.getElem_cons_zero, List.getElem_cons_succ]
  refine wpAnyH_take (i := 6) (oi := _) (v := ?_) rfl (by kernel_rfl) (by kernel_rfl) (by kernel_rfl) (fun _ _ _ h => h) (Or.inl ⟨by rfl, ?_⟩) (by assumption) ?_
  rotate_left
  · intro w hSw
    obtain ⟨t0, t1, t2, t3, tf⟩ := hSw
    clear tf
    go_simp
    all_goals with_reducible rfl
  try simp only [Act.put, List.setIfInBounds_toArray, List.set_cons_zero, List.set_cons_succ, List.getElem_toArray, List.getElem_cons_zero, List.getElem_cons_succ]
  refine wpAnyH_take (i := 7) (oi := _) (v := ?_) rfl (by kernel_rfl) (by kernel_rfl) (by kernel_rfl) (fun _ _ _ h => h) (Or.inl ⟨by rfl, ?_⟩) (by assumption) ?_
  rotate_left
  · intro w hSw
    obtain ⟨t0, t1, t2, t3, tf⟩ := hSw
    clear tf
    go_simp
    all_goals with_reducible rfl
  try simp only [Act.put, List.setIfInBounds_toArray, List.set_cons_zero, List.set_cons_succ, List.getElem_toArray, List.getElem_cons_zero, List.getElem_cons_succ]
  refine wpAnyH_ready (rs := [2]) (by kernel_rfl) (by simp) ?_
  refine AllReadyH.cons (o := _) rfl (fun KQ hKQ => ?_) AllReadyH.nil
  go_simp
  go_at_call 25
  refine (CA.out _ HB.out).mono ?_
  rintro e w7 ⟨A1, c1, rfl, hk1, ho1, hb1⟩
  have HV1 := Lib.hid (HV.out.below hb1 HV.out.lt)
  have HW1 := Lib.hid (HW.out.below hb1 HW.out.lt)
  have HB1 := Lib.hid (bthen HB.out hb1)
  have HO1 := Lib.hid ho1
  have HZ1 : Hid (w6.heap.size ≤ w7.heap.size) := hb1.size
  have HK1 := Lib.hid hk1
  clear hb1 ho1 hk1 HV HW HB CA
  go_simp
  refine hKQ.out _ _ HV1.out (fun hHeld => ?_)
  clear hKQ KQ
  try simp only [Act.put, List.setIfInBounds_toArray, List.set_cons_zero, List.set_cons_succ, List.getElem_toArray, List.getElem_cons_zero, List.getElem_cons_succ]
  refine wpAnyH_ready (rs := [5]) (by kernel_rfl) (by simp) ?_
  refine AllReadyH.cons (o := _) rfl (fun KQ hKQ => ?_) AllReadyH.nil
  go_simp
  go_at_call 26
  refine (CP.out _ HB1.out).mono ?_
  rintro e w8 ⟨⟨n2, A2, m2, c2⟩, rfl, hn2, hm2, hcap2, ho2, hb2⟩
  unfold BitV.v
  simp only at hn2 hm2 hcap2 ho2
  simp only
  have HV2 := Lib.hid (HV1.out.below hb2 HV1.out.lt)
  have HW2 := Lib.hid (HW1.out.below hb2 HW1.out.lt)
  have HB2 := Lib.hid (bthen HB1.out hb2)
  have HO12 := Lib.hid (HO1.out.below hb2)
  have HO2 := Lib.hid ho2
  have HZ2 : Hid (w7.heap.size ≤ w8.heap.size) := hb2.size
  have HE2 : Hid (n2 = h.us.n ∧ m2 = h.us.w.length ∧ m2 ≤ c2) := ⟨hn2, hm2, hcap2⟩
  clear hb2 ho2 hn2 hm2 hcap2 HV1 HW1 HB1 CP
  go_simp
  refine hKQ.out _ _ HV2.out (fun hHeld => ?_)
  clear hKQ KQ
  try simp only [Act.put, List.setIfInBounds_toArray, List.set_cons_zero, List.set_cons_succ, List.getElem_toArray, List.getElem_cons_zero, List.getElem_cons_succ]
  refine wpAnyH_ready (rs := [8]) (by kernel_rfl) (by simp) ?_
  refine AllReadyH.cons (o := _) rfl (fun KQ hKQ => ?_) AllReadyH.nil
  go_simp
  go_at_call 27
  refine (CS.out _ HB2.out).mono ?_
  rintro e w9 ⟨v3, rfl, ⟨vs3, ho3, hal3⟩, hb3⟩
  obtain ⟨A3, c3, rfl, hc3, hr3⟩ := ho3.shape
  have HV3 := Lib.hid (HV2.out.below hb3 HV2.out.lt)
  have HW3 := Lib.hid (HW2.out.below hb3 HW2.out.lt)
  have HB3 := Lib.hid (bthen HB2.out hb3)
  have HO13 := Lib.hid (HO12.out.below hb3)
  have HO23 := Lib.hid (HO2.out.below hb3)
  have HAP : Hid (ApartH ⟨A1, h.ar.length, c1, ⟨n2, A2, m2, c2⟩, A3, vs3.length, c3, vs3⟩) := by
    intro k hk
    have h1 := (World.ownsRow.lt HO1.out k hk).2
    have h12 := HZ2.out
    refine ⟨fun e => by have := (World.ownsRow.lt HO2.out k e).1; omega, fun x hx => ?_⟩
    obtain ⟨i, hi, rfl⟩ := List.getElem_of_mem hx
    have hi3 : i < vs3.length := hi
    have hi2 : i < h.sp.length := by have := hal3.1; omega
    have hN := hal3.2 i vs3[i] h.sp[i] (List.getElem?_eq_getElem hi) (List.getElem?_eq_getElem hi2)
    exact ⟨fun e => by have := (World.ownsRow.lt hN.al k e).1; omega, fun e => by have := (World.ownsRow.lt hN.ma k e).1; omega⟩
  have HO3 : Hid (OwnH w9 (w.heap.size + 2) ⟨A1, h.ar.length, c1, ⟨n2, A2, m2, c2⟩, A3, vs3.length, c3, vs3⟩ h) := by
    have z0 := HZ.out
    have z1 := HZ1.out
    have z2 := HZ2.out
    exact ⟨rfl, HK1.out, HO13.out.mono z0, HE2.out.1, HE2.out.2.1, HE2.out.2.2, HO23.out.mono (Nat.le_trans z0 z1), hal3.1, hc3, ho3.mono (Nat.le_trans z0 (Nat.le_trans z1 z2)), hal3.mono (Nat.le_trans z0 (Nat.le_trans z1 z2)), HAP.out⟩
  clear hb3 ho3 hal3 hc3 hr3 HV2 HW2 HB2 HO12 HO2 HO13 HO23 CS HAP HO1
  go_simp
  refine hKQ.out _ _ HV3.out (fun hHeld => ?_)
  clear hKQ KQ
  try simp only [Act.put, List.setIfInBounds_toArray, List.set_cons_zero, List.set_cons_succ, List.getElem_toArray, List.getElem_cons_zero, List.getElem_cons_succ]
  refine wpAnyH_take (i := 9) (oi := _) (v := ?_) rfl (by kernel_rfl) (by kernel_rfl) (by kernel_rfl) (fun _ _ _ h => h) (Or.inl ⟨by rfl, ?_⟩) (by assumption) ?_
  rotate_left
  · intro w hSw
    obtain ⟨t0, t1, t2, t3, tf⟩ := hSw
    clear tf
    go_simp
    all_goals with_reducible rfl
  try simp only [Act.put, List.setIfInBounds_toArray, List.set_cons_zero, List.set_cons_succ, List.getElem_toArray, List.getElem_cons_zero, List.getElem_cons_succ]
  obtain ⟨r0, r1, r2, r3, rf⟩ := HW3.out
  have rl := HW3.out.lt
  obtain ⟨k4, k0, k1, k2, k3⟩ := set4 (b0 := .slice A1 h.ar.length c1) (b1 := .int .i64 n2) (b2 := .slice A2 m2 c2) (b3 := .slice A3 vs3.length c3) r0 r1 r2 r3
  have K0 := Lib.hid k0
  have K1 := Lib.hid k1
  have K2 := Lib.hid k2
  have K3 := Lib.hid k3
  clear k0 k1 k2 k3 k4
  simp only at r0 r1 r2 r3
  refine wpAnyH_ready (rs := [10]) (by kernel_rfl) (by simp) ?_
  refine AllReadyH.cons (o := _) rfl (fun KQ hKQ => ?_) AllReadyH.nil
  go_simp
  refine hKQ.out _ _ (HV3.out.far (by omega) _ _ _ _) (fun hHeld => ?_)
  clear hKQ KQ
  try simp only [Act.put, List.setIfInBounds_toArray, List.set_cons_zero, List.set_cons_succ, List.getElem_toArray, List.getElem_cons_zero, List.getElem_cons_succ]
  clear r0 r1 r2 r3 rf
  refine wpAnyH_done (by kernel_rfl) ?_ _
  go_wp2
  have k0 := K0.out
  have k1 := K1.out
  have k2 := K2.out
  have k3 := K3.out
  refine bodyPost_ret (v := .agg #[.slice A1 h.ar.length c1, .int .i64 n2, .slice A2 m2 c2, .slice A3 vs3.length c3]) (by simp [results, Tryz.results14, go_sem, k0, k1, k2, k3]) rfl ?_
  refine ⟨⟨A1, h.ar.length, c1, ⟨n2, A2, m2, c2⟩, A3, vs3.length, c3, vs3⟩, rfl, ?_, ?_⟩
  · refine OwnH.mono (base := w.heap.size + 2) ?_ (by omega)
    repeat (refine OwnH.set_lo ?_ (by simp) _)
    exact HO3.out
  · repeat (refine Below.setCell ?_ (by simp) _)
    exact HB3.out
theorem kinds_3 (W : World) : RdK (W.alloc (.cells #[.int .u8 1, .int .u8 2, .int .u8 3] 37)) (some ⟨W.heap.size, 0, none⟩) [1, 2, 3] := by
  refine ⟨rfl, by simp, fun _ => ⟨W.heap.size, 0, rfl, by simp, fun j u hu => ?_⟩⟩
  have hj : j < 3 := by
    have := (List.getElem?_eq_some_iff.1 hu).1
    simpa [kcs] using this
  have hc : j = 0 ∨ j = 1 ∨ j = 2 := by omega
  rcases hc with rfl | rfl | rfl <;> (simp [kcs] at hu; subst hu; go_simp)
set_option maxRecDepth 100000 in
set_option maxHeartbeats 8000000 in
theorem turned6 (v : HeapV) (h : HeapB) (i x : Int) (w : World) (hr : RdH w v h) (hT : Tab w) (hx : 0 ≤ x ∧ x < 18446744073709551616) : Calls Tryz.prog 6 #[v.v, .int .i64 i, .int .u64 x] w (Ret (.bool true) w) := by
  have ba := balloc (Below.refl w.heap.size w) (.cells #[.slice v.aA v.aN v.aC, .int .i64 v.us.n, .slice v.us.A v.us.m v.us.c, .slice v.sA v.sN v.sC] 31)
  have CL := Lib.hid (lives7 _ (hT.below ba))
  have CK : Hid (∀ W, Below w.heap.size w W → Calls Tryz.prog 9 #[v.v] W (Ret (.int .i64 (chkH h)) W)) := fun W hW => hcheck9 v h W (hr.below hW)
  have HV0 := Lib.hid (VarH.made w v)
  have HB0 := Lib.hid ba
  have HR := Lib.hid hr
  have HX := Lib.hid hx
  have hn := hr.n
  clear hT ba hr hx
  unfold HeapV.v at CK ⊢
  by_cases hh : heapP h = true
  · have hk : chkH h = 0 := by unfold chkH; rw [if_pos hh]
    rw [hk] at CK
    have HH := Lib.hid hh
    clear hk hh
    by_cases hi0 : i < 0
    · clear hn
      go_enter Tryz.func6, Tryz.ntmps6
      go_wp2_with (go_at_call 7; refine CL.out.mono ?_)
      rintro e w1 ⟨rfl, hb1⟩
      have HB := Lib.hid (bthen HB0.out hb1)
      have HV := Lib.hid (HV0.out.below hb1 HV0.out.lt)
      clear hb1 HB0 HV0 CL
      obtain ⟨t0, t1, t2, t3, tf⟩ := HV.out
      clear tf
      go_wp2_with (go_at_call 9; refine (CK.out _ HB.out).mono ?_)
      rintro e w2 ⟨rfl, hb2⟩
      have HB2 := Lib.hid (bthen HB.out hb2)
      have HV2 := Lib.hid (HV.out.below hb2 HV.out.lt)
      clear hb2 HB HV CK t0 t1 t2 t3
      obtain ⟨t0, t1, t2, t3, tf⟩ := HV2.out
      clear tf
      go_wp2
      go_ret
      exact ⟨rfl, HB2.out⟩
    · obtain ⟨k, rfl⟩ := Int.eq_ofNat_of_zero_le (show 0 ≤ i by omega)
      by_cases hi1 : (v.aN : Int) ≤ (k : Int)
      · clear hn
        go_enter Tryz.func6, Tryz.ntmps6
        go_wp2_with (go_at_call 7; refine CL.out.mono ?_)
        rintro e w1 ⟨rfl, hb1⟩
        have HB := Lib.hid (bthen HB0.out hb1)
        have HV := Lib.hid (HV0.out.below hb1 HV0.out.lt)
        clear hb1 HB0 HV0 CL
        obtain ⟨t0, t1, t2, t3, tf⟩ := HV.out
        clear tf
        go_wp2_with (go_at_call 9; refine (CK.out _ HB.out).mono ?_)
        rintro e w2 ⟨rfl, hb2⟩
        have HB2 := Lib.hid (bthen HB.out hb2)
        have HV2 := Lib.hid (HV.out.below hb2 HV.out.lt)
        clear hb2 HB HV CK t0 t1 t2 t3
        obtain ⟨t0, t1, t2, t3, tf⟩ := HV2.out
        clear tf
        go_wp2
        go_ret
        exact ⟨rfl, HB2.out⟩
      · have HN : Hid (v.aN = h.ar.length) := hn
        have HC : Hid (∀ W, Below w.heap.size w W → Calls Tryz.prog 14 #[v.v] W (RetH h W)) := fun W hW => hcopy14 v h W (HR.out.below hW) (heap_small HH.out)
        unfold HeapV.v at HC
        clear hn
        go_enter Tryz.func6, Tryz.ntmps6
        go_wp2_with (go_at_call 7; refine CL.out.mono ?_)
        rintro e w1 ⟨rfl, hb1⟩
        have HB := Lib.hid (bthen HB0.out hb1)
        have HV := Lib.hid (HV0.out.below hb1 HV0.out.lt)
        clear hb1 HB0 HV0 CL
        obtain ⟨t0, t1, t2, t3, tf⟩ := HV.out
        clear tf
        go_wp2_with (go_at_call 9; refine (CK.out _ HB.out).mono ?_)
        rintro e w2 ⟨rfl, hb2⟩
        have HB2 := Lib.hid (bthen HB.out hb2)
        have HV2 := Lib.hid (HV.out.below hb2 HV.out.lt)
        clear hb2 HB HV CK t0 t1 t2 t3
        obtain ⟨t0, t1, t2, t3, tf⟩ := HV2.out
        clear tf
        go_wp2_with (go_at_call 14; refine (HC.out _ HB2.out).mono ?_)
        rintro e w3 ⟨v3, rfl, ho3, hb3⟩
        unfold HeapV.v
        have HB3 := Lib.hid (bthen HB2.out hb3)
        have HB2s : Hid (w.heap.size ≤ w2.heap.size) := HB2.out.size
        have HO3 := Lib.hid ho3
        clear ho3 hb3 HC t0 t1 t2 t3 HV2 HB2
        go_upto_region 6 with fail
        have ba := balloc (Below.refl w3.heap.size w3) (.cells #[.slice v3.aA v3.aN v3.aC, .int .i64 v3.us.n, .slice v3.us.A v3.us.m v3.us.c, .slice v3.sA v3.sN v3.sC] 31)
        have HV4 := Lib.hid (VarH.made w3 v3)
        have HO4 := Lib.hid (HO3.out.below ba)
        have HB4 := Lib.hid (bthen HB3.out ba)
        have hkl : k < h.ar.length := by have := HN.out; omega
        obtain ⟨ga, hga⟩ : ∃ g, v3.aA = some ⟨g, 0, none⟩ := by
          have h1 := HO4.out.ar
          unfold OwU at h1
          rw [show h.ar.length = v3.aN from HO4.out.n.symm] at h1
          exact own_some h1 (by rw [HO4.out.n]; omega)
        have hgp : ga ≠ w3.heap.size := fun e => by
          have h1 := HO3.out.ar
          rw [hga] at h1
          have h2 := (World.ownsRow.lt h1 ga rfl).2
          omega
        have hgw : w.heap.size ≤ ga := by
          have h1 := HO3.out.ar
          rw [hga] at h1
          have h2 := (World.ownsRow.lt h1 ga rfl).1
          have := HB2s.out
          omega
        generalize hWA : w3.alloc (.cells #[.slice v3.aA v3.aN v3.aC, .int .i64 v3.us.n, .slice v3.us.A v3.us.m v3.us.c, .slice v3.sA v3.sN v3.sC] 31) = W4 at *
        generalize hpp : w3.heap.size = p at *
        clear hWA hpp ba HO3 HB3
        have t0 := HV4.out.c0
        rw [hga] at t0
        have hn3 : (k : Int) < (v3.aN : Int) := by have := HO4.out.n; omega
        have hk0 : (0 : Int) ≤ (k : Int) := by omega
        obtain ⟨y, cy, fy⟩ := ownH_arcell HO4.out hga (k := k) hkl
        have ly := World.block_lt_of_cell? _ _ cy
        have HGA := Lib.hid hga
        clear hga hkl
        go_upto_region 7 with fail
        have HV5 := Lib.hid (HV4.out.at_ (w1 := W4.setCell ⟨ga, k, none⟩ (.int .u64 x)) (Below.heap_setCell _ _ _ _ (by simpa using fun e => hgp e.symm)))
        have HO5 : Hid (OwnH (W4.setCell ⟨ga, k, none⟩ (.int .u64 x)) w2.heap.size v3 (turnH h k x)) := ownH_word HO4.out (k := k) (x := x) HGA.out
        have HB5 := Lib.hid (HB4.out.setCell (p := ⟨ga, k, none⟩) hgw (.int .u64 x))
        have HWF : Hid (WfH (turnH h k x)) := HR.out.wf.word k x HX.out
        have HTC := Lib.hid (turned (i := k) (x := x) HR.out.wf.us HH.out)
        clear t0 cy fy ly HV4 HO4 HB4 hgp hgw HGA hn3
        generalize W4.setCell ⟨ga, k, none⟩ (.int .u64 x) = W5 at *
        generalize turnH h k x = g at *
        obtain ⟨t0, t1, t2, t3, tf⟩ := HV5.out
        clear tf
        have CF := Lib.hid (faults8 v3 g W5 (HO5.out.rd HWF.out))
        unfold HeapV.v at CF
        rcases HTC.out with ⟨e1, e2⟩ | ⟨e1, e2, e3⟩
        · rw [e1] at CF
          have HE2 := Lib.hid e2
          clear e1 e2 HTC
          go_wp2_with (go_at_call 8; refine CF.out.mono ?_)
          rintro e w6 ⟨A6, c6, rfl, -, hb6⟩
          simp only [List.length_nil]
          have HV6 := Lib.hid (HV5.out.below hb6 HV5.out.lt)
          have HB6 := Lib.hid (bthen HB5.out hb6)
          have CK2 := Lib.hid (hcheck9 v3 g w6 ((HO5.out.rd HWF.out).below hb6))
          rw [HE2.out] at CK2
          unfold HeapV.v at CK2
          clear t0 t1 t2 t3 hb6 CF HV5 HB5
          obtain ⟨t0, t1, t2, t3, tf⟩ := HV6.out
          clear tf
          go_wp2_with (go_at_call 9; refine CK2.out.mono ?_)
          rintro e w7 ⟨rfl, hb7⟩
          have HB7 := Lib.hid (bthen HB6.out hb7)
          clear t0 t1 t2 t3 hb7
          go_wp2
          go_ret
          exact ⟨rfl, HB7.out⟩
        · have hd : (((faultsP g).length : Int) == 0) = false := by rw [beq_eq_false_iff_ne]; omega
          have HE2 := Lib.hid e2
          have HE3 := Lib.hid e3
          obtain ⟨fs, hfs⟩ : ∃ fs, fs = faultsP g := ⟨_, rfl⟩
          rw [← hfs] at CF hd
          clear e1 e2 e3 HTC hfs
          go_wp2_with (go_at_call 8; refine CF.out.mono ?_)
          rintro e w6 ⟨A6, c6, rfl, -, hb6⟩
          have HV6 := Lib.hid (HV5.out.below hb6 HV5.out.lt)
          have HB6 := Lib.hid (bthen HB5.out hb6)
          have HR6 := Lib.hid ((HO5.out.rd HWF.out).below hb6)
          clear t0 t1 t2 t3 hb6 CF HV5 HB5
          obtain ⟨t0, t1, t2, t3, tf⟩ := HV6.out
          clear tf
          have bc := balloc (Below.refl w6.heap.size w6) (.cells #[.int .u8 1, .int .u8 2, .int .u8 3] 37)
          have HBC := Lib.hid bc
          have CC := Lib.hid (count13 v3 g [1, 2, 3] (some ⟨w6.heap.size, 0, none⟩) 3 (w6.alloc (.cells #[.int .u8 1, .int .u8 2, .int .u8 3] 37)) (HR6.out.below bc) (kinds_3 w6))
          rw [HE2.out] at CC
          unfold HeapV.v at CC
          simp only [List.length_cons, List.length_nil, Nat.zero_add, Nat.reduceAdd] at CC
          clear bc
          go_wp2_with (go_at_call 13; refine CC.out.mono ?_)
          rintro e w7 ⟨rfl, hb7⟩
          have HBD := Lib.hid (bthen HBC.out hb7)
          have HV7 := Lib.hid (HV6.out.below HBD.out HV6.out.lt)
          have HB7 := Lib.hid (bthen HB6.out HBD.out)
          have CK2 := Lib.hid (hcheck9 v3 g w7 (HR6.out.below HBD.out))
          rw [HE3.out] at CK2
          unfold HeapV.v at CK2
          clear t0 t1 t2 t3 hb7 CC HV6 HB6 HBC HBD
          obtain ⟨t0, t1, t2, t3, tf⟩ := HV7.out
          clear tf
          go_wp2_with (go_at_call 9; refine CK2.out.mono ?_)
          rintro e w8 ⟨rfl, hb8⟩
          have HB8 := Lib.hid (bthen HB7.out hb8)
          clear t0 t1 t2 t3 hb8
          go_wp2
          go_ret
          exact ⟨rfl, HB8.out⟩
  · have hk : chkH h = 2 := by unfold chkH; rw [if_neg hh]
    rw [hk] at CK
    clear hk hh hn
    go_enter Tryz.func6, Tryz.ntmps6
    go_wp2_with (go_at_call 7; refine CL.out.mono ?_)
    rintro e w1 ⟨rfl, hb1⟩
    have HB := Lib.hid (bthen HB0.out hb1)
    have HV := Lib.hid (HV0.out.below hb1 HV0.out.lt)
    clear hb1 HB0 HV0 CL
    obtain ⟨t0, t1, t2, t3, tf⟩ := HV.out
    clear tf
    go_wp2_with (go_at_call 9; refine (CK.out _ HB.out).mono ?_)
    rintro e w2 ⟨rfl, hb2⟩
    have HB2 := Lib.hid (bthen HB.out hb2)
    have HV2 := Lib.hid (HV.out.below hb2 HV.out.lt)
    clear hb2 HB HV CK t0 t1 t2 t3
    obtain ⟨t0, t1, t2, t3, tf⟩ := HV2.out
    clear tf
    go_wp2
    go_ret
    exact ⟨rfl, HB2.out⟩
end Go.Proofs.YtieijfefnedifaaGreatDoor
