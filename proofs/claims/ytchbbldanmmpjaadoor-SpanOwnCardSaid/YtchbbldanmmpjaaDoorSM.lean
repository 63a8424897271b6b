/- The walks of Addr. -/
import Derived.Test.YtchbbldanmmpjaaDoorSL
namespace Go.Proofs.YtchbbldanmmpjaaDoor
open Go.RowKit
set_option linter.unusedVariables false
set_option linter.unusedSimpArgs false

theorem slot_bound {p z : Int} (h : shapedP p z = true) {k : Int} (h0 : 0 ≤ k) (hk : k < manyP z) : 0 ≤ k * z ∧ k * z ≤ 14 := by
  rcases shapedP_size h with rfl | rfl | rfl | rfl | rfl
  · omega
  · have : manyP 2 = 8 := by decide +kernel
    omega
  · have : manyP 4 = 4 := by decide +kernel
    omega
  · have : manyP 8 = 2 := by decide +kernel
    omega
  · have : manyP 16 = 1 := by decide +kernel
    omega
theorem size_bound {p z : Int} (h : shapedP p z = true) : 0 ≤ z ∧ z ≤ 16 := by
  rcases shapedP_size h with rfl | rfl | rfl | rfl | rfl <;> omega

set_option maxRecDepth 100000 in
set_option maxHeartbeats 8000000 in
theorem addr15 (v : SpanV) (s : SpanB) (k : Int) (w : World) (h : RdN w v s) : Calls Tryd.prog 15 #[v.v, .int .i64 k] w (Ret (.tuple #[.int .u64 (addrN s k), .int .i64 (addrE s k)]) w) := by
  have CS : Hid (∀ W, Below w.heap.size w W → Calls Tryd.prog 13 #[v.v] W (Ret (.tuple #[.int .i64 (slotsN s), .int .i64 (rightE s)]) W)) := fun W hW => slots13 v s W (h.below hW)
  have CB : Hid (rightP s = true → ∀ W, Calls Tryd.prog 42 #[v.v] W (Ret (.int .u64 (s.first * 16)) W)) := fun hr W => by
    have hp := rightP_parts hr
    have := base42 v W (by rw [h.first]; exact hp.2.1) (by rw [h.first]; have := shapedP_pages hp.1; omega)
    rwa [h.first] at this
  have hz := h.size
  have hfi := h.first
  clear h
  obtain ⟨f, p, z, ⟨n, A1, m, ca⟩, ⟨n', A2, m', cb⟩, sw⟩ := v
  simp only at hz hfi
  subst hz
  subst hfi
  unfold SpanV.v at CS CB ⊢
  simp only at CS CB ⊢
  have HB0 : Hid (Below w.heap.size w (w.alloc (.cells #[.int .i64 s.first, .int .i64 p, .int .i64 s.size, .int .i64 n, .slice A1 m ca, .int .i64 n', .slice A2 m' cb, .bool sw] 26))) := balloc (Below.refl _ _) _
  by_cases hr : rightP s = true
  · rw [show slotsN s = manyP s.size from by simp [slotsN, hr], show rightE s = 0 from by simp [rightE, hr]] at CS
    by_cases hk : 0 ≤ k ∧ k < manyP s.size
    · have E1 : Hid (addrN s k = s.first * 16 + k * s.size) := by show _ = _; simp [addrN, hr, hk]
      have E2 : Hid (addrE s k = 0) := by show _ = _; simp [addrE, hr, hk]
      have CB := Lib.hid (CB.out hr)
      have hp := rightP_parts hr
      have hpp := shapedP_pages hp.1
      have hb := slot_bound hp.1 hk.1 hk.2
      have hf0 := hp.2.1
      have hf1 := hp.2.2.1
      obtain ⟨q0, q1⟩ := hk
      have q0 : ¬ k < 0 := by omega
      have q1 : ¬ manyP s.size ≤ k := by omega
      have HW1 : Hid (IntKind.i64.wrap (k * s.size) = k * s.size) := wrap_in (by omega)
      have HW2 : Hid (IntKind.u64.wrap (k * s.size) = k * s.size) := by show _ = _; simp [IntKind.wrap, IntKind.bits, IntKind.signed]; omega
      have HW3 : Hid (IntKind.u64.wrap (s.first * 16 + k * s.size) = s.first * 16 + k * s.size) := by show _ = _; simp [IntKind.wrap, IntKind.bits, IntKind.signed]; omega
      clear hp hr hpp
      go_enter Tryd.func15, Tryd.ntmps15
      go_wp2_with (go_at_call 13; refine (CS.out _ HB0.out).mono ?_)
      rintro e w1 ⟨rfl, hb1⟩
      obtain ⟨hc1, hf1', hs1⟩ := bcellB (B := w.heap.size + 1) hb1 (by simp)
      have HB1 := Lib.hid (bthen HB0.out hb1)
      clear hb1
      go_wp2
      have K0 : Hid (w1.cell? ⟨w.heap.size, 0, none⟩ = some (.int .i64 s.first)) := by show _ = _; go_simp
      have K1 : Hid (w1.cell? ⟨w.heap.size, 1, none⟩ = some (.int .i64 p)) := by show _ = _; go_simp
      have K2 : Hid (w1.cell? ⟨w.heap.size, 2, none⟩ = some (.int .i64 s.size)) := by show _ = _; go_simp
      have K3 : Hid (w1.cell? ⟨w.heap.size, 3, none⟩ = some (.int .i64 n)) := by show _ = _; go_simp
      have K4 : Hid (w1.cell? ⟨w.heap.size, 4, none⟩ = some (.slice A1 m ca)) := by show _ = _; go_simp
      have K5 : Hid (w1.cell? ⟨w.heap.size, 5, none⟩ = some (.int .i64 n')) := by show _ = _; go_simp
      have K6 : Hid (w1.cell? ⟨w.heap.size, 6, none⟩ = some (.slice A2 m' cb)) := by show _ = _; go_simp
      have K7 : Hid (w1.cell? ⟨w.heap.size, 7, none⟩ = some (.bool sw)) := by show _ = _; go_simp
      clear hc1 hf1' hs1
      have hw1 := HW1.out
      have hw2 := HW2.out
      have hw3 := HW3.out
      refine region_up (by kernel_rfl) (by kernel_rfl) ?_
      go_big_quiet_want
      apply Exists.intro
      refine ⟨fun W hW => ?_, ?_⟩
      · have g0 := cell_later hW K0.out
        have g1 := cell_later hW K1.out
        have g2 := cell_later hW K2.out
        have g3 := cell_later hW K3.out
        have g4 := cell_later hW K4.out
        have g5 := cell_later hW K5.out
        have g6 := cell_later hW K6.out
        have g7 := cell_later hW K7.out
        go_simp
        all_goals exact rfl
      simp only [Act.put, List.setIfInBounds_toArray, List.set_cons_succ, List.set_cons_zero]
      go_big_quiet_on
      go_big_quiet_want
      apply Exists.intro
      refine ⟨fun W hW => ?_, ?_⟩
      · have g0 := cell_later hW K0.out
        have g1 := cell_later hW K1.out
        have g2 := cell_later hW K2.out
        have g3 := cell_later hW K3.out
        have g4 := cell_later hW K4.out
        have g5 := cell_later hW K5.out
        have g6 := cell_later hW K6.out
        have g7 := cell_later hW K7.out
        go_simp
        exact call_up hW (CB.out W)
      simp only [Act.put, List.setIfInBounds_toArray, List.set_cons_succ, List.set_cons_zero]
      go_big_quiet_on
      iterate 8
        go_big_quiet_want
        apply Exists.intro
        refine ⟨fun W hW => ?_, ?_⟩
        · have g0 := cell_later hW K0.out
          have g1 := cell_later hW K1.out
          have g2 := cell_later hW K2.out
          have g3 := cell_later hW K3.out
          have g4 := cell_later hW K4.out
          have g5 := cell_later hW K5.out
          have g6 := cell_later hW K6.out
          have g7 := cell_later hW K7.out
          go_simp
          all_goals exact rfl
        simp only [Act.put, List.setIfInBounds_toArray, List.set_cons_succ, List.set_cons_zero]
        go_big_quiet_on
      refine wpQuiet_nil ?_
      intro W hW
      clear hw1 hw2 hw3
      have HB2 := Lib.hid (bthen HB1.out hW)
      clear hW
      go_wp2
      go_ret2
      rw [E1.out, E2.out]
      exact ⟨rfl, HB2.out⟩
    · have E1 : Hid (addrN s k = 0) := by show _ = _; simp only [addrN, hr, if_true, if_neg hk]
      have E2 : Hid (addrE s k = 1) := by show _ = _; simp only [addrE, hr, if_true, if_neg hk]
      have hk' : k < 0 ∨ (¬ k < 0 ∧ manyP s.size ≤ k) := by omega
      clear hk hr CB
      rcases hk' with hk | ⟨hk0, hk⟩
      all_goals
        go_enter Tryd.func15, Tryd.ntmps15
        go_wp2_with (go_at_call 13; refine (CS.out _ HB0.out).mono ?_)
        rintro e w1 ⟨rfl, hb1⟩
        have HB1 := Lib.hid (bthen HB0.out hb1)
        clear hb1
        go_wp2
        go_ret2
        rw [E1.out, E2.out]
        exact ⟨rfl, HB1.out⟩
  · have hr' : rightP s = false := by simpa using hr
    have E1 : Hid (addrN s k = 0) := by show _ = _; simp [addrN, hr']
    have E2 : Hid (addrE s k = 2) := by show _ = _; simp [addrE, hr']
    rw [show slotsN s = 0 from by simp [slotsN, hr'], show rightE s = 2 from by simp [rightE, hr']] at CS
    clear hr hr' CB
    go_enter Tryd.func15, Tryd.ntmps15
    go_wp2_with (go_at_call 13; refine (CS.out _ HB0.out).mono ?_)
    rintro e w1 ⟨rfl, hb1⟩
    have HB1 := Lib.hid (bthen HB0.out hb1)
    clear hb1
    go_wp2
    go_ret2
    rw [E1.out, E2.out]
    exact ⟨rfl, HB1.out⟩

set_option maxRecDepth 100000 in
set_option maxHeartbeats 8000000 in
theorem addr16 (v : SpanV) (s : SpanB) (k : Int) (w : World) (h : RdN w v s) : Calls Tryd.prog 16 #[v.v, .int .i64 k] w (Ret (.tuple #[.int .u64 (addrN s k), .int .i64 (addrE s k)]) w) := by
  have CR : Hid (∀ W, Below w.heap.size w W → Calls Tryd.prog 41 #[v.v] W (Ret (.bool (rightP s)) W)) := fun W hW => right41' v s W (h.below hW)
  have CM : Hid (∀ W, Calls Tryd.prog 39 #[.int .i64 s.size] W (Ret (.int .i64 (manyP s.size)) W)) := fun W => many39 _ W
  have CT : Hid (rightP s = true → 0 ≤ k → k < manyP s.size → ∀ W, Calls Tryd.prog 43 #[v.v, .int .i64 k] W (Ret (.int .u64 (s.first * 16 + k * s.size)) W)) := fun hr h0 hk W => by
    obtain ⟨j, rfl⟩ := Int.eq_ofNat_of_zero_le h0
    have hp := rightP_parts hr
    have hm := manyP_of hp.1
    have hsb := size_bound hp.1
    have hbb := slot_bound hp.1 h0 hk
    have hpp := shapedP_pages hp.1
    have := at43 v j W (by rw [h.first]; exact hp.2.1) (by rw [h.first]; omega) (by omega) (by rw [h.size]; exact hsb.1) (by rw [h.size]; exact hsb.2) (by rw [h.size]; omega)
    rwa [h.first, h.size] at this
  have hz := h.size
  have hfi := h.first
  clear h
  obtain ⟨f, p, z, ⟨n, A1, m, ca⟩, ⟨n', A2, m', cb⟩, sw⟩ := v
  simp only at hz hfi
  subst hz
  subst hfi
  unfold SpanV.v at CR CT ⊢
  simp only at CR CT ⊢
  have HB0 : Hid (Below w.heap.size w (w.alloc (.cells #[.int .i64 s.first, .int .i64 p, .int .i64 s.size, .int .i64 n, .slice A1 m ca, .int .i64 n', .slice A2 m' cb, .bool sw] 26))) := balloc (Below.refl _ _) _
  by_cases hr : rightP s = true
  · rw [hr] at CR
    by_cases hk : 0 ≤ k ∧ k < manyP s.size
    · have E1 : Hid (addrN s k = s.first * 16 + k * s.size) := by show _ = _; simp [addrN, hr, hk]
      have E2 : Hid (addrE s k = 0) := by show _ = _; simp [addrE, hr, hk]
      have CT := Lib.hid (CT.out hr hk.1 hk.2)
      obtain ⟨q0, q1⟩ := hk
      have q0 : ¬ k < 0 := by omega
      have q1 : ¬ manyP s.size ≤ k := by omega
      clear hr
      go_enter Tryd.func16, Tryd.ntmps16
      go_wp2_with (go_at_call 41; refine (CR.out _ HB0.out).mono ?_)
      rintro e w1 ⟨rfl, hb1⟩
      obtain ⟨hc1, hf1', hs1⟩ := bcellB (B := w.heap.size + 1) hb1 (by simp)
      have HB1 := Lib.hid (bthen HB0.out hb1)
      clear hb1
      go_wp2_with (go_at_call 39; refine (CM.out _).mono ?_)
      rintro e w2 ⟨rfl, hb2⟩
      obtain ⟨hc2, hf2, hs2⟩ := bcellB hb2 hs1
      have HB2 := Lib.hid (bthen HB1.out hb2)
      clear hb2
      go_wp2_with (go_at_call 43; refine (CT.out _).mono ?_)
      rintro e w3 ⟨rfl, hb3⟩
      have HB3 := Lib.hid (bthen HB2.out hb3)
      clear hb3
      go_wp2
      go_ret2
      rw [E1.out, E2.out]
      exact ⟨rfl, HB3.out⟩
    · have E1 : Hid (addrN s k = 0) := by show _ = _; simp only [addrN, hr, if_true, if_neg hk]
      have E2 : Hid (addrE s k = 1) := by show _ = _; simp only [addrE, hr, if_true, if_neg hk]
      have hk' : k < 0 ∨ (¬ k < 0 ∧ manyP s.size ≤ k) := by omega
      clear hk hr CT
      rcases hk' with hk | ⟨hk0, hk⟩
      · go_enter Tryd.func16, Tryd.ntmps16
        go_wp2_with (go_at_call 41; refine (CR.out _ HB0.out).mono ?_)
        rintro e w1 ⟨rfl, hb1⟩
        have HB1 := Lib.hid (bthen HB0.out hb1)
        clear hb1
        go_wp2
        go_ret2
        rw [E1.out, E2.out]
        exact ⟨rfl, HB1.out⟩
      · go_enter Tryd.func16, Tryd.ntmps16
        go_wp2_with (go_at_call 41; refine (CR.out _ HB0.out).mono ?_)
        rintro e w1 ⟨rfl, hb1⟩
        obtain ⟨hc1, hf1', hs1⟩ := bcellB (B := w.heap.size + 1) hb1 (by simp)
        have HB1 := Lib.hid (bthen HB0.out hb1)
        clear hb1
        go_wp2_with (go_at_call 39; refine (CM.out _).mono ?_)
        rintro e w2 ⟨rfl, hb2⟩
        have HB2 := Lib.hid (bthen HB1.out hb2)
        clear hb2
        go_wp2
        go_ret2
        rw [E1.out, E2.out]
        exact ⟨rfl, HB2.out⟩
  · have hr' : rightP s = false := by simpa using hr
    have E1 : Hid (addrN s k = 0) := by show _ = _; simp [addrN, hr']
    have E2 : Hid (addrE s k = 2) := by show _ = _; simp [addrE, hr']
    rw [hr'] at CR
    clear hr hr' CT
    go_enter Tryd.func16, Tryd.ntmps16
    go_wp2_with (go_at_call 41; refine (CR.out _ HB0.out).mono ?_)
    rintro e w1 ⟨rfl, hb1⟩
    have HB1 := Lib.hid (bthen HB0.out hb1)
    clear hb1
    go_wp2
    go_ret2
    rw [E1.out, E2.out]
    exact ⟨rfl, HB1.out⟩
end Go.Proofs.YtchbbldanmmpjaaDoor
