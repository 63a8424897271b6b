/- The walk of the law SpecialBack. -/
import Derived.Test.YtiapiajldchnmaaWP
namespace Go.Proofs.Ytiapiajldchnmaa
open Go.RowKit
set_option linter.unusedVariables false
set_option linter.unusedSimpArgs false

set_option maxRecDepth 100000 in
set_option maxHeartbeats 8000000 in
theorem back5 (l : List Sp) (A : Option Addr) (c : Nat) (s : Sp) (w : World) (hr : RdS w A l) (hc : l.length ≤ c) : Calls Try.prog 5 #[.slice A l.length c, s.v] w (Ret (.bool true) w) := by
  have hl := hr.len
  have HR := Lib.hid hr
  clear hr
  have C14 := Lib.hid (fun W h => take14 l A c s.a s.k W h hc)
  have C10 := Lib.hid (fun W h p h' => add10 l [s] A (some p) c 1 W h hc h')
  have C17 := Lib.hid (fun W B d h h' => same17 l l A B c d W h h')
  obtain ⟨a, k, t⟩ := s
  unfold Sp.v
  have hb0 : Below w.heap.size w (w.alloc (.cells #[.int .u64 a, .int .u8 k, .int .u64 t] 41)) := balloc (Below.refl _ _) _
  have F1 : Hid ((w.alloc (.cells #[.int .u64 a, .int .u8 k, .int .u64 t] 41)).cell? ⟨w.heap.size, 0, none⟩ = some (.int .u64 a)) := by show _ = _; go_simp
  have F2 : Hid ((w.alloc (.cells #[.int .u64 a, .int .u8 k, .int .u64 t] 41)).cell? ⟨w.heap.size, 1, none⟩ = some (.int .u8 k)) := by show _ = _; go_simp
  have F3 : Hid ((w.alloc (.cells #[.int .u64 a, .int .u8 k, .int .u64 t] 41)).cell? ⟨w.heap.size, 2, none⟩ = some (.int .u64 t)) := by show _ = _; go_simp
  cases hg : goodP l with
  | false =>
    have E1 : Hid (addP l [⟨a, k, t⟩] = ([], 2)) := by show _ = _; rw [addP_one, hg]; rfl
    clear hg C17
    go_enter Try.func5, Try.ntmps5
    go_wp2_with fail
    refine (lives16 _).mono ?_
    rintro e w1 ⟨rfl, hb1⟩
    have f1 := cell_later hb1 F1.out
    have f2 := cell_later hb1 F2.out
    have f3 := cell_later hb1 F3.out
    have HB1 := Lib.hid (bthen hb0 hb1)
    clear hb1 hb0
    go_wp2_with fail
    refine (C14.out _ (HR.out.below HB1.out)).mono ?_
    rintro e w2 ⟨x1, x2, rfl, -, -, hb2⟩
    have f1 := cell_later hb2 f1
    have f2 := cell_later hb2 f2
    have f3 := cell_later hb2 f3
    have HB2 := Lib.hid (bthen HB1.out hb2)
    clear hb2
    go_wp2_with fail
    refine (C10.out _ (HR.out.below (balloc HB2.out _)) _ (rdS_new w2 ⟨a, k, t⟩)).mono ?_
    rw [E1.out]
    rintro e w3 ⟨x3, rfl, -, hb3⟩
    have HB3 := Lib.hid (bthen (balloc HB2.out _) hb3)
    have hb3' := hb3
    clear hb3
    go_wp2
    go_ret
    exact ⟨rfl, HB3.out⟩
  | true =>
    have HG := (good_iff l).1 hg
    cases hz : putE l ⟨a, k, t⟩ == 0 with
    | false =>
      have hz' : putE l ⟨a, k, t⟩ ≠ 0 := by simpa using hz
      have hcs : putE l ⟨a, k, t⟩ = 2 ∨ putE l ⟨a, k, t⟩ = 4 ∨ putE l ⟨a, k, t⟩ = 6 := (putE_or l ⟨a, k, t⟩).resolve_left hz'
      clear HG hz
      rcases hcs with hp | hp | hp
      · have E1 : Hid (addP l [⟨a, k, t⟩] = (l, 2)) := by show _ = _; rw [addP_one, if_pos hg, if_neg hz', hp]
        clear hg C17 hp hz'
        go_enter Try.func5, Try.ntmps5
        go_wp2_with fail
        refine (lives16 _).mono ?_
        rintro e w1 ⟨rfl, hb1⟩
        have f1 := cell_later hb1 F1.out
        have f2 := cell_later hb1 F2.out
        have f3 := cell_later hb1 F3.out
        have HB1 := Lib.hid (bthen hb0 hb1)
        clear hb1 hb0
        go_wp2_with fail
        refine (C14.out _ (HR.out.below HB1.out)).mono ?_
        rintro e w2 ⟨x1, x2, rfl, -, -, hb2⟩
        have f1 := cell_later hb2 f1
        have f2 := cell_later hb2 f2
        have f3 := cell_later hb2 f3
        have HB2 := Lib.hid (bthen HB1.out hb2)
        clear hb2
        go_wp2_with fail
        refine (C10.out _ (HR.out.below (balloc HB2.out _)) _ (rdS_new w2 ⟨a, k, t⟩)).mono ?_
        rw [E1.out]
        rintro e w3 ⟨x3, rfl, -, hb3⟩
        have HB3 := Lib.hid (bthen (balloc HB2.out _) hb3)
        have hb3' := hb3
        clear hb3
        go_wp2
        go_ret
        exact ⟨rfl, HB3.out⟩
      · have E1 : Hid (addP l [⟨a, k, t⟩] = (l, 4)) := by show _ = _; rw [addP_one, if_pos hg, if_neg hz', hp]
        clear hg hp hz'
        go_enter Try.func5, Try.ntmps5
        go_wp2_with fail
        refine (lives16 _).mono ?_
        rintro e w1 ⟨rfl, hb1⟩
        have f1 := cell_later hb1 F1.out
        have f2 := cell_later hb1 F2.out
        have f3 := cell_later hb1 F3.out
        have HB1 := Lib.hid (bthen hb0 hb1)
        clear hb1 hb0
        go_wp2_with fail
        refine (C14.out _ (HR.out.below HB1.out)).mono ?_
        intro e w2 h2; obtain ⟨x1, x2, rfl, -, -, hb2⟩ := h2
        have f1 := cell_later hb2 f1
        have f2 := cell_later hb2 f2
        have f3 := cell_later hb2 f3
        have HB2 := Lib.hid (bthen HB1.out hb2)
        clear hb2
        go_wp2_with fail
        refine (C10.out _ (HR.out.below (balloc HB2.out _)) _ (rdS_new w2 ⟨a, k, t⟩)).mono ?_
        rw [E1.out]
        intro e w3 h3; obtain ⟨B3, d3, rfl, _, -, hr3, hb3⟩ := h3.shape
        have HB3 := Lib.hid (bthen (balloc HB2.out _) hb3)
        have hb3' := hb3
        clear hb3
        have HR3 := Lib.hid hr3
        clear hr3
        go_wp2_with fail
        refine (C17.out _ _ _ (HR.out.below HB3.out) HR3.out).mono ?_
        rintro e w4 ⟨rfl, hb4⟩
        go_wp2
        go_ret
        exact ⟨by simp, bthen HB3.out hb4⟩
      · have E1 : Hid (addP l [⟨a, k, t⟩] = (l, 6)) := by show _ = _; rw [addP_one, if_pos hg, if_neg hz', hp]
        clear hg hp hz'
        go_enter Try.func5, Try.ntmps5
        go_wp2_with fail
        refine (lives16 _).mono ?_
        rintro e w1 ⟨rfl, hb1⟩
        have f1 := cell_later hb1 F1.out
        have f2 := cell_later hb1 F2.out
        have f3 := cell_later hb1 F3.out
        have HB1 := Lib.hid (bthen hb0 hb1)
        clear hb1 hb0
        go_wp2_with fail
        refine (C14.out _ (HR.out.below HB1.out)).mono ?_
        intro e w2 h2; obtain ⟨x1, x2, rfl, -, -, hb2⟩ := h2
        have f1 := cell_later hb2 f1
        have f2 := cell_later hb2 f2
        have f3 := cell_later hb2 f3
        have HB2 := Lib.hid (bthen HB1.out hb2)
        clear hb2
        go_wp2_with fail
        refine (C10.out _ (HR.out.below (balloc HB2.out _)) _ (rdS_new w2 ⟨a, k, t⟩)).mono ?_
        rw [E1.out]
        intro e w3 h3; obtain ⟨B3, d3, rfl, _, -, hr3, hb3⟩ := h3.shape
        have HB3 := Lib.hid (bthen (balloc HB2.out _) hb3)
        have hb3' := hb3
        clear hb3
        have HR3 := Lib.hid hr3
        clear hr3
        go_wp2_with fail
        refine (C17.out _ _ _ (HR.out.below HB3.out) HR3.out).mono ?_
        rintro e w4 ⟨rfl, hb4⟩
        go_wp2
        go_ret
        exact ⟨by simp, bthen HB3.out hb4⟩
    | true =>
      have hz' : putE l ⟨a, k, t⟩ = 0 := by simpa using hz
      have E1 : Hid (addP l [⟨a, k, t⟩] = (putL l ⟨a, k, t⟩, 0)) := by show _ = _; rw [addP_one, if_pos hg, if_pos hz']
      obtain ⟨HG2, -, -, hlt⟩ := good_put HG hz'
      have hg2 := (good_iff _).2 HG2
      obtain ⟨hto, htl⟩ := takeO_put HG hz'
      have hml : (putL l ⟨a, k, t⟩).length ≤ 64 := HG2.len
      generalize putL l ⟨a, k, t⟩ = m at *
      have C14m := Lib.hid (fun W B d h hd => take14 m B d a k W h hd)
      have C20m := Lib.hid (fun W B d h hd => check20 m B d W h hd)
      rw [checkP_ok hg] at C14
      rw [checkP_ok hg2] at C14m C20m
      rw [show takeO m a k = takeO l a k ++ [⟨a, k, t⟩] from hto] at C14m
      have HTL : Hid (takeO l a k = [] → takeL m a k = l) := htl
      clear hg2 hto htl HG HG2 hz hz' hlt
      have HADL : Hid ((takeO l a k).length ≤ 64) := by
        show _ ≤ _
        unfold takeO
        rw [if_pos hg]
        exact Nat.le_trans (List.length_filter_le _ _) (good_len hg)
      clear hg
      generalize takeO l a k = had at *
      have hq : ∀ W, (binOp .neq 41 (.agg #[.int .u64 a, .int .u8 k, .int .u64 t]) (.agg #[.int .u64 a, .int .u8 k, .int .u64 t])).run Try.prog W = .ok (.bool false) W := fun W => by rw [neq41]; simp
      have HQ := Lib.hid hq
      clear hq
      rcases List.eq_nil_or_concat had with rfl | ⟨h0, hx, hcat⟩
      · have htl := HTL.out rfl
        have C14 : Hid (∀ W, RdS W A l → Calls Try.prog 14 #[.slice A l.length c, .int .u64 a, .int .u8 k] W (fun e w' => ∃ A1 n1 c1 B1 d1, e = .returned (.tuple #[.slice A1 n1 c1, .slice B1 0 d1, .int .i64 0]) ∧ Below W.heap.size W w')) := by
          intro W h
          refine (C14.out W h).mono fun e w' h => ?_
          obtain ⟨A1, c1, B1, d1, rfl, -, -, -, -, -, -, hb⟩ := h.shape
          exact ⟨A1, _, c1, B1, d1, rfl, hb⟩
        have C14m : Hid (∀ W B d, RdS W B m → m.length ≤ d → Calls Try.prog 14 #[.slice B m.length d, .int .u64 a, .int .u8 k] W (fun e w' => ∃ A4 c4 b o d4, e = .returned (.tuple #[.slice A4 l.length c4, .slice (some ⟨b, o, none⟩) 1 d4, .int .i64 0]) ∧
            RdS w' A4 l ∧ w'.cell? ⟨b, o, none⟩ = some (.int .u64 a) ∧ w'.cell? ⟨b, o + 1, none⟩ = some (.int .u8 k) ∧ w'.cell? ⟨b, o + 2, none⟩ = some (.int .u64 t) ∧ Below W.heap.size W w')) := by
          intro W B d h hd
          refine (C14m.out W B d h hd).mono fun e w' h => ?_
          rw [htl, List.nil_append] at h
          obtain ⟨A4, c4, B4, d4, rfl, -, -, -, -, hr4, hr5, hb⟩ := h.shape
          obtain ⟨b, o, rfl, _, e1, e2, e3⟩ := hr5.at_ (i := 0) (s := ⟨a, k, t⟩) rfl
          exact ⟨A4, c4, b, o, d4, rfl, hr4, e1, e2, e3, hb⟩
        clear HTL htl
        go_enter Try.func5, Try.ntmps5
        go_wp2_with fail
        refine (lives16 _).mono ?_
        rintro e w1 ⟨rfl, hb1⟩
        have f1 := cell_later hb1 F1.out
        have f2 := cell_later hb1 F2.out
        have f3 := cell_later hb1 F3.out
        have HB1 := Lib.hid (bthen hb0 hb1)
        clear hb1 hb0
        go_wp2_with fail
        refine (C14.out _ (HR.out.below HB1.out)).mono ?_
        rintro e w2 ⟨A1, n1, c1, B1, d1, rfl, hb2⟩
        have f1 := cell_later hb2 f1
        have f2 := cell_later hb2 f2
        have f3 := cell_later hb2 f3
        have HB2 := Lib.hid (bthen HB1.out hb2)
        clear hb2
        go_wp2_with fail
        refine (C10.out _ (HR.out.below (balloc HB2.out _)) _ (rdS_new w2 ⟨a, k, t⟩)).mono ?_
        rw [E1.out]
        intro e w3 h3; obtain ⟨A3, c3, rfl, hc3, -, hr3, hb3⟩ := h3.shape
        have HB3 := Lib.hid (bthen (balloc HB2.out _) hb3)
        have hb3' := hb3
        clear hb3
        have hba : Below w2.heap.size w2 (w2.alloc (Obj.cells #[.int .u64 a, .int .u8 k, .int .u64 t] 41)) := balloc (Below.refl _ _) _
        have f1 := cell_later hb3' (cell_later hba f1)
        have f2 := cell_later hb3' (cell_later hba f2)
        have f3 := cell_later hb3' (cell_later hba f3)
        have HR3 := Lib.hid hr3
        clear hr3 hba hb3'
        go_wp2_with fail
        refine (C14m.out _ _ _ HR3.out hc3).mono ?_
        rintro e w4 ⟨A4, c4, b, o, d4, rfl, hr4, e1, e2, e3, hb4⟩
        have f1 := cell_later hb4 f1
        have f2 := cell_later hb4 f2
        have f3 := cell_later hb4 f3
        have HB4 := Lib.hid (bthen HB3.out hb4)
        have HR3 := Lib.hid (HR3.out.below hb4)
        have HL4 := Lib.hid hr4
        have G1 := Lib.hid f1
        have G2 := Lib.hid f2
        have G3 := Lib.hid f3
        have K1 := Lib.hid e1
        have K2 := Lib.hid e2
        have K3 := Lib.hid e3
        clear f1 f2 f3 e1 e2 e3 hr4 hb4
        go_wp2
        have hq := HQ.out
        have hw1 : IntKind.i64.wrap (1 : Int) = 1 := by decide
        have hw0 : IntKind.i64.wrap (0 : Int) = 0 := by decide
        refine region_up (by kernel_rfl) (by kernel_rfl) ?_
        go_big_quiet_want
        apply Exists.intro
        refine ⟨fun W hW => ?_, ?_⟩
        · have g0 := cell_later hW G1.out
          have g1 := cell_later hW G2.out
          have g2 := cell_later hW G3.out
          have g3 := cell_later hW K1.out
          have g4 := cell_later hW K2.out
          have g5 := cell_later hW K3.out
          go_simp
          exact rfl
        simp only [Act.put, List.setIfInBounds_toArray, List.set_cons_succ, List.set_cons_zero]
        go_big_quiet_on
        go_big_quiet_want
        apply Exists.intro
        refine ⟨fun W hW => ?_, ?_⟩
        · have g0 := cell_later hW G1.out
          have g1 := cell_later hW G2.out
          have g2 := cell_later hW G3.out
          have g3 := cell_later hW K1.out
          have g4 := cell_later hW K2.out
          have g5 := cell_later hW K3.out
          go_simp
          exact rfl
        simp only [Act.put, List.setIfInBounds_toArray, List.set_cons_succ, List.set_cons_zero]
        go_big_quiet_on
        go_big_quiet_want
        apply Exists.intro
        refine ⟨fun W hW => ?_, ?_⟩
        · have g0 := cell_later hW G1.out
          have g1 := cell_later hW G2.out
          have g2 := cell_later hW G3.out
          have g3 := cell_later hW K1.out
          have g4 := cell_later hW K2.out
          have g5 := cell_later hW K3.out
          go_simp
          exact rfl
        simp only [Act.put, List.setIfInBounds_toArray, List.set_cons_succ, List.set_cons_zero]
        go_big_quiet_on
        go_big_quiet_want
        apply Exists.intro
        refine ⟨fun W hW => ?_, ?_⟩
        · have g0 := cell_later hW G1.out
          have g1 := cell_later hW G2.out
          have g2 := cell_later hW G3.out
          have g3 := cell_later hW K1.out
          have g4 := cell_later hW K2.out
          have g5 := cell_later hW K3.out
          go_simp
          exact rfl
        simp only [Act.put, List.setIfInBounds_toArray, List.set_cons_succ, List.set_cons_zero]
        go_big_quiet_on
        go_big_quiet_want
        apply Exists.intro
        refine ⟨fun W hW => ?_, ?_⟩
        · have g0 := cell_later hW G1.out
          have g1 := cell_later hW G2.out
          have g2 := cell_later hW G3.out
          have g3 := cell_later hW K1.out
          have g4 := cell_later hW K2.out
          have g5 := cell_later hW K3.out
          go_simp
          exact rfl
        simp only [Act.put, List.setIfInBounds_toArray, List.set_cons_succ, List.set_cons_zero]
        go_big_quiet_on
        go_big_quiet_want
        apply Exists.intro
        refine ⟨fun W hW => ?_, ?_⟩
        · have g0 := cell_later hW G1.out
          have g1 := cell_later hW G2.out
          have g2 := cell_later hW G3.out
          have g3 := cell_later hW K1.out
          have g4 := cell_later hW K2.out
          have g5 := cell_later hW K3.out
          go_simp
          exact rfl
        simp only [Act.put, List.setIfInBounds_toArray, List.set_cons_succ, List.set_cons_zero]
        go_big_quiet_on
        go_big_quiet_want
        apply Exists.intro
        refine ⟨fun W hW => ?_, ?_⟩
        · have g0 := cell_later hW G1.out
          have g1 := cell_later hW G2.out
          have g2 := cell_later hW G3.out
          have g3 := cell_later hW K1.out
          have g4 := cell_later hW K2.out
          have g5 := cell_later hW K3.out
          go_simp
          exact rfl
        simp only [Act.put, List.setIfInBounds_toArray, List.set_cons_succ, List.set_cons_zero]
        go_big_quiet_on
        go_big_quiet_want
        apply Exists.intro
        refine ⟨fun W hW => ?_, ?_⟩
        · have g0 := cell_later hW G1.out
          have g1 := cell_later hW G2.out
          have g2 := cell_later hW G3.out
          have g3 := cell_later hW K1.out
          have g4 := cell_later hW K2.out
          have g5 := cell_later hW K3.out
          go_simp
          exact rfl
        simp only [Act.put, List.setIfInBounds_toArray, List.set_cons_succ, List.set_cons_zero]
        go_big_quiet_on
        go_big_quiet_want
        apply Exists.intro
        refine ⟨fun W hW => ?_, ?_⟩
        · have g0 := cell_later hW G1.out
          have g1 := cell_later hW G2.out
          have g2 := cell_later hW G3.out
          have g3 := cell_later hW K1.out
          have g4 := cell_later hW K2.out
          have g5 := cell_later hW K3.out
          go_simp
          exact call_up hW (C20m.out W _ _ (HR3.out.below hW) hc3)
        simp only [Act.put, List.setIfInBounds_toArray, List.set_cons_succ, List.set_cons_zero]
        go_big_quiet_on
        go_big_quiet_want
        apply Exists.intro
        refine ⟨fun W hW => ?_, ?_⟩
        · have g0 := cell_later hW G1.out
          have g1 := cell_later hW G2.out
          have g2 := cell_later hW G3.out
          have g3 := cell_later hW K1.out
          have g4 := cell_later hW K2.out
          have g5 := cell_later hW K3.out
          go_simp
          exact rfl
        simp only [Act.put, List.setIfInBounds_toArray, List.set_cons_succ, List.set_cons_zero]
        go_big_quiet_on
        go_big_quiet_want
        apply Exists.intro
        refine ⟨fun W hW => ?_, ?_⟩
        · have g0 := cell_later hW G1.out
          have g1 := cell_later hW G2.out
          have g2 := cell_later hW G3.out
          have g3 := cell_later hW K1.out
          have g4 := cell_later hW K2.out
          have g5 := cell_later hW K3.out
          go_simp
          exact rfl
        simp only [Act.put, List.setIfInBounds_toArray, List.set_cons_succ, List.set_cons_zero]
        go_big_quiet_on
        go_big_quiet_want
        apply Exists.intro
        refine ⟨fun W hW => ?_, ?_⟩
        · have g0 := cell_later hW G1.out
          have g1 := cell_later hW G2.out
          have g2 := cell_later hW G3.out
          have g3 := cell_later hW K1.out
          have g4 := cell_later hW K2.out
          have g5 := cell_later hW K3.out
          go_simp
          exact rfl
        simp only [Act.put, List.setIfInBounds_toArray, List.set_cons_succ, List.set_cons_zero]
        go_big_quiet_on
        go_big_quiet_want
        apply Exists.intro
        refine ⟨fun W hW => ?_, ?_⟩
        · have g0 := cell_later hW G1.out
          have g1 := cell_later hW G2.out
          have g2 := cell_later hW G3.out
          have g3 := cell_later hW K1.out
          have g4 := cell_later hW K2.out
          have g5 := cell_later hW K3.out
          go_simp
          exact rfl
        simp only [Act.put, List.setIfInBounds_toArray, List.set_cons_succ, List.set_cons_zero]
        go_big_quiet_on
        go_big_quiet_want
        apply Exists.intro
        refine ⟨fun W hW => ?_, ?_⟩
        · have g0 := cell_later hW G1.out
          have g1 := cell_later hW G2.out
          have g2 := cell_later hW G3.out
          have g3 := cell_later hW K1.out
          have g4 := cell_later hW K2.out
          have g5 := cell_later hW K3.out
          go_simp
          exact rfl
        simp only [Act.put, List.setIfInBounds_toArray, List.set_cons_succ, List.set_cons_zero]
        go_big_quiet_on
        go_big_quiet_want
        apply Exists.intro
        refine ⟨fun W hW => ?_, ?_⟩
        · have g0 := cell_later hW G1.out
          have g1 := cell_later hW G2.out
          have g2 := cell_later hW G3.out
          have g3 := cell_later hW K1.out
          have g4 := cell_later hW K2.out
          have g5 := cell_later hW K3.out
          go_simp
          exact rfl
        simp only [Act.put, List.setIfInBounds_toArray, List.set_cons_succ, List.set_cons_zero]
        go_big_quiet_on
        go_big_quiet_want
        apply Exists.intro
        refine ⟨fun W hW => ?_, ?_⟩
        · have g0 := cell_later hW G1.out
          have g1 := cell_later hW G2.out
          have g2 := cell_later hW G3.out
          have g3 := cell_later hW K1.out
          have g4 := cell_later hW K2.out
          have g5 := cell_later hW K3.out
          go_simp
          exact rfl
        simp only [Act.put, List.setIfInBounds_toArray, List.set_cons_succ, List.set_cons_zero]
        go_big_quiet_on
        go_big_quiet_want
        apply Exists.intro
        refine ⟨fun W hW => ?_, ?_⟩
        · have g0 := cell_later hW G1.out
          have g1 := cell_later hW G2.out
          have g2 := cell_later hW G3.out
          have g3 := cell_later hW K1.out
          have g4 := cell_later hW K2.out
          have g5 := cell_later hW K3.out
          go_simp
          exact rfl
        simp only [Act.put, List.setIfInBounds_toArray, List.set_cons_succ, List.set_cons_zero]
        go_big_quiet_on
        go_big_quiet_want
        apply Exists.intro
        refine ⟨fun W hW => ?_, ?_⟩
        · have g0 := cell_later hW G1.out
          have g1 := cell_later hW G2.out
          have g2 := cell_later hW G3.out
          have g3 := cell_later hW K1.out
          have g4 := cell_later hW K2.out
          have g5 := cell_later hW K3.out
          go_simp
          exact rfl
        simp only [Act.put, List.setIfInBounds_toArray, List.set_cons_succ, List.set_cons_zero]
        go_big_quiet_on
        go_big_quiet_want
        apply Exists.intro
        refine ⟨fun W hW => ?_, ?_⟩
        · have g0 := cell_later hW G1.out
          have g1 := cell_later hW G2.out
          have g2 := cell_later hW G3.out
          have g3 := cell_later hW K1.out
          have g4 := cell_later hW K2.out
          have g5 := cell_later hW K3.out
          go_simp
          exact rfl
        simp only [Act.put, List.setIfInBounds_toArray, List.set_cons_succ, List.set_cons_zero]
        go_big_quiet_on
        go_big_quiet_want
        apply Exists.intro
        refine ⟨fun W hW => ?_, ?_⟩
        · have g0 := cell_later hW G1.out
          have g1 := cell_later hW G2.out
          have g2 := cell_later hW G3.out
          have g3 := cell_later hW K1.out
          have g4 := cell_later hW K2.out
          have g5 := cell_later hW K3.out
          go_simp
          exact rfl
        simp only [Act.put, List.setIfInBounds_toArray, List.set_cons_succ, List.set_cons_zero]
        go_big_quiet_on
        go_big_quiet_want
        apply Exists.intro
        refine ⟨fun W hW => ?_, ?_⟩
        · have g0 := cell_later hW G1.out
          have g1 := cell_later hW G2.out
          have g2 := cell_later hW G3.out
          have g3 := cell_later hW K1.out
          have g4 := cell_later hW K2.out
          have g5 := cell_later hW K3.out
          go_simp
          exact rfl
        simp only [Act.put, List.setIfInBounds_toArray, List.set_cons_succ, List.set_cons_zero]
        go_big_quiet_on
        go_big_quiet_want
        apply Exists.intro
        refine ⟨fun W hW => ?_, ?_⟩
        · have g0 := cell_later hW G1.out
          have g1 := cell_later hW G2.out
          have g2 := cell_later hW G3.out
          have g3 := cell_later hW K1.out
          have g4 := cell_later hW K2.out
          have g5 := cell_later hW K3.out
          go_simp
          exact rfl
        simp only [Act.put, List.setIfInBounds_toArray, List.set_cons_succ, List.set_cons_zero]
        go_big_quiet_on
        go_big_quiet_want
        apply Exists.intro
        refine ⟨fun W hW => ?_, ?_⟩
        · have g0 := cell_later hW G1.out
          have g1 := cell_later hW G2.out
          have g2 := cell_later hW G3.out
          have g3 := cell_later hW K1.out
          have g4 := cell_later hW K2.out
          have g5 := cell_later hW K3.out
          go_simp
          exact rfl
        simp only [Act.put, List.setIfInBounds_toArray, List.set_cons_succ, List.set_cons_zero]
        go_big_quiet_on
        go_big_quiet_want
        apply Exists.intro
        refine ⟨fun W hW => ?_, ?_⟩
        · have g0 := cell_later hW G1.out
          have g1 := cell_later hW G2.out
          have g2 := cell_later hW G3.out
          have g3 := cell_later hW K1.out
          have g4 := cell_later hW K2.out
          have g5 := cell_later hW K3.out
          go_simp
          exact rfl
        simp only [Act.put, List.setIfInBounds_toArray, List.set_cons_succ, List.set_cons_zero]
        go_big_quiet_on
        go_big_quiet_want
        apply Exists.intro
        refine ⟨fun W hW => ?_, ?_⟩
        · have g0 := cell_later hW G1.out
          have g1 := cell_later hW G2.out
          have g2 := cell_later hW G3.out
          have g3 := cell_later hW K1.out
          have g4 := cell_later hW K2.out
          have g5 := cell_later hW K3.out
          go_simp
          exact rfl
        simp only [Act.put, List.setIfInBounds_toArray, List.set_cons_succ, List.set_cons_zero]
        go_big_quiet_on
        go_big_quiet_want
        apply Exists.intro
        refine ⟨fun W hW => ?_, ?_⟩
        · have g0 := cell_later hW G1.out
          have g1 := cell_later hW G2.out
          have g2 := cell_later hW G3.out
          have g3 := cell_later hW K1.out
          have g4 := cell_later hW K2.out
          have g5 := cell_later hW K3.out
          go_simp
          exact rfl
        simp only [Act.put, List.setIfInBounds_toArray, List.set_cons_succ, List.set_cons_zero]
        go_big_quiet_on
        go_big_quiet_want
        apply Exists.intro
        refine ⟨fun W hW => ?_, ?_⟩
        · have g0 := cell_later hW G1.out
          have g1 := cell_later hW G2.out
          have g2 := cell_later hW G3.out
          have g3 := cell_later hW K1.out
          have g4 := cell_later hW K2.out
          have g5 := cell_later hW K3.out
          go_simp
          exact rfl
        simp only [Act.put, List.setIfInBounds_toArray, List.set_cons_succ, List.set_cons_zero]
        go_big_quiet_on
        go_big_quiet_want
        apply Exists.intro
        refine ⟨fun W hW => ?_, ?_⟩
        · have g0 := cell_later hW G1.out
          have g1 := cell_later hW G2.out
          have g2 := cell_later hW G3.out
          have g3 := cell_later hW K1.out
          have g4 := cell_later hW K2.out
          have g5 := cell_later hW K3.out
          go_simp
          exact rfl
        simp only [Act.put, List.setIfInBounds_toArray, List.set_cons_succ, List.set_cons_zero]
        go_big_quiet_on
        go_big_quiet_want
        apply Exists.intro
        refine ⟨fun W hW => ?_, ?_⟩
        · have g0 := cell_later hW G1.out
          have g1 := cell_later hW G2.out
          have g2 := cell_later hW G3.out
          have g3 := cell_later hW K1.out
          have g4 := cell_later hW K2.out
          have g5 := cell_later hW K3.out
          go_simp
          exact rfl
        simp only [Act.put, List.setIfInBounds_toArray, List.set_cons_succ, List.set_cons_zero]
        go_big_quiet_on
        refine wpQuiet_nil ?_
        intro W hW
        clear hq hw1 hw0
        go_wp2_with fail
        refine (same17 l l A4 A c4 c _ (HL4.out.below hW) (HR.out.below (bthen HB4.out hW))).mono ?_
        rintro e w6 ⟨rfl, hb6⟩
        go_wp2
        go_ret
        exact ⟨by simp, bthen (bthen HB4.out hW) hb6⟩
      · have hn : 0 < had.length := by rw [hcat]; simp
        have hnl : had.length ≤ 64 := HADL.out
        clear hcat HTL
        have C14 : Hid (∀ W, RdS W A l → Calls Try.prog 14 #[.slice A l.length c, .int .u64 a, .int .u8 k] W (fun e w' => ∃ A1 n1 c1 B1 d1, e = .returned (.tuple #[.slice A1 n1 c1, .slice B1 had.length d1, .int .i64 0]) ∧ Below W.heap.size W w')) := by
          intro W h
          refine (C14.out W h).mono fun e w' h => ?_
          obtain ⟨A1, c1, B1, d1, rfl, -, -, -, -, -, -, hb⟩ := h.shape
          exact ⟨A1, _, c1, B1, d1, rfl, hb⟩
        have C14m : Hid (∀ W B d, RdS W B m → m.length ≤ d → Calls Try.prog 14 #[.slice B m.length d, .int .u64 a, .int .u8 k] W (fun e w' => ∃ A4 n4 c4 b o d4, e = .returned (.tuple #[.slice A4 n4 c4, .slice (some ⟨b, o, none⟩) (had.length + 1) d4, .int .i64 0]) ∧
            w'.cell? ⟨b, o + had.length * 3, none⟩ = some (.int .u64 a) ∧ w'.cell? ⟨b, o + had.length * 3 + 1, none⟩ = some (.int .u8 k) ∧ w'.cell? ⟨b, o + had.length * 3 + 2, none⟩ = some (.int .u64 t) ∧ Below W.heap.size W w')) := by
          intro W B d h hd
          refine (C14m.out W B d h hd).mono fun e w' h => ?_
          obtain ⟨A4, c4, B4, d4, rfl, -, -, -, -, hr4, hr5, hb⟩ := h.shape
          obtain ⟨b, o, rfl, _, e1, e2, e3⟩ := hr5.at_ (i := had.length) (s := ⟨a, k, t⟩) (by simp)
          exact ⟨A4, _, c4, b, o, d4, by rw [List.length_append]; rfl, e1, e2, e3, hb⟩
        generalize had.length = n at *
        go_enter Try.func5, Try.ntmps5
        go_wp2_with fail
        refine (lives16 _).mono ?_
        rintro e w1 ⟨rfl, hb1⟩
        have f1 := cell_later hb1 F1.out
        have f2 := cell_later hb1 F2.out
        have f3 := cell_later hb1 F3.out
        have HB1 := Lib.hid (bthen hb0 hb1)
        clear hb1 hb0
        go_wp2_with fail
        refine (C14.out _ (HR.out.below HB1.out)).mono ?_
        rintro e w2 ⟨A1, n1, c1, B1, d1, rfl, hb2⟩
        have f1 := cell_later hb2 f1
        have f2 := cell_later hb2 f2
        have f3 := cell_later hb2 f3
        have HB2 := Lib.hid (bthen HB1.out hb2)
        clear hb2
        go_wp2_with fail
        refine (C10.out _ (HR.out.below (balloc HB2.out _)) _ (rdS_new w2 ⟨a, k, t⟩)).mono ?_
        rw [E1.out]
        intro e w3 h3; obtain ⟨A3, c3, rfl, hc3, -, hr3, hb3⟩ := h3.shape
        have HB3 := Lib.hid (bthen (balloc HB2.out _) hb3)
        have hb3' := hb3
        clear hb3
        have hba : Below w2.heap.size w2 (w2.alloc (Obj.cells #[.int .u64 a, .int .u8 k, .int .u64 t] 41)) := balloc (Below.refl _ _) _
        have f1 := cell_later hb3' (cell_later hba f1)
        have f2 := cell_later hb3' (cell_later hba f2)
        have f3 := cell_later hb3' (cell_later hba f3)
        have HR3 := Lib.hid hr3
        clear hr3 hba hb3'
        go_wp2_with fail
        refine (C14m.out _ _ _ HR3.out hc3).mono ?_
        rintro e w4 ⟨A4, n4, c4, b, o, d4, rfl, e1, e2, e3, hb4⟩
        have f1 := cell_later hb4 f1
        have f2 := cell_later hb4 f2
        have f3 := cell_later hb4 f3
        have HB4 := Lib.hid (bthen HB3.out hb4)
        have HR3 := Lib.hid (HR3.out.below hb4)
        have G1 := Lib.hid f1
        have G2 := Lib.hid f2
        have G3 := Lib.hid f3
        have K1 := Lib.hid e1
        have K2 := Lib.hid e2
        have K3 := Lib.hid e3
        clear f1 f2 f3 e1 e2 e3 hb4
        go_wp2
        have hq := HQ.out
        have hw1 : IntKind.i64.wrap (1 : Int) = 1 := by decide
        have hwn : IntKind.i64.wrap (n : Int) = (n : Int) := by rw [IntKind.wrap_i64]; omega
        have hnlt : (n : Int) < (n : Int) + 1 := by omega
        have hwn1 : IntKind.i64.wrap ((n : Int) + 1 - (n : Int)) = 1 := by rw [IntKind.wrap_i64]; omega
        refine region_up (by kernel_rfl) (by kernel_rfl) ?_
        go_big_quiet_want
        apply Exists.intro
        refine ⟨fun W hW => ?_, ?_⟩
        · have g0 := cell_later hW G1.out
          have g1 := cell_later hW G2.out
          have g2 := cell_later hW G3.out
          have g3 := cell_later hW K1.out
          have g4 := cell_later hW K2.out
          have g5 := cell_later hW K3.out
          go_simp
          exact rfl
        simp only [Act.put, List.setIfInBounds_toArray, List.set_cons_succ, List.set_cons_zero]
        go_big_quiet_on
        go_big_quiet_want
        apply Exists.intro
        refine ⟨fun W hW => ?_, ?_⟩
        · have g0 := cell_later hW G1.out
          have g1 := cell_later hW G2.out
          have g2 := cell_later hW G3.out
          have g3 := cell_later hW K1.out
          have g4 := cell_later hW K2.out
          have g5 := cell_later hW K3.out
          go_simp
          exact rfl
        simp only [Act.put, List.setIfInBounds_toArray, List.set_cons_succ, List.set_cons_zero]
        go_big_quiet_on
        go_big_quiet_want
        apply Exists.intro
        refine ⟨fun W hW => ?_, ?_⟩
        · have g0 := cell_later hW G1.out
          have g1 := cell_later hW G2.out
          have g2 := cell_later hW G3.out
          have g3 := cell_later hW K1.out
          have g4 := cell_later hW K2.out
          have g5 := cell_later hW K3.out
          go_simp
          exact rfl
        simp only [Act.put, List.setIfInBounds_toArray, List.set_cons_succ, List.set_cons_zero]
        go_big_quiet_on
        go_big_quiet_want
        apply Exists.intro
        refine ⟨fun W hW => ?_, ?_⟩
        · have g0 := cell_later hW G1.out
          have g1 := cell_later hW G2.out
          have g2 := cell_later hW G3.out
          have g3 := cell_later hW K1.out
          have g4 := cell_later hW K2.out
          have g5 := cell_later hW K3.out
          go_simp
          exact rfl
        simp only [Act.put, List.setIfInBounds_toArray, List.set_cons_succ, List.set_cons_zero]
        go_big_quiet_on
        go_big_quiet_want
        apply Exists.intro
        refine ⟨fun W hW => ?_, ?_⟩
        · have g0 := cell_later hW G1.out
          have g1 := cell_later hW G2.out
          have g2 := cell_later hW G3.out
          have g3 := cell_later hW K1.out
          have g4 := cell_later hW K2.out
          have g5 := cell_later hW K3.out
          go_simp
          exact rfl
        simp only [Act.put, List.setIfInBounds_toArray, List.set_cons_succ, List.set_cons_zero]
        go_big_quiet_on
        go_big_quiet_want
        apply Exists.intro
        refine ⟨fun W hW => ?_, ?_⟩
        · have g0 := cell_later hW G1.out
          have g1 := cell_later hW G2.out
          have g2 := cell_later hW G3.out
          have g3 := cell_later hW K1.out
          have g4 := cell_later hW K2.out
          have g5 := cell_later hW K3.out
          go_simp
          exact rfl
        simp only [Act.put, List.setIfInBounds_toArray, List.set_cons_succ, List.set_cons_zero]
        go_big_quiet_on
        go_big_quiet_want
        apply Exists.intro
        refine ⟨fun W hW => ?_, ?_⟩
        · have g0 := cell_later hW G1.out
          have g1 := cell_later hW G2.out
          have g2 := cell_later hW G3.out
          have g3 := cell_later hW K1.out
          have g4 := cell_later hW K2.out
          have g5 := cell_later hW K3.out
          go_simp
          exact rfl
        simp only [Act.put, List.setIfInBounds_toArray, List.set_cons_succ, List.set_cons_zero]
        go_big_quiet_on
        go_big_quiet_want
        apply Exists.intro
        refine ⟨fun W hW => ?_, ?_⟩
        · have g0 := cell_later hW G1.out
          have g1 := cell_later hW G2.out
          have g2 := cell_later hW G3.out
          have g3 := cell_later hW K1.out
          have g4 := cell_later hW K2.out
          have g5 := cell_later hW K3.out
          go_simp
          exact rfl
        simp only [Act.put, List.setIfInBounds_toArray, List.set_cons_succ, List.set_cons_zero]
        go_big_quiet_on
        go_big_quiet_want
        apply Exists.intro
        refine ⟨fun W hW => ?_, ?_⟩
        · have g0 := cell_later hW G1.out
          have g1 := cell_later hW G2.out
          have g2 := cell_later hW G3.out
          have g3 := cell_later hW K1.out
          have g4 := cell_later hW K2.out
          have g5 := cell_later hW K3.out
          go_simp
          exact call_up hW (C20m.out W _ _ (HR3.out.below hW) hc3)
        simp only [Act.put, List.setIfInBounds_toArray, List.set_cons_succ, List.set_cons_zero]
        go_big_quiet_on
        go_big_quiet_want
        apply Exists.intro
        refine ⟨fun W hW => ?_, ?_⟩
        · have g0 := cell_later hW G1.out
          have g1 := cell_later hW G2.out
          have g2 := cell_later hW G3.out
          have g3 := cell_later hW K1.out
          have g4 := cell_later hW K2.out
          have g5 := cell_later hW K3.out
          go_simp
          exact rfl
        simp only [Act.put, List.setIfInBounds_toArray, List.set_cons_succ, List.set_cons_zero]
        go_big_quiet_on
        go_big_quiet_want
        apply Exists.intro
        refine ⟨fun W hW => ?_, ?_⟩
        · have g0 := cell_later hW G1.out
          have g1 := cell_later hW G2.out
          have g2 := cell_later hW G3.out
          have g3 := cell_later hW K1.out
          have g4 := cell_later hW K2.out
          have g5 := cell_later hW K3.out
          go_simp
          exact rfl
        simp only [Act.put, List.setIfInBounds_toArray, List.set_cons_succ, List.set_cons_zero]
        go_big_quiet_on
        go_big_quiet_want
        apply Exists.intro
        refine ⟨fun W hW => ?_, ?_⟩
        · have g0 := cell_later hW G1.out
          have g1 := cell_later hW G2.out
          have g2 := cell_later hW G3.out
          have g3 := cell_later hW K1.out
          have g4 := cell_later hW K2.out
          have g5 := cell_later hW K3.out
          go_simp
          exact rfl
        simp only [Act.put, List.setIfInBounds_toArray, List.set_cons_succ, List.set_cons_zero]
        go_big_quiet_on
        go_big_quiet_want
        apply Exists.intro
        refine ⟨fun W hW => ?_, ?_⟩
        · have g0 := cell_later hW G1.out
          have g1 := cell_later hW G2.out
          have g2 := cell_later hW G3.out
          have g3 := cell_later hW K1.out
          have g4 := cell_later hW K2.out
          have g5 := cell_later hW K3.out
          go_simp
          exact rfl
        simp only [Act.put, List.setIfInBounds_toArray, List.set_cons_succ, List.set_cons_zero]
        go_big_quiet_on
        go_big_quiet_want
        apply Exists.intro
        refine ⟨fun W hW => ?_, ?_⟩
        · have g0 := cell_later hW G1.out
          have g1 := cell_later hW G2.out
          have g2 := cell_later hW G3.out
          have g3 := cell_later hW K1.out
          have g4 := cell_later hW K2.out
          have g5 := cell_later hW K3.out
          go_simp
          exact rfl
        simp only [Act.put, List.setIfInBounds_toArray, List.set_cons_succ, List.set_cons_zero]
        go_big_quiet_on
        go_big_quiet_want
        apply Exists.intro
        refine ⟨fun W hW => ?_, ?_⟩
        · have g0 := cell_later hW G1.out
          have g1 := cell_later hW G2.out
          have g2 := cell_later hW G3.out
          have g3 := cell_later hW K1.out
          have g4 := cell_later hW K2.out
          have g5 := cell_later hW K3.out
          go_simp
          exact rfl
        simp only [Act.put, List.setIfInBounds_toArray, List.set_cons_succ, List.set_cons_zero]
        go_big_quiet_on
        go_big_quiet_want
        apply Exists.intro
        refine ⟨fun W hW => ?_, ?_⟩
        · have g0 := cell_later hW G1.out
          have g1 := cell_later hW G2.out
          have g2 := cell_later hW G3.out
          have g3 := cell_later hW K1.out
          have g4 := cell_later hW K2.out
          have g5 := cell_later hW K3.out
          go_simp
          exact rfl
        simp only [Act.put, List.setIfInBounds_toArray, List.set_cons_succ, List.set_cons_zero]
        go_big_quiet_on
        go_big_quiet_want
        apply Exists.intro
        refine ⟨fun W hW => ?_, ?_⟩
        · have g0 := cell_later hW G1.out
          have g1 := cell_later hW G2.out
          have g2 := cell_later hW G3.out
          have g3 := cell_later hW K1.out
          have g4 := cell_later hW K2.out
          have g5 := cell_later hW K3.out
          go_simp
          exact rfl
        simp only [Act.put, List.setIfInBounds_toArray, List.set_cons_succ, List.set_cons_zero]
        go_big_quiet_on
        go_big_quiet_want
        apply Exists.intro
        refine ⟨fun W hW => ?_, ?_⟩
        · have g0 := cell_later hW G1.out
          have g1 := cell_later hW G2.out
          have g2 := cell_later hW G3.out
          have g3 := cell_later hW K1.out
          have g4 := cell_later hW K2.out
          have g5 := cell_later hW K3.out
          go_simp
          exact rfl
        simp only [Act.put, List.setIfInBounds_toArray, List.set_cons_succ, List.set_cons_zero]
        go_big_quiet_on
        go_big_quiet_want
        apply Exists.intro
        refine ⟨fun W hW => ?_, ?_⟩
        · have g0 := cell_later hW G1.out
          have g1 := cell_later hW G2.out
          have g2 := cell_later hW G3.out
          have g3 := cell_later hW K1.out
          have g4 := cell_later hW K2.out
          have g5 := cell_later hW K3.out
          go_simp
          exact rfl
        simp only [Act.put, List.setIfInBounds_toArray, List.set_cons_succ, List.set_cons_zero]
        go_big_quiet_on
        go_big_quiet_want
        apply Exists.intro
        refine ⟨fun W hW => ?_, ?_⟩
        · have g0 := cell_later hW G1.out
          have g1 := cell_later hW G2.out
          have g2 := cell_later hW G3.out
          have g3 := cell_later hW K1.out
          have g4 := cell_later hW K2.out
          have g5 := cell_later hW K3.out
          go_simp
          exact rfl
        simp only [Act.put, List.setIfInBounds_toArray, List.set_cons_succ, List.set_cons_zero]
        go_big_quiet_on
        go_big_quiet_want
        apply Exists.intro
        refine ⟨fun W hW => ?_, ?_⟩
        · have g0 := cell_later hW G1.out
          have g1 := cell_later hW G2.out
          have g2 := cell_later hW G3.out
          have g3 := cell_later hW K1.out
          have g4 := cell_later hW K2.out
          have g5 := cell_later hW K3.out
          go_simp
          exact rfl
        simp only [Act.put, List.setIfInBounds_toArray, List.set_cons_succ, List.set_cons_zero]
        go_big_quiet_on
        go_big_quiet_want
        apply Exists.intro
        refine ⟨fun W hW => ?_, ?_⟩
        · have g0 := cell_later hW G1.out
          have g1 := cell_later hW G2.out
          have g2 := cell_later hW G3.out
          have g3 := cell_later hW K1.out
          have g4 := cell_later hW K2.out
          have g5 := cell_later hW K3.out
          go_simp
          exact rfl
        simp only [Act.put, List.setIfInBounds_toArray, List.set_cons_succ, List.set_cons_zero]
        go_big_quiet_on
        go_big_quiet_want
        apply Exists.intro
        refine ⟨fun W hW => ?_, ?_⟩
        · have g0 := cell_later hW G1.out
          have g1 := cell_later hW G2.out
          have g2 := cell_later hW G3.out
          have g3 := cell_later hW K1.out
          have g4 := cell_later hW K2.out
          have g5 := cell_later hW K3.out
          go_simp
          exact rfl
        simp only [Act.put, List.setIfInBounds_toArray, List.set_cons_succ, List.set_cons_zero]
        go_big_quiet_on
        go_big_quiet_want
        apply Exists.intro
        refine ⟨fun W hW => ?_, ?_⟩
        · have g0 := cell_later hW G1.out
          have g1 := cell_later hW G2.out
          have g2 := cell_later hW G3.out
          have g3 := cell_later hW K1.out
          have g4 := cell_later hW K2.out
          have g5 := cell_later hW K3.out
          go_simp
          exact rfl
        simp only [Act.put, List.setIfInBounds_toArray, List.set_cons_succ, List.set_cons_zero]
        go_big_quiet_on
        go_big_quiet_want
        apply Exists.intro
        refine ⟨fun W hW => ?_, ?_⟩
        · have g0 := cell_later hW G1.out
          have g1 := cell_later hW G2.out
          have g2 := cell_later hW G3.out
          have g3 := cell_later hW K1.out
          have g4 := cell_later hW K2.out
          have g5 := cell_later hW K3.out
          go_simp
          exact rfl
        simp only [Act.put, List.setIfInBounds_toArray, List.set_cons_succ, List.set_cons_zero]
        go_big_quiet_on
        go_big_quiet_want
        apply Exists.intro
        refine ⟨fun W hW => ?_, ?_⟩
        · have g0 := cell_later hW G1.out
          have g1 := cell_later hW G2.out
          have g2 := cell_later hW G3.out
          have g3 := cell_later hW K1.out
          have g4 := cell_later hW K2.out
          have g5 := cell_later hW K3.out
          go_simp
          exact rfl
        simp only [Act.put, List.setIfInBounds_toArray, List.set_cons_succ, List.set_cons_zero]
        go_big_quiet_on
        go_big_quiet_want
        apply Exists.intro
        refine ⟨fun W hW => ?_, ?_⟩
        · have g0 := cell_later hW G1.out
          have g1 := cell_later hW G2.out
          have g2 := cell_later hW G3.out
          have g3 := cell_later hW K1.out
          have g4 := cell_later hW K2.out
          have g5 := cell_later hW K3.out
          go_simp
          exact rfl
        simp only [Act.put, List.setIfInBounds_toArray, List.set_cons_succ, List.set_cons_zero]
        go_big_quiet_on
        go_big_quiet_want
        apply Exists.intro
        refine ⟨fun W hW => ?_, ?_⟩
        · have g0 := cell_later hW G1.out
          have g1 := cell_later hW G2.out
          have g2 := cell_later hW G3.out
          have g3 := cell_later hW K1.out
          have g4 := cell_later hW K2.out
          have g5 := cell_later hW K3.out
          go_simp
          exact rfl
        simp only [Act.put, List.setIfInBounds_toArray, List.set_cons_succ, List.set_cons_zero]
        go_big_quiet_on
        go_big_quiet_want
        apply Exists.intro
        refine ⟨fun W hW => ?_, ?_⟩
        · have g0 := cell_later hW G1.out
          have g1 := cell_later hW G2.out
          have g2 := cell_later hW G3.out
          have g3 := cell_later hW K1.out
          have g4 := cell_later hW K2.out
          have g5 := cell_later hW K3.out
          go_simp
          exact rfl
        simp only [Act.put, List.setIfInBounds_toArray, List.set_cons_succ, List.set_cons_zero]
        go_big_quiet_on
        refine wpQuiet_nil ?_
        intro W hW
        clear hq hw1 hwn hwn1 hnlt
        go_wp2
        go_ret
        exact ⟨rfl, bthen HB4.out hW⟩
end Go.Proofs.Ytiapiajldchnmaa
