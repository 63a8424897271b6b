/- The walk of the reference's Same. -/
import Derived.Test.YtchbbldanmmpjaaDoorT7
namespace Go.Proofs.YtchbbldanmmpjaaDoor
open Go.RowKit
set_option linter.unusedVariables false
set_option linter.unusedSimpArgs false

theorem takeS_succ {l m : List SpanB} {k : Nat} {x y : SpanB} (h : l.take k = m.take k) (hx : l[k]? = some x) (hy : m[k]? = some y) (e : x = y) : l.take (k + 1) = m.take (k + 1) := by
  rw [List.take_add_one, List.take_add_one, h, hx, hy, e]
theorem neS_at {l m : List SpanB} {k : Nat} {x y : SpanB} (hx : l[k]? = some x) (hy : m[k]? = some y) (e : x ≠ y) : l ≠ m := by
  intro h
  rw [h, hy] at hx
  exact e (Option.some.inj hx).symm
set_option maxRecDepth 100000 in
set_option maxHeartbeats 8000000 in
theorem same30 (A B : Option Addr) (c d : Nat) (vs us : List SpanV) (l m : List SpanB) (w : World) (ha : RdL w A vs l) (hb : RdL w B us m) :
    Calls Tryd.prog 30 #[.slice A l.length c, .slice B m.length d] w (Ret (.bool (decide (l = m))) w) := by
  have hl := ha.len
  have hlm := hb.len
  have HA := Lib.hid ha
  have HB := Lib.hid hb
  clear ha hb
  by_cases h : m.length = l.length
  · have HM := Lib.hid h
    rw [h] at hlm ⊢
    clear h hlm
    go_enter Tryd.func30, Tryd.ntmps30
    go_wp2
    obtain ⟨wo, hwo⟩ : ∃ wo : World, wo = w := ⟨w, rfl⟩
    go_loopw [13] (fun i wr => ∃ k : Nat, k ≤ l.length ∧ i = .int .i64 k ∧ Hid (l.take k = m.take k) ∧ Hid (Below w.heap.size w wr)) (fun i _ => l.length - (intOf i).toNat)
    case atStart => exact ⟨0, Nat.zero_le _, rfl, Eq.refl (l.take 0), Below.refl _ _⟩
    case round =>
      obtain ⟨k, hk, rfl, HT, HBr⟩ := hrel
      by_cases hlt : k < l.length
      · have hs : l[k]? = some l[k] := List.getElem?_eq_getElem hlt
        have hmk : k < m.length := by rw [HM.out]; exact hlt
        have ht : m[k]? = some m[k] := List.getElem?_eq_getElem hmk
        generalize l[k] = s at hs
        generalize m[k] = t at ht
        clear hmk
        obtain ⟨v, bv, ov, hvi, hR, hA, hbv, c0, c1, c2, c3, c4, c5, c6, c7⟩ := HA.out.at_ hs
        obtain ⟨u, bu, ou, hvk, hR', hA', hbu, d0, d1, d2, d3, d4, d5, d6, d7⟩ := HB.out.at_ ht
        subst hA
        subst hA'
        have CS : Hid (∀ W, Below w.heap.size w W → Calls Tryd.prog 18 #[v.v, u.v] W (Ret (.bool (sameS s t)) W)) := fun W hW => same18 v u s t W (hR.below hW) (hR'.below hW)
        obtain ⟨f, p, z, ⟨n, A1, m1, ca⟩, ⟨n', A2, m', cb⟩, sw⟩ := v
        obtain ⟨f2, p2, z2, ⟨n2, A12, m12, ca2⟩, ⟨n2', A22, m2', cb2⟩, sw2⟩ := u
        unfold SpanV.v at CS
        simp only at c0 c1 c2 c3 c4 c5 c6 c7 d0 d1 d2 d3 d4 d5 d6 d7 CS
        clear hR hR' hvi hvk
        have HS := Lib.hid hs
        have HTT := Lib.hid ht
        clear hs ht
        have X0 := Lib.hid (cell_later HBr.out c0)
        have X1 := Lib.hid (cell_later HBr.out c1)
        have X2 := Lib.hid (cell_later HBr.out c2)
        have X3 := Lib.hid (cell_later HBr.out c3)
        have X4 := Lib.hid (cell_later HBr.out c4)
        have X5 := Lib.hid (cell_later HBr.out c5)
        have X6 := Lib.hid (cell_later HBr.out c6)
        have X7 := Lib.hid (cell_later HBr.out c7)
        have Y0 := Lib.hid (cell_later HBr.out d0)
        have Y1 := Lib.hid (cell_later HBr.out d1)
        have Y2 := Lib.hid (cell_later HBr.out d2)
        have Y3 := Lib.hid (cell_later HBr.out d3)
        have Y4 := Lib.hid (cell_later HBr.out d4)
        have Y5 := Lib.hid (cell_later HBr.out d5)
        have Y6 := Lib.hid (cell_later HBr.out d6)
        have Y7 := Lib.hid (cell_later HBr.out d7)
        clear c0 c1 c2 c3 c4 c5 c6 c7 d0 d1 d2 d3 d4 d5 d6 d7
        by_cases hst : s = t
        · rw [show sameS s t = true from sameS_iff.2 hst] at CS
          have HST := Lib.hid hst
          clear hst
          go_wp2
          refine region_up (by kernel_rfl) (by kernel_rfl) ?_
          iterate 8
            go_big_quiet_want
            apply Exists.intro
            refine ⟨fun W hW => ?_, ?_⟩
            · have g0 := cell_later hW X0.out
              have g1 := cell_later hW X1.out
              have g2 := cell_later hW X2.out
              have g3 := cell_later hW X3.out
              have g4 := cell_later hW X4.out
              have g5 := cell_later hW X5.out
              have g6 := cell_later hW X6.out
              have g7 := cell_later hW X7.out
              have g8 := cell_later hW Y0.out
              have g9 := cell_later hW Y1.out
              have g10 := cell_later hW Y2.out
              have g11 := cell_later hW Y3.out
              have g12 := cell_later hW Y4.out
              have g13 := cell_later hW Y5.out
              have g14 := cell_later hW Y6.out
              have g15 := cell_later hW Y7.out
              go_simp
              all_goals exact rfl
            simp only [Act.put, List.setIfInBounds_toArray, List.set_cons_succ, List.set_cons_zero]
            go_big_quiet_on
          go_big_quiet_want
          apply Exists.intro
          refine ⟨fun W hW => ?_, ?_⟩
          · have g0 := cell_later hW X0.out
            have g1 := cell_later hW X1.out
            have g2 := cell_later hW X2.out
            have g3 := cell_later hW X3.out
            have g4 := cell_later hW X4.out
            have g5 := cell_later hW X5.out
            have g6 := cell_later hW X6.out
            have g7 := cell_later hW X7.out
            have g8 := cell_later hW Y0.out
            have g9 := cell_later hW Y1.out
            have g10 := cell_later hW Y2.out
            have g11 := cell_later hW Y3.out
            have g12 := cell_later hW Y4.out
            have g13 := cell_later hW Y5.out
            have g14 := cell_later hW Y6.out
            have g15 := cell_later hW Y7.out
            go_simp
            exact call_up hW (CS.out W (bthen HBr.out hW))
          simp only [Act.put, List.setIfInBounds_toArray, List.set_cons_succ, List.set_cons_zero]
          go_big_quiet_on
          go_big_quiet_want
          apply Exists.intro
          refine ⟨fun W hW => ?_, ?_⟩
          · have g0 := cell_later hW X0.out
            have g1 := cell_later hW X1.out
            have g2 := cell_later hW X2.out
            have g3 := cell_later hW X3.out
            have g4 := cell_later hW X4.out
            have g5 := cell_later hW X5.out
            have g6 := cell_later hW X6.out
            have g7 := cell_later hW X7.out
            have g8 := cell_later hW Y0.out
            have g9 := cell_later hW Y1.out
            have g10 := cell_later hW Y2.out
            have g11 := cell_later hW Y3.out
            have g12 := cell_later hW Y4.out
            have g13 := cell_later hW Y5.out
            have g14 := cell_later hW Y6.out
            have g15 := cell_later hW Y7.out
            go_simp
            all_goals exact rfl
          simp only [Act.put, List.setIfInBounds_toArray, List.set_cons_succ, List.set_cons_zero]
          go_big_quiet_on
          refine wpQuiet_nil ?_
          intro W hW
          have HBW := Lib.hid (bthen HBr.out hW)
          clear hW
          go_wp2
          go_roundw
          case rel => exact ⟨k + 1, by omega, by go_num, takeS_succ HT.out HS.out HTT.out HST.out, HBW.out⟩
          case measure => simp [intOf]; omega
        · rw [show sameS s t = false from by rw [← Bool.not_eq_true, sameS_iff]; exact hst] at CS
          have HST := Lib.hid (neS_at HS.out HTT.out hst)
          clear hst
          go_wp2
          refine region_up (by kernel_rfl) (by kernel_rfl) ?_
          iterate 8
            go_big_quiet_want
            apply Exists.intro
            refine ⟨fun W hW => ?_, ?_⟩
            · have g0 := cell_later hW X0.out
              have g1 := cell_later hW X1.out
              have g2 := cell_later hW X2.out
              have g3 := cell_later hW X3.out
              have g4 := cell_later hW X4.out
              have g5 := cell_later hW X5.out
              have g6 := cell_later hW X6.out
              have g7 := cell_later hW X7.out
              have g8 := cell_later hW Y0.out
              have g9 := cell_later hW Y1.out
              have g10 := cell_later hW Y2.out
              have g11 := cell_later hW Y3.out
              have g12 := cell_later hW Y4.out
              have g13 := cell_later hW Y5.out
              have g14 := cell_later hW Y6.out
              have g15 := cell_later hW Y7.out
              go_simp
              all_goals exact rfl
            simp only [Act.put, List.setIfInBounds_toArray, List.set_cons_succ, List.set_cons_zero]
            go_big_quiet_on
          go_big_quiet_want
          apply Exists.intro
          refine ⟨fun W hW => ?_, ?_⟩
          · have g0 := cell_later hW X0.out
            have g1 := cell_later hW X1.out
            have g2 := cell_later hW X2.out
            have g3 := cell_later hW X3.out
            have g4 := cell_later hW X4.out
            have g5 := cell_later hW X5.out
            have g6 := cell_later hW X6.out
            have g7 := cell_later hW X7.out
            have g8 := cell_later hW Y0.out
            have g9 := cell_later hW Y1.out
            have g10 := cell_later hW Y2.out
            have g11 := cell_later hW Y3.out
            have g12 := cell_later hW Y4.out
            have g13 := cell_later hW Y5.out
            have g14 := cell_later hW Y6.out
            have g15 := cell_later hW Y7.out
            go_simp
            exact call_up hW (CS.out W (bthen HBr.out hW))
          simp only [Act.put, List.setIfInBounds_toArray, List.set_cons_succ, List.set_cons_zero]
          go_big_quiet_on
          go_big_quiet_want
          apply Exists.intro
          refine ⟨fun W hW => ?_, ?_⟩
          · have g0 := cell_later hW X0.out
            have g1 := cell_later hW X1.out
            have g2 := cell_later hW X2.out
            have g3 := cell_later hW X3.out
            have g4 := cell_later hW X4.out
            have g5 := cell_later hW X5.out
            have g6 := cell_later hW X6.out
            have g7 := cell_later hW X7.out
            have g8 := cell_later hW Y0.out
            have g9 := cell_later hW Y1.out
            have g10 := cell_later hW Y2.out
            have g11 := cell_later hW Y3.out
            have g12 := cell_later hW Y4.out
            have g13 := cell_later hW Y5.out
            have g14 := cell_later hW Y6.out
            have g15 := cell_later hW Y7.out
            go_simp
            all_goals exact rfl
          simp only [Act.put, List.setIfInBounds_toArray, List.set_cons_succ, List.set_cons_zero]
          go_big_quiet_on
          refine wpQuiet_nil ?_
          intro W hW
          have HBW := Lib.hid (bthen HBr.out hW)
          clear hW
          go_wp2
          go_ret
          rw [decide_eq_false HST.out]
          exact ⟨rfl, HBW.out⟩
      · have hkl : k = l.length := by omega
        subst hkl
        go_wp2
        go_ret
        rw [decide_eq_true (show l = m from by have := HT.out; rwa [List.take_length, ← HM.out, List.take_length] at this)]
        exact ⟨rfl, HBr.out⟩
  · have E : Hid (decide (l = m) = false) := by show _ = _; exact decide_eq_false (fun e => h (by rw [e]))
    have e2 : (l.length != m.length) = true := by rw [bne_iff_ne]; omega
    have e3 : (((l.length : Nat) : Int) != ((m.length : Nat) : Int)) = true := by rw [bne_iff_ne]; omega
    clear h
    go_enter Tryd.func30, Tryd.ntmps30
    go_wp2
    go_ret
    rw [E.out]
    exact ⟨rfl, Below.refl _ _⟩
end Go.Proofs.YtchbbldanmmpjaaDoor
