/- The walks of span.Check and of the reference's. -/
import Derived.Test.YtchbbldanmmpjaaDoorSE
namespace Go.Proofs.YtchbbldanmmpjaaDoor
open Go.RowKit
set_option linter.unusedVariables false
set_option linter.unusedSimpArgs false

theorem atOk_first {l : List SpanB} {s : SpanB} (hs : l[0]? = some s) : atOk l 0 = rightP s := by simp [atOk, hs]
theorem atOk_next {l : List SpanB} {j : Nat} {p s : SpanB} (hp : l[j]? = some p) (hs : l[j + 1]? = some s) : atOk l (j + 1) = (rightP s && decide (endP p ≤ s.first)) := by simp [atOk, hp, hs]
theorem atOk_bad {l : List SpanB} {k : Nat} {s : SpanB} (hs : l[k]? = some s) (h : rightP s = false) : atOk l k = false := by simp [atOk, hs, h]
theorem atOk_right {l : List SpanB} {k : Nat} {s : SpanB} (hs : l[k]? = some s) (h : atOk l k = true) : rightP s = true := by
  unfold atOk at h
  rw [hs] at h
  simp only [Bool.and_eq_true] at h
  exact h.1

theorem wrap_in {x : Int} (h : -9223372036854775808 ≤ x ∧ x ≤ 9223372036854775807) : IntKind.i64.wrap x = x := by rw [IntKind.wrap_i64]; omega
set_option maxRecDepth 100000 in
set_option maxHeartbeats 8000000 in
theorem check19 (A : Option Addr) (c : Nat) (vs : List SpanV) (l : List SpanB) (w : World) (h : RdL w A vs l) : Calls Tryd.prog 19 #[.slice A l.length c] w (Ret (.int .i64 (chkE l)) w) := by
  have hl := h.len
  have H := Lib.hid h
  clear h
  by_cases hb : l.length ≤ 256
  · go_enter Tryd.func19, Tryd.ntmps19
    go_wp2
    have E : Hid (∀ b, okTo l l.length = b → chkE l = if b then 0 else 2) := by
      intro b hb'
      rw [chkE, okL, decide_eq_true hb, hb', Bool.true_and]
    obtain ⟨wo, hwo⟩ : ∃ wo : World, wo = w := ⟨w, rfl⟩
    go_loopw [10] (fun i wr => ∃ k : Nat, k ≤ l.length ∧ i = .int .i64 k ∧ Hid (okTo l k = true) ∧ Hid (Below w.heap.size w wr)) (fun i _ => l.length - (intOf i).toNat)
    case atStart => exact ⟨0, Nat.zero_le _, rfl, rfl, Below.refl _ _⟩
    case round =>
      obtain ⟨k, hk, rfl, HT, HBr⟩ := hrel
      by_cases hlt : k < l.length
      · have hs : l[k]? = some l[k] := List.getElem?_eq_getElem hlt
        generalize l[k] = s at hs
        obtain ⟨v, bk, o, hv, hR, hA, hbk, c0, c1, c2, c3, c4, c5, c6, c7⟩ := H.out.at_ hs
        have CR : Hid (∀ W, Below w.heap.size w W → Calls Tryd.prog 38 #[v.v] W (Ret (.bool (rightP s)) W)) := fun W hW => right38 v s W (hR.below hW)
        have hR1 := hR.first
        obtain ⟨f, p, z, ⟨n, A1, m, ca⟩, ⟨n', A2, m', cb⟩, sw⟩ := v
        unfold SpanV.v at CR
        simp only at c0 c1 c2 c3 c4 c5 c6 c7 hR1 CR
        subst hR1
        subst hA
        clear hR
        have HV := Lib.hid hv
        have HSS := Lib.hid hs
        clear hv hs
        replace c0 := cell_later HBr.out c0
        replace c1 := cell_later HBr.out c1
        replace c2 := cell_later HBr.out c2
        replace c3 := cell_later HBr.out c3
        replace c4 := cell_later HBr.out c4
        replace c5 := cell_later HBr.out c5
        replace c6 := cell_later HBr.out c6
        replace c7 := cell_later HBr.out c7
        go_wp2
        have HB1 := Lib.hid (balloc HBr.out (.cells #[.int .i64 s.first, .int .i64 p, .int .i64 z, .int .i64 n, .slice A1 m ca, .int .i64 n', .slice A2 m' cb, .bool sw] 26))
        have K0 : Hid ((wr.alloc (.cells #[.int .i64 s.first, .int .i64 p, .int .i64 z, .int .i64 n, .slice A1 m ca, .int .i64 n', .slice A2 m' cb, .bool sw] 26)).cell? ⟨wr.heap.size, 0, none⟩ = some (.int .i64 s.first)) := by show _ = _; go_simp
        have K1 : Hid ((wr.alloc (.cells #[.int .i64 s.first, .int .i64 p, .int .i64 z, .int .i64 n, .slice A1 m ca, .int .i64 n', .slice A2 m' cb, .bool sw] 26)).cell? ⟨wr.heap.size, 1, none⟩ = some (.int .i64 p)) := by show _ = _; go_simp
        have K2 : Hid ((wr.alloc (.cells #[.int .i64 s.first, .int .i64 p, .int .i64 z, .int .i64 n, .slice A1 m ca, .int .i64 n', .slice A2 m' cb, .bool sw] 26)).cell? ⟨wr.heap.size, 2, none⟩ = some (.int .i64 z)) := by show _ = _; go_simp
        have K3 : Hid ((wr.alloc (.cells #[.int .i64 s.first, .int .i64 p, .int .i64 z, .int .i64 n, .slice A1 m ca, .int .i64 n', .slice A2 m' cb, .bool sw] 26)).cell? ⟨wr.heap.size, 3, none⟩ = some (.int .i64 n)) := by show _ = _; go_simp
        have K4 : Hid ((wr.alloc (.cells #[.int .i64 s.first, .int .i64 p, .int .i64 z, .int .i64 n, .slice A1 m ca, .int .i64 n', .slice A2 m' cb, .bool sw] 26)).cell? ⟨wr.heap.size, 4, none⟩ = some (.slice A1 m ca)) := by show _ = _; go_simp
        have K5 : Hid ((wr.alloc (.cells #[.int .i64 s.first, .int .i64 p, .int .i64 z, .int .i64 n, .slice A1 m ca, .int .i64 n', .slice A2 m' cb, .bool sw] 26)).cell? ⟨wr.heap.size, 5, none⟩ = some (.int .i64 n')) := by show _ = _; go_simp
        have K6 : Hid ((wr.alloc (.cells #[.int .i64 s.first, .int .i64 p, .int .i64 z, .int .i64 n, .slice A1 m ca, .int .i64 n', .slice A2 m' cb, .bool sw] 26)).cell? ⟨wr.heap.size, 6, none⟩ = some (.slice A2 m' cb)) := by show _ = _; go_simp
        have K7 : Hid ((wr.alloc (.cells #[.int .i64 s.first, .int .i64 p, .int .i64 z, .int .i64 n, .slice A1 m ca, .int .i64 n', .slice A2 m' cb, .bool sw] 26)).cell? ⟨wr.heap.size, 7, none⟩ = some (.bool sw)) := by show _ = _; go_simp
        clear c0 c1 c2 c3 c4 c5 c6 c7
        generalize wr.alloc (.cells #[.int .i64 s.first, .int .i64 p, .int .i64 z, .int .i64 n, .slice A1 m ca, .int .i64 n', .slice A2 m' cb, .bool sw] 26) = W1 at *
        by_cases hr : rightP s = true
        · rw [hr] at CR
          have HRR := Lib.hid hr
          clear hr
          rcases k with _ | j
          · skip
            refine region_up (by kernel_rfl) (by kernel_rfl) ?_
            go_big_quiet_want
            apply Exists.intro
            refine ⟨fun W hW => ?_, ?_⟩
            · have g0 := cell_later hW K0.out
              have g1 := cell_later hW K1.out
              have g2 := cell_later hW K2.out
              have g3 := cell_later hW K3.out
              have g4 := cell_later hW K4.out
              have g5 := cell_later hW K5.out
              have g6 := cell_later hW K6.out
              have g7 := cell_later hW K7.out
              go_simp
              all_goals exact rfl
            simp only [Act.put, List.setIfInBounds_toArray, List.set_cons_succ, List.set_cons_zero]
            go_big_quiet_on
            go_big_quiet_want
            apply Exists.intro
            refine ⟨fun W hW => ?_, ?_⟩
            · have g0 := cell_later hW K0.out
              have g1 := cell_later hW K1.out
              have g2 := cell_later hW K2.out
              have g3 := cell_later hW K3.out
              have g4 := cell_later hW K4.out
              have g5 := cell_later hW K5.out
              have g6 := cell_later hW K6.out
              have g7 := cell_later hW K7.out
              go_simp
              exact call_up hW (CR.out W (bthen HB1.out hW))
            simp only [Act.put, List.setIfInBounds_toArray, List.set_cons_succ, List.set_cons_zero]
            go_big_quiet_on
            iterate 5
              go_big_quiet_want
              apply Exists.intro
              refine ⟨fun W hW => ?_, ?_⟩
              · have g0 := cell_later hW K0.out
                have g1 := cell_later hW K1.out
                have g2 := cell_later hW K2.out
                have g3 := cell_later hW K3.out
                have g4 := cell_later hW K4.out
                have g5 := cell_later hW K5.out
                have g6 := cell_later hW K6.out
                have g7 := cell_later hW K7.out
                go_simp
                all_goals exact rfl
              simp only [Act.put, List.setIfInBounds_toArray, List.set_cons_succ, List.set_cons_zero]
              go_big_quiet_on
            iterate 9 go_big_quiet_skip
            iterate 2
              go_big_quiet_want
              apply Exists.intro
              refine ⟨fun W hW => ?_, ?_⟩
              · have g0 := cell_later hW K0.out
                have g1 := cell_later hW K1.out
                have g2 := cell_later hW K2.out
                have g3 := cell_later hW K3.out
                have g4 := cell_later hW K4.out
                have g5 := cell_later hW K5.out
                have g6 := cell_later hW K6.out
                have g7 := cell_later hW K7.out
                go_simp
                all_goals exact rfl
              simp only [Act.put, List.setIfInBounds_toArray, List.set_cons_succ, List.set_cons_zero]
              go_big_quiet_on
            refine wpQuiet_nil ?_
            intro W hW
            have HBW := Lib.hid (bthen HB1.out hW)
            clear hW
            go_wp2
            go_roundw
            case rel => exact ⟨1, by omega, by go_num, (by show _ = _; rw [okTo_succ, HT.out, atOk_first HSS.out, HRR.out]; rfl), HBW.out⟩
            case measure => simp [intOf]; omega
          · have hj : j < l.length := by omega
            have hsp : l[j]? = some l[j] := List.getElem?_eq_getElem hj
            generalize l[j] = sp at hsp
            obtain ⟨vp, bk', o', hvp, hRp, hA', hbk', d0, d1, d2, d3, d4, d5, d6, d7⟩ := H.out.at_ hsp
            cases hA'
            have hrp := atOk_right hsp (okTo_at HT.out (Nat.lt_succ_self j))
            have hend := right_end hrp
            have CP : Hid (∀ W, Calls Tryd.prog 46 #[vp.v] W (Ret (.int .i64 (endP sp)) W)) := fun W => by
              have := end46 vp W
              rwa [hRp.first, hRp.pages, hend.1] at this
            have q1 : 1 ≤ sp.first + sp.pages := hend.2.1
            have q2 : sp.first + sp.pages ≤ 1024 := hend.2.2
            have hR1 := hRp.first
            have hR2 := hRp.pages
            obtain ⟨fp, pp, zp, ⟨np, A1p, mp, cap⟩, ⟨np', A2p, mp', cbp⟩, swp⟩ := vp
            unfold SpanV.v at CP
            simp only at d0 d1 d2 d3 d4 d5 d6 d7 hR1 hR2 CP
            subst hR1
            subst hR2
            have HSP := Lib.hid hsp
            clear hRp hrp hvp hsp hend
            have L0 := Lib.hid (cell_later HB1.out d0)
            have L1 := Lib.hid (cell_later HB1.out d1)
            have L2 := Lib.hid (cell_later HB1.out d2)
            have L3 := Lib.hid (cell_later HB1.out d3)
            have L4 := Lib.hid (cell_later HB1.out d4)
            have L5 := Lib.hid (cell_later HB1.out d5)
            have L6 := Lib.hid (cell_later HB1.out d6)
            have L7 := Lib.hid (cell_later HB1.out d7)
            clear d0 d1 d2 d3 d4 d5 d6 d7
            by_cases hle : sp.first + sp.pages ≤ s.first
            · have q3 : ¬ s.first < sp.first + sp.pages := by omega
              have q4 : Hid (endP sp ≤ s.first) := hle
              have hw1 := wrap_in (x := (j : Int)) (by omega)
              have hw2 := wrap_in (x := sp.first + sp.pages) (by omega)
              unfold endP at CP
              refine region_up (by kernel_rfl) (by kernel_rfl) ?_
              go_big_quiet_want
              apply Exists.intro
              refine ⟨fun W hW => ?_, ?_⟩
              · have g0 := cell_later hW K0.out
                have g1 := cell_later hW K1.out
                have g2 := cell_later hW K2.out
                have g3 := cell_later hW K3.out
                have g4 := cell_later hW K4.out
                have g5 := cell_later hW K5.out
                have g6 := cell_later hW K6.out
                have g7 := cell_later hW K7.out
                have g8 := cell_later hW L0.out
                have g9 := cell_later hW L1.out
                have g10 := cell_later hW L2.out
                have g11 := cell_later hW L3.out
                have g12 := cell_later hW L4.out
                have g13 := cell_later hW L5.out
                have g14 := cell_later hW L6.out
                have g15 := cell_later hW L7.out
                go_simp
                all_goals exact rfl
              simp only [Act.put, List.setIfInBounds_toArray, List.set_cons_succ, List.set_cons_zero]
              go_big_quiet_on
              go_big_quiet_want
              apply Exists.intro
              refine ⟨fun W hW => ?_, ?_⟩
              · have g0 := cell_later hW K0.out
                have g1 := cell_later hW K1.out
                have g2 := cell_later hW K2.out
                have g3 := cell_later hW K3.out
                have g4 := cell_later hW K4.out
                have g5 := cell_later hW K5.out
                have g6 := cell_later hW K6.out
                have g7 := cell_later hW K7.out
                have g8 := cell_later hW L0.out
                have g9 := cell_later hW L1.out
                have g10 := cell_later hW L2.out
                have g11 := cell_later hW L3.out
                have g12 := cell_later hW L4.out
                have g13 := cell_later hW L5.out
                have g14 := cell_later hW L6.out
                have g15 := cell_later hW L7.out
                go_simp
                exact call_up hW (CR.out W (bthen HB1.out hW))
              simp only [Act.put, List.setIfInBounds_toArray, List.set_cons_succ, List.set_cons_zero]
              go_big_quiet_on
              iterate 10
                go_big_quiet_want
                apply Exists.intro
                refine ⟨fun W hW => ?_, ?_⟩
                · have g0 := cell_later hW K0.out
                  have g1 := cell_later hW K1.out
                  have g2 := cell_later hW K2.out
                  have g3 := cell_later hW K3.out
                  have g4 := cell_later hW K4.out
                  have g5 := cell_later hW K5.out
                  have g6 := cell_later hW K6.out
                  have g7 := cell_later hW K7.out
                  have g8 := cell_later hW L0.out
                  have g9 := cell_later hW L1.out
                  have g10 := cell_later hW L2.out
                  have g11 := cell_later hW L3.out
                  have g12 := cell_later hW L4.out
                  have g13 := cell_later hW L5.out
                  have g14 := cell_later hW L6.out
                  have g15 := cell_later hW L7.out
                  go_simp
                  all_goals exact rfl
                simp only [Act.put, List.setIfInBounds_toArray, List.set_cons_succ, List.set_cons_zero]
                go_big_quiet_on
              go_big_quiet_want
              apply Exists.intro
              refine ⟨fun W hW => ?_, ?_⟩
              · have g0 := cell_later hW K0.out
                have g1 := cell_later hW K1.out
                have g2 := cell_later hW K2.out
                have g3 := cell_later hW K3.out
                have g4 := cell_later hW K4.out
                have g5 := cell_later hW K5.out
                have g6 := cell_later hW K6.out
                have g7 := cell_later hW K7.out
                have g8 := cell_later hW L0.out
                have g9 := cell_later hW L1.out
                have g10 := cell_later hW L2.out
                have g11 := cell_later hW L3.out
                have g12 := cell_later hW L4.out
                have g13 := cell_later hW L5.out
                have g14 := cell_later hW L6.out
                have g15 := cell_later hW L7.out
                go_simp
                exact call_up hW (CP.out W)
              simp only [Act.put, List.setIfInBounds_toArray, List.set_cons_succ, List.set_cons_zero]
              go_big_quiet_on
              iterate 5
                go_big_quiet_want
                apply Exists.intro
                refine ⟨fun W hW => ?_, ?_⟩
                · have g0 := cell_later hW K0.out
                  have g1 := cell_later hW K1.out
                  have g2 := cell_later hW K2.out
                  have g3 := cell_later hW K3.out
                  have g4 := cell_later hW K4.out
                  have g5 := cell_later hW K5.out
                  have g6 := cell_later hW K6.out
                  have g7 := cell_later hW K7.out
                  have g8 := cell_later hW L0.out
                  have g9 := cell_later hW L1.out
                  have g10 := cell_later hW L2.out
                  have g11 := cell_later hW L3.out
                  have g12 := cell_later hW L4.out
                  have g13 := cell_later hW L5.out
                  have g14 := cell_later hW L6.out
                  have g15 := cell_later hW L7.out
                  go_simp
                  all_goals exact rfl
                simp only [Act.put, List.setIfInBounds_toArray, List.set_cons_succ, List.set_cons_zero]
                go_big_quiet_on
              refine wpQuiet_nil ?_
              intro W hW
              clear hw1 hw2
              have HBW := Lib.hid (bthen HB1.out hW)
              clear hW
              go_wp2
              go_roundw
              case rel => exact ⟨j + 1 + 1, by omega, by go_num, (by show _ = _; rw [okTo_succ, HT.out, atOk_next HSP.out HSS.out, HRR.out, decide_eq_true q4.out]; rfl), HBW.out⟩
              case measure => simp [intOf]; omega
            · have q3 : s.first < sp.first + sp.pages := by omega
              have q4 : Hid (¬ endP sp ≤ s.first) := by show ¬ _; unfold endP; omega
              have hno := okTo_no hlt (by rw [atOk_next HSP.out HSS.out, decide_eq_false q4.out, Bool.and_false])
              have E := Lib.hid (E.out _ hno)
              clear hno
              have hw1 := wrap_in (x := (j : Int)) (by omega)
              have hw2 := wrap_in (x := sp.first + sp.pages) (by omega)
              unfold endP at CP
              refine region_up (by kernel_rfl) (by kernel_rfl) ?_
              go_big_quiet_want
              apply Exists.intro
              refine ⟨fun W hW => ?_, ?_⟩
              · have g0 := cell_later hW K0.out
                have g1 := cell_later hW K1.out
                have g2 := cell_later hW K2.out
                have g3 := cell_later hW K3.out
                have g4 := cell_later hW K4.out
                have g5 := cell_later hW K5.out
                have g6 := cell_later hW K6.out
                have g7 := cell_later hW K7.out
                have g8 := cell_later hW L0.out
                have g9 := cell_later hW L1.out
                have g10 := cell_later hW L2.out
                have g11 := cell_later hW L3.out
                have g12 := cell_later hW L4.out
                have g13 := cell_later hW L5.out
                have g14 := cell_later hW L6.out
                have g15 := cell_later hW L7.out
                go_simp
                all_goals exact rfl
              simp only [Act.put, List.setIfInBounds_toArray, List.set_cons_succ, List.set_cons_zero]
              go_big_quiet_on
              go_big_quiet_want
              apply Exists.intro
              refine ⟨fun W hW => ?_, ?_⟩
              · have g0 := cell_later hW K0.out
                have g1 := cell_later hW K1.out
                have g2 := cell_later hW K2.out
                have g3 := cell_later hW K3.out
                have g4 := cell_later hW K4.out
                have g5 := cell_later hW K5.out
                have g6 := cell_later hW K6.out
                have g7 := cell_later hW K7.out
                have g8 := cell_later hW L0.out
                have g9 := cell_later hW L1.out
                have g10 := cell_later hW L2.out
                have g11 := cell_later hW L3.out
                have g12 := cell_later hW L4.out
                have g13 := cell_later hW L5.out
                have g14 := cell_later hW L6.out
                have g15 := cell_later hW L7.out
                go_simp
                exact call_up hW (CR.out W (bthen HB1.out hW))
              simp only [Act.put, List.setIfInBounds_toArray, List.set_cons_succ, List.set_cons_zero]
              go_big_quiet_on
              iterate 10
                go_big_quiet_want
                apply Exists.intro
                refine ⟨fun W hW => ?_, ?_⟩
                · have g0 := cell_later hW K0.out
                  have g1 := cell_later hW K1.out
                  have g2 := cell_later hW K2.out
                  have g3 := cell_later hW K3.out
                  have g4 := cell_later hW K4.out
                  have g5 := cell_later hW K5.out
                  have g6 := cell_later hW K6.out
                  have g7 := cell_later hW K7.out
                  have g8 := cell_later hW L0.out
                  have g9 := cell_later hW L1.out
                  have g10 := cell_later hW L2.out
                  have g11 := cell_later hW L3.out
                  have g12 := cell_later hW L4.out
                  have g13 := cell_later hW L5.out
                  have g14 := cell_later hW L6.out
                  have g15 := cell_later hW L7.out
                  go_simp
                  all_goals exact rfl
                simp only [Act.put, List.setIfInBounds_toArray, List.set_cons_succ, List.set_cons_zero]
                go_big_quiet_on
              go_big_quiet_want
              apply Exists.intro
              refine ⟨fun W hW => ?_, ?_⟩
              · have g0 := cell_later hW K0.out
                have g1 := cell_later hW K1.out
                have g2 := cell_later hW K2.out
                have g3 := cell_later hW K3.out
                have g4 := cell_later hW K4.out
                have g5 := cell_later hW K5.out
                have g6 := cell_later hW K6.out
                have g7 := cell_later hW K7.out
                have g8 := cell_later hW L0.out
                have g9 := cell_later hW L1.out
                have g10 := cell_later hW L2.out
                have g11 := cell_later hW L3.out
                have g12 := cell_later hW L4.out
                have g13 := cell_later hW L5.out
                have g14 := cell_later hW L6.out
                have g15 := cell_later hW L7.out
                go_simp
                exact call_up hW (CP.out W)
              simp only [Act.put, List.setIfInBounds_toArray, List.set_cons_succ, List.set_cons_zero]
              go_big_quiet_on
              iterate 5
                go_big_quiet_want
                apply Exists.intro
                refine ⟨fun W hW => ?_, ?_⟩
                · have g0 := cell_later hW K0.out
                  have g1 := cell_later hW K1.out
                  have g2 := cell_later hW K2.out
                  have g3 := cell_later hW K3.out
                  have g4 := cell_later hW K4.out
                  have g5 := cell_later hW K5.out
                  have g6 := cell_later hW K6.out
                  have g7 := cell_later hW K7.out
                  have g8 := cell_later hW L0.out
                  have g9 := cell_later hW L1.out
                  have g10 := cell_later hW L2.out
                  have g11 := cell_later hW L3.out
                  have g12 := cell_later hW L4.out
                  have g13 := cell_later hW L5.out
                  have g14 := cell_later hW L6.out
                  have g15 := cell_later hW L7.out
                  go_simp
                  all_goals exact rfl
                simp only [Act.put, List.setIfInBounds_toArray, List.set_cons_succ, List.set_cons_zero]
                go_big_quiet_on
              refine wpQuiet_nil ?_
              intro W hW
              clear hw1 hw2
              have HBW := Lib.hid (bthen HB1.out hW)
              clear hW
              go_wp2
              go_ret
              rw [E.out]
              exact ⟨rfl, HBW.out⟩
        · have hr : rightP s = false := by simpa using hr
          rw [hr] at CR
          have E := Lib.hid (E.out _ (okTo_no hlt (atOk_bad HSS.out hr)))
          clear hr
          refine region_up (by kernel_rfl) (by kernel_rfl) ?_
          go_big_quiet_want
          apply Exists.intro
          refine ⟨fun W hW => ?_, ?_⟩
          · have g0 := cell_later hW K0.out
            have g1 := cell_later hW K1.out
            have g2 := cell_later hW K2.out
            have g3 := cell_later hW K3.out
            have g4 := cell_later hW K4.out
            have g5 := cell_later hW K5.out
            have g6 := cell_later hW K6.out
            have g7 := cell_later hW K7.out
            go_simp
            all_goals exact rfl
          simp only [Act.put, List.setIfInBounds_toArray, List.set_cons_succ, List.set_cons_zero]
          go_big_quiet_on
          go_big_quiet_want
          apply Exists.intro
          refine ⟨fun W hW => ?_, ?_⟩
          · have g0 := cell_later hW K0.out
            have g1 := cell_later hW K1.out
            have g2 := cell_later hW K2.out
            have g3 := cell_later hW K3.out
            have g4 := cell_later hW K4.out
            have g5 := cell_later hW K5.out
            have g6 := cell_later hW K6.out
            have g7 := cell_later hW K7.out
            go_simp
            exact call_up hW (CR.out W (bthen HB1.out hW))
          simp only [Act.put, List.setIfInBounds_toArray, List.set_cons_succ, List.set_cons_zero]
          go_big_quiet_on
          iterate 2
            go_big_quiet_want
            apply Exists.intro
            refine ⟨fun W hW => ?_, ?_⟩
            · have g0 := cell_later hW K0.out
              have g1 := cell_later hW K1.out
              have g2 := cell_later hW K2.out
              have g3 := cell_later hW K3.out
              have g4 := cell_later hW K4.out
              have g5 := cell_later hW K5.out
              have g6 := cell_later hW K6.out
              have g7 := cell_later hW K7.out
              go_simp
              all_goals exact rfl
            simp only [Act.put, List.setIfInBounds_toArray, List.set_cons_succ, List.set_cons_zero]
            go_big_quiet_on
          iterate 13 go_big_quiet_skip
          go_big_quiet_want
          apply Exists.intro
          refine ⟨fun W hW => ?_, ?_⟩
          · have g0 := cell_later hW K0.out
            have g1 := cell_later hW K1.out
            have g2 := cell_later hW K2.out
            have g3 := cell_later hW K3.out
            have g4 := cell_later hW K4.out
            have g5 := cell_later hW K5.out
            have g6 := cell_later hW K6.out
            have g7 := cell_later hW K7.out
            go_simp
            all_goals exact rfl
          simp only [Act.put, List.setIfInBounds_toArray, List.set_cons_succ, List.set_cons_zero]
          go_big_quiet_on
          refine wpQuiet_nil ?_
          intro W hW
          have HBW := Lib.hid (bthen HB1.out hW)
          clear hW
          go_wp2
          go_ret
          rw [E.out]
          exact ⟨rfl, HBW.out⟩
      · obtain rfl : k = l.length := by omega
        have E := Lib.hid (E.out _ HT.out)
        go_wp2
        go_ret
        rw [E.out]
        exact ⟨rfl, HBr.out⟩
  · have E : Hid (chkE l = 2) := by show _ = _; rw [chkE, okL, decide_eq_false hb, Bool.false_and]; rfl
    have hb : 256 < l.length := by omega
    go_enter Tryd.func19, Tryd.ntmps19
    go_wp2
    go_ret
    rw [E.out]
    exact ⟨rfl, Below.refl _ _⟩
set_option maxRecDepth 100000 in
set_option maxHeartbeats 8000000 in
theorem check20 (A : Option Addr) (c : Nat) (vs : List SpanV) (l : List SpanB) (w : World) (h : RdL w A vs l) : Calls Tryd.prog 20 #[.slice A l.length c] w (Ret (.int .i64 (chkE l)) w) := by
  have hl := h.len
  have H := Lib.hid h
  clear h
  by_cases hb : l.length ≤ 256
  · go_enter Tryd.func20, Tryd.ntmps20
    go_wp2
    have E : Hid (∀ b, okTo l l.length = b → chkE l = if b then 0 else 2) := by
      intro b hb'
      rw [chkE, okL, decide_eq_true hb, hb', Bool.true_and]
    obtain ⟨wo, hwo⟩ : ∃ wo : World, wo = w := ⟨w, rfl⟩
    go_loopw [10] (fun i wr => ∃ k : Nat, k ≤ l.length ∧ i = .int .i64 k ∧ Hid (okTo l k = true) ∧ Hid (Below w.heap.size w wr)) (fun i _ => l.length - (intOf i).toNat)
    case atStart => exact ⟨0, Nat.zero_le _, rfl, rfl, Below.refl _ _⟩
    case round =>
      obtain ⟨k, hk, rfl, HT, HBr⟩ := hrel
      by_cases hlt : k < l.length
      · have hs : l[k]? = some l[k] := List.getElem?_eq_getElem hlt
        generalize l[k] = s at hs
        obtain ⟨v, bk, o, hv, hR, hA, hbk, c0, c1, c2, c3, c4, c5, c6, c7⟩ := H.out.at_ hs
        have CR : Hid (∀ W, Below w.heap.size w W → Calls Tryd.prog 41 #[v.v] W (Ret (.bool (rightP s)) W)) := fun W hW => right41' v s W (hR.below hW)
        have hR1 := hR.first
        obtain ⟨f, p, z, ⟨n, A1, m, ca⟩, ⟨n', A2, m', cb⟩, sw⟩ := v
        unfold SpanV.v at CR
        simp only at c0 c1 c2 c3 c4 c5 c6 c7 hR1 CR
        subst hR1
        subst hA
        clear hR
        have HV := Lib.hid hv
        have HSS := Lib.hid hs
        clear hv hs
        replace c0 := cell_later HBr.out c0
        replace c1 := cell_later HBr.out c1
        replace c2 := cell_later HBr.out c2
        replace c3 := cell_later HBr.out c3
        replace c4 := cell_later HBr.out c4
        replace c5 := cell_later HBr.out c5
        replace c6 := cell_later HBr.out c6
        replace c7 := cell_later HBr.out c7
        go_wp2
        have HB1 := Lib.hid (balloc HBr.out (.cells #[.int .i64 s.first, .int .i64 p, .int .i64 z, .int .i64 n, .slice A1 m ca, .int .i64 n', .slice A2 m' cb, .bool sw] 26))
        have K0 : Hid ((wr.alloc (.cells #[.int .i64 s.first, .int .i64 p, .int .i64 z, .int .i64 n, .slice A1 m ca, .int .i64 n', .slice A2 m' cb, .bool sw] 26)).cell? ⟨wr.heap.size, 0, none⟩ = some (.int .i64 s.first)) := by show _ = _; go_simp
        have K1 : Hid ((wr.alloc (.cells #[.int .i64 s.first, .int .i64 p, .int .i64 z, .int .i64 n, .slice A1 m ca, .int .i64 n', .slice A2 m' cb, .bool sw] 26)).cell? ⟨wr.heap.size, 1, none⟩ = some (.int .i64 p)) := by show _ = _; go_simp
        have K2 : Hid ((wr.alloc (.cells #[.int .i64 s.first, .int .i64 p, .int .i64 z, .int .i64 n, .slice A1 m ca, .int .i64 n', .slice A2 m' cb, .bool sw] 26)).cell? ⟨wr.heap.size, 2, none⟩ = some (.int .i64 z)) := by show _ = _; go_simp
        have K3 : Hid ((wr.alloc (.cells #[.int .i64 s.first, .int .i64 p, .int .i64 z, .int .i64 n, .slice A1 m ca, .int .i64 n', .slice A2 m' cb, .bool sw] 26)).cell? ⟨wr.heap.size, 3, none⟩ = some (.int .i64 n)) := by show _ = _; go_simp
        have K4 : Hid ((wr.alloc (.cells #[.int .i64 s.first, .int .i64 p, .int .i64 z, .int .i64 n, .slice A1 m ca, .int .i64 n', .slice A2 m' cb, .bool sw] 26)).cell? ⟨wr.heap.size, 4, none⟩ = some (.slice A1 m ca)) := by show _ = _; go_simp
        have K5 : Hid ((wr.alloc (.cells #[.int .i64 s.first, .int .i64 p, .int .i64 z, .int .i64 n, .slice A1 m ca, .int .i64 n', .slice A2 m' cb, .bool sw] 26)).cell? ⟨wr.heap.size, 5, none⟩ = some (.int .i64 n')) := by show _ = _; go_simp
        have K6 : Hid ((wr.alloc (.cells #[.int .i64 s.first, .int .i64 p, .int .i64 z, .int .i64 n, .slice A1 m ca, .int .i64 n', .slice A2 m' cb, .bool sw] 26)).cell? ⟨wr.heap.size, 6, none⟩ = some (.slice A2 m' cb)) := by show _ = _; go_simp
        have K7 : Hid ((wr.alloc (.cells #[.int .i64 s.first, .int .i64 p, .int .i64 z, .int .i64 n, .slice A1 m ca, .int .i64 n', .slice A2 m' cb, .bool sw] 26)).cell? ⟨wr.heap.size, 7, none⟩ = some (.bool sw)) := by show _ = _; go_simp
        clear c0 c1 c2 c3 c4 c5 c6 c7
        generalize wr.alloc (.cells #[.int .i64 s.first, .int .i64 p, .int .i64 z, .int .i64 n, .slice A1 m ca, .int .i64 n', .slice A2 m' cb, .bool sw] 26) = W1 at *
        by_cases hr : rightP s = true
        · rw [hr] at CR
          have HRR := Lib.hid hr
          clear hr
          rcases k with _ | j
          · skip
            refine region_up (by kernel_rfl) (by kernel_rfl) ?_
            go_big_quiet_want
            apply Exists.intro
            refine ⟨fun W hW => ?_, ?_⟩
            · have g0 := cell_later hW K0.out
              have g1 := cell_later hW K1.out
              have g2 := cell_later hW K2.out
              have g3 := cell_later hW K3.out
              have g4 := cell_later hW K4.out
              have g5 := cell_later hW K5.out
              have g6 := cell_later hW K6.out
              have g7 := cell_later hW K7.out
              go_simp
              all_goals exact rfl
            simp only [Act.put, List.setIfInBounds_toArray, List.set_cons_succ, List.set_cons_zero]
            go_big_quiet_on
            go_big_quiet_want
            apply Exists.intro
            refine ⟨fun W hW => ?_, ?_⟩
            · have g0 := cell_later hW K0.out
              have g1 := cell_later hW K1.out
              have g2 := cell_later hW K2.out
              have g3 := cell_later hW K3.out
              have g4 := cell_later hW K4.out
              have g5 := cell_later hW K5.out
              have g6 := cell_later hW K6.out
              have g7 := cell_later hW K7.out
              go_simp
              exact call_up hW (CR.out W (bthen HB1.out hW))
            simp only [Act.put, List.setIfInBounds_toArray, List.set_cons_succ, List.set_cons_zero]
            go_big_quiet_on
            iterate 5
              go_big_quiet_want
              apply Exists.intro
              refine ⟨fun W hW => ?_, ?_⟩
              · have g0 := cell_later hW K0.out
                have g1 := cell_later hW K1.out
                have g2 := cell_later hW K2.out
                have g3 := cell_later hW K3.out
                have g4 := cell_later hW K4.out
                have g5 := cell_later hW K5.out
                have g6 := cell_later hW K6.out
                have g7 := cell_later hW K7.out
                go_simp
                all_goals exact rfl
              simp only [Act.put, List.setIfInBounds_toArray, List.set_cons_succ, List.set_cons_zero]
              go_big_quiet_on
            iterate 16 go_big_quiet_skip
            iterate 2
              go_big_quiet_want
              apply Exists.intro
              refine ⟨fun W hW => ?_, ?_⟩
              · have g0 := cell_later hW K0.out
                have g1 := cell_later hW K1.out
                have g2 := cell_later hW K2.out
                have g3 := cell_later hW K3.out
                have g4 := cell_later hW K4.out
                have g5 := cell_later hW K5.out
                have g6 := cell_later hW K6.out
                have g7 := cell_later hW K7.out
                go_simp
                all_goals exact rfl
              simp only [Act.put, List.setIfInBounds_toArray, List.set_cons_succ, List.set_cons_zero]
              go_big_quiet_on
            refine wpQuiet_nil ?_
            intro W hW
            have HBW := Lib.hid (bthen HB1.out hW)
            clear hW
            go_wp2
            go_roundw
            case rel => exact ⟨1, by omega, by go_num, (by show _ = _; rw [okTo_succ, HT.out, atOk_first HSS.out, HRR.out]; rfl), HBW.out⟩
            case measure => simp [intOf]; omega
          · have hj : j < l.length := by omega
            have hsp : l[j]? = some l[j] := List.getElem?_eq_getElem hj
            generalize l[j] = sp at hsp
            obtain ⟨vp, bk', o', hvp, hRp, hA', hbk', d0, d1, d2, d3, d4, d5, d6, d7⟩ := H.out.at_ hsp
            cases hA'
            have hrp := atOk_right hsp (okTo_at HT.out (Nat.lt_succ_self j))
            have hend := right_end hrp
            have CP : Hid (∀ W, Calls Tryd.prog 46 #[vp.v] W (Ret (.int .i64 (endP sp)) W)) := fun W => by
              have := end46 vp W
              rwa [hRp.first, hRp.pages, hend.1] at this
            have q1 : 1 ≤ sp.first + sp.pages := hend.2.1
            have q2 : sp.first + sp.pages ≤ 1024 := hend.2.2
            have hR1 := hRp.first
            have hR2 := hRp.pages
            obtain ⟨fp, pp, zp, ⟨np, A1p, mp, cap⟩, ⟨np', A2p, mp', cbp⟩, swp⟩ := vp
            unfold SpanV.v at CP
            simp only at d0 d1 d2 d3 d4 d5 d6 d7 hR1 hR2 CP
            subst hR1
            subst hR2
            have HSP := Lib.hid hsp
            clear hRp hrp hvp hsp hend
            have L0 := Lib.hid (cell_later HB1.out d0)
            have L1 := Lib.hid (cell_later HB1.out d1)
            have L2 := Lib.hid (cell_later HB1.out d2)
            have L3 := Lib.hid (cell_later HB1.out d3)
            have L4 := Lib.hid (cell_later HB1.out d4)
            have L5 := Lib.hid (cell_later HB1.out d5)
            have L6 := Lib.hid (cell_later HB1.out d6)
            have L7 := Lib.hid (cell_later HB1.out d7)
            clear d0 d1 d2 d3 d4 d5 d6 d7
            by_cases hle : sp.first + sp.pages ≤ s.first
            · have q3 : ¬ s.first < sp.first + sp.pages := by omega
              have q4 : Hid (endP sp ≤ s.first) := hle
              have hw1 := wrap_in (x := (j : Int)) (by omega)
              have hw2 := wrap_in (x := sp.first + sp.pages) (by omega)
              skip
              refine region_up (by kernel_rfl) (by kernel_rfl) ?_
              go_big_quiet_want
              apply Exists.intro
              refine ⟨fun W hW => ?_, ?_⟩
              · have g0 := cell_later hW K0.out
                have g1 := cell_later hW K1.out
                have g2 := cell_later hW K2.out
                have g3 := cell_later hW K3.out
                have g4 := cell_later hW K4.out
                have g5 := cell_later hW K5.out
                have g6 := cell_later hW K6.out
                have g7 := cell_later hW K7.out
                have g8 := cell_later hW L0.out
                have g9 := cell_later hW L1.out
                have g10 := cell_later hW L2.out
                have g11 := cell_later hW L3.out
                have g12 := cell_later hW L4.out
                have g13 := cell_later hW L5.out
                have g14 := cell_later hW L6.out
                have g15 := cell_later hW L7.out
                go_simp
                all_goals exact rfl
              simp only [Act.put, List.setIfInBounds_toArray, List.set_cons_succ, List.set_cons_zero]
              go_big_quiet_on
              go_big_quiet_want
              apply Exists.intro
              refine ⟨fun W hW => ?_, ?_⟩
              · have g0 := cell_later hW K0.out
                have g1 := cell_later hW K1.out
                have g2 := cell_later hW K2.out
                have g3 := cell_later hW K3.out
                have g4 := cell_later hW K4.out
                have g5 := cell_later hW K5.out
                have g6 := cell_later hW K6.out
                have g7 := cell_later hW K7.out
                have g8 := cell_later hW L0.out
                have g9 := cell_later hW L1.out
                have g10 := cell_later hW L2.out
                have g11 := cell_later hW L3.out
                have g12 := cell_later hW L4.out
                have g13 := cell_later hW L5.out
                have g14 := cell_later hW L6.out
                have g15 := cell_later hW L7.out
                go_simp
                exact call_up hW (CR.out W (bthen HB1.out hW))
              simp only [Act.put, List.setIfInBounds_toArray, List.set_cons_succ, List.set_cons_zero]
              go_big_quiet_on
              iterate 23
                go_big_quiet_want
                apply Exists.intro
                refine ⟨fun W hW => ?_, ?_⟩
                · have g0 := cell_later hW K0.out
                  have g1 := cell_later hW K1.out
                  have g2 := cell_later hW K2.out
                  have g3 := cell_later hW K3.out
                  have g4 := cell_later hW K4.out
                  have g5 := cell_later hW K5.out
                  have g6 := cell_later hW K6.out
                  have g7 := cell_later hW K7.out
                  have g8 := cell_later hW L0.out
                  have g9 := cell_later hW L1.out
                  have g10 := cell_later hW L2.out
                  have g11 := cell_later hW L3.out
                  have g12 := cell_later hW L4.out
                  have g13 := cell_later hW L5.out
                  have g14 := cell_later hW L6.out
                  have g15 := cell_later hW L7.out
                  go_simp
                  all_goals exact rfl
                simp only [Act.put, List.setIfInBounds_toArray, List.set_cons_succ, List.set_cons_zero]
                go_big_quiet_on
              refine wpQuiet_nil ?_
              intro W hW
              clear hw1 hw2
              have HBW := Lib.hid (bthen HB1.out hW)
              clear hW
              go_wp2
              go_roundw
              case rel => exact ⟨j + 1 + 1, by omega, by go_num, (by show _ = _; rw [okTo_succ, HT.out, atOk_next HSP.out HSS.out, HRR.out, decide_eq_true q4.out]; rfl), HBW.out⟩
              case measure => simp [intOf]; omega
            · have q3 : s.first < sp.first + sp.pages := by omega
              have q4 : Hid (¬ endP sp ≤ s.first) := by show ¬ _; unfold endP; omega
              have hno := okTo_no hlt (by rw [atOk_next HSP.out HSS.out, decide_eq_false q4.out, Bool.and_false])
              have E := Lib.hid (E.out _ hno)
              clear hno
              have hw1 := wrap_in (x := (j : Int)) (by omega)
              have hw2 := wrap_in (x := sp.first + sp.pages) (by omega)
              skip
              refine region_up (by kernel_rfl) (by kernel_rfl) ?_
              go_big_quiet_want
              apply Exists.intro
              refine ⟨fun W hW => ?_, ?_⟩
              · have g0 := cell_later hW K0.out
                have g1 := cell_later hW K1.out
                have g2 := cell_later hW K2.out
                have g3 := cell_later hW K3.out
                have g4 := cell_later hW K4.out
                have g5 := cell_later hW K5.out
                have g6 := cell_later hW K6.out
                have g7 := cell_later hW K7.out
                have g8 := cell_later hW L0.out
                have g9 := cell_later hW L1.out
                have g10 := cell_later hW L2.out
                have g11 := cell_later hW L3.out
                have g12 := cell_later hW L4.out
                have g13 := cell_later hW L5.out
                have g14 := cell_later hW L6.out
                have g15 := cell_later hW L7.out
                go_simp
                all_goals exact rfl
              simp only [Act.put, List.setIfInBounds_toArray, List.set_cons_succ, List.set_cons_zero]
              go_big_quiet_on
              go_big_quiet_want
              apply Exists.intro
              refine ⟨fun W hW => ?_, ?_⟩
              · have g0 := cell_later hW K0.out
                have g1 := cell_later hW K1.out
                have g2 := cell_later hW K2.out
                have g3 := cell_later hW K3.out
                have g4 := cell_later hW K4.out
                have g5 := cell_later hW K5.out
                have g6 := cell_later hW K6.out
                have g7 := cell_later hW K7.out
                have g8 := cell_later hW L0.out
                have g9 := cell_later hW L1.out
                have g10 := cell_later hW L2.out
                have g11 := cell_later hW L3.out
                have g12 := cell_later hW L4.out
                have g13 := cell_later hW L5.out
                have g14 := cell_later hW L6.out
                have g15 := cell_later hW L7.out
                go_simp
                exact call_up hW (CR.out W (bthen HB1.out hW))
              simp only [Act.put, List.setIfInBounds_toArray, List.set_cons_succ, List.set_cons_zero]
              go_big_quiet_on
              iterate 23
                go_big_quiet_want
                apply Exists.intro
                refine ⟨fun W hW => ?_, ?_⟩
                · have g0 := cell_later hW K0.out
                  have g1 := cell_later hW K1.out
                  have g2 := cell_later hW K2.out
                  have g3 := cell_later hW K3.out
                  have g4 := cell_later hW K4.out
                  have g5 := cell_later hW K5.out
                  have g6 := cell_later hW K6.out
                  have g7 := cell_later hW K7.out
                  have g8 := cell_later hW L0.out
                  have g9 := cell_later hW L1.out
                  have g10 := cell_later hW L2.out
                  have g11 := cell_later hW L3.out
                  have g12 := cell_later hW L4.out
                  have g13 := cell_later hW L5.out
                  have g14 := cell_later hW L6.out
                  have g15 := cell_later hW L7.out
                  go_simp
                  all_goals exact rfl
                simp only [Act.put, List.setIfInBounds_toArray, List.set_cons_succ, List.set_cons_zero]
                go_big_quiet_on
              refine wpQuiet_nil ?_
              intro W hW
              clear hw1 hw2
              have HBW := Lib.hid (bthen HB1.out hW)
              clear hW
              go_wp2
              go_ret
              rw [E.out]
              exact ⟨rfl, HBW.out⟩
        · have hr : rightP s = false := by simpa using hr
          rw [hr] at CR
          have E := Lib.hid (E.out _ (okTo_no hlt (atOk_bad HSS.out hr)))
          clear hr
          refine region_up (by kernel_rfl) (by kernel_rfl) ?_
          go_big_quiet_want
          apply Exists.intro
          refine ⟨fun W hW => ?_, ?_⟩
          · have g0 := cell_later hW K0.out
            have g1 := cell_later hW K1.out
            have g2 := cell_later hW K2.out
            have g3 := cell_later hW K3.out
            have g4 := cell_later hW K4.out
            have g5 := cell_later hW K5.out
            have g6 := cell_later hW K6.out
            have g7 := cell_later hW K7.out
            go_simp
            all_goals exact rfl
          simp only [Act.put, List.setIfInBounds_toArray, List.set_cons_succ, List.set_cons_zero]
          go_big_quiet_on
          go_big_quiet_want
          apply Exists.intro
          refine ⟨fun W hW => ?_, ?_⟩
          · have g0 := cell_later hW K0.out
            have g1 := cell_later hW K1.out
            have g2 := cell_later hW K2.out
            have g3 := cell_later hW K3.out
            have g4 := cell_later hW K4.out
            have g5 := cell_later hW K5.out
            have g6 := cell_later hW K6.out
            have g7 := cell_later hW K7.out
            go_simp
            exact call_up hW (CR.out W (bthen HB1.out hW))
          simp only [Act.put, List.setIfInBounds_toArray, List.set_cons_succ, List.set_cons_zero]
          go_big_quiet_on
          iterate 2
            go_big_quiet_want
            apply Exists.intro
            refine ⟨fun W hW => ?_, ?_⟩
            · have g0 := cell_later hW K0.out
              have g1 := cell_later hW K1.out
              have g2 := cell_later hW K2.out
              have g3 := cell_later hW K3.out
              have g4 := cell_later hW K4.out
              have g5 := cell_later hW K5.out
              have g6 := cell_later hW K6.out
              have g7 := cell_later hW K7.out
              go_simp
              all_goals exact rfl
            simp only [Act.put, List.setIfInBounds_toArray, List.set_cons_succ, List.set_cons_zero]
            go_big_quiet_on
          iterate 20 go_big_quiet_skip
          go_big_quiet_want
          apply Exists.intro
          refine ⟨fun W hW => ?_, ?_⟩
          · have g0 := cell_later hW K0.out
            have g1 := cell_later hW K1.out
            have g2 := cell_later hW K2.out
            have g3 := cell_later hW K3.out
            have g4 := cell_later hW K4.out
            have g5 := cell_later hW K5.out
            have g6 := cell_later hW K6.out
            have g7 := cell_later hW K7.out
            go_simp
            all_goals exact rfl
          simp only [Act.put, List.setIfInBounds_toArray, List.set_cons_succ, List.set_cons_zero]
          go_big_quiet_on
          refine wpQuiet_nil ?_
          intro W hW
          have HBW := Lib.hid (bthen HB1.out hW)
          clear hW
          go_wp2
          go_ret
          rw [E.out]
          exact ⟨rfl, HBW.out⟩
      · obtain rfl : k = l.length := by omega
        have E := Lib.hid (E.out _ HT.out)
        go_wp2
        go_ret
        rw [E.out]
        exact ⟨rfl, HBr.out⟩
  · have E : Hid (chkE l = 2) := by show _ = _; rw [chkE, okL, decide_eq_false hb, Bool.false_and]; rfl
    have hb : 256 < l.length := by omega
    go_enter Tryd.func20, Tryd.ntmps20
    go_wp2
    go_ret
    rw [E.out]
    exact ⟨rfl, Below.refl _ _⟩
end Go.Proofs.YtchbbldanmmpjaaDoor
