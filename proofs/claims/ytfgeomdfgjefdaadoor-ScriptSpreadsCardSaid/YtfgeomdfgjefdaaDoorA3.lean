/- Same. -/
import Derived.Test.YtfgeomdfgjefdaaDoorA2
namespace Go.Proofs.YtfgeomdfgjefdaaDoor
open Go.RowKit
set_option linter.unusedVariables false
set_option linter.unusedSimpArgs false

theorem Ev.eta5 (s t : Ev) : s = t ↔ s.thr = t.thr ∧ s.who = t.who ∧ s.kind = t.kind ∧ s.tw = t.tw ∧ s.times = t.times := by
  cases s; cases t; simp
set_option maxRecDepth 100000 in
set_option maxHeartbeats 8000000 in
theorem same11 (l m : List Ev) (A B : Option Addr) (c d : Nat) (w : World) (hr : RdS w A l) (hs : RdS w B m) :
    Calls Tryd.prog 11 #[.slice A l.length c, .slice B m.length d] w (Ret (.bool (decide (l = m))) w) := by
  have hl := hr.len
  have hml := hs.len
  have HR := Lib.hid hr
  have HO := Lib.hid hs
  clear hr hs
  by_cases hlen : l.length = m.length
  · have e0 : ((l.length : Int) == (m.length : Int)) = true := by rw [hlen]; simp
    have HL := Lib.hid hlen
    clear hlen
    go_enter Tryd.func11, Tryd.ntmps11
    go_wp2
    go_loopw [13] (fun i wr => ∃ (k : Nat), k ≤ l.length ∧ i = .int .i64 k ∧ Hid (∀ (j : Nat), j < k → l[j]? = m[j]?) ∧ Hid (Below w.heap.size w wr)) (fun i _ => l.length - (intOf i).toNat)
    case atStart => exact ⟨0, Nat.zero_le _, rfl, fun j h => absurd h (by omega), Below.refl _ _⟩
    case round =>
      obtain ⟨k, hk, rfl, HNO, HB⟩ := hrel
      by_cases hlt : k < l.length
      · have hs : l[k]? = some l[k] := List.getElem?_eq_getElem hlt
        generalize l[k] = s at hs
        have hkm : k < m.length := by have := HL.out; omega
        have ht : m[k]? = some m[k] := List.getElem?_eq_getElem hkm
        generalize m[k] = t at ht
        obtain ⟨b, o, rfl, hB, c0, c1, c2, c3, c4⟩ := (HR.out.below HB.out).at_ hs
        obtain ⟨b', o', rfl, hB', d0, d1, d2, d3, d4⟩ := (HO.out.below HB.out).at_ ht
        have HS := Lib.hid hs
        have HT := Lib.hid ht
        have hkm1 : (k : Int) < (m.length : Int) := by omega
        clear hs ht
        have C0 := Lib.hid c0
        have C1 := Lib.hid c1
        have C2 := Lib.hid c2
        have C3 := Lib.hid c3
        have C4 := Lib.hid c4
        have D0 := Lib.hid d0
        have D1 := Lib.hid d1
        have D2 := Lib.hid d2
        have D3 := Lib.hid d3
        have D4 := Lib.hid d4
        clear c0 c1 c2 c3 c4 d0 d1 d2 d3 d4
        by_cases hst : s = t
        · subst hst
          have HN : Hid (∀ (j : Nat), j < k + 1 → l[j]? = m[j]?) := fun j hj => by
            rcases Nat.lt_succ_iff_lt_or_eq.1 hj with h | rfl
            · exact HNO.out j h
            · rw [HS.out, HT.out]
          go_wp2
          refine region_up (by kernel_rfl) (by kernel_rfl) ?_
          iterate 9
            go_big_quiet_want
            apply Exists.intro
            refine ⟨fun W hW => ?_, ?_⟩
            · have g0 := cell_later hW C0.out
              have g1 := cell_later hW C1.out
              have g2 := cell_later hW C2.out
              have g3 := cell_later hW C3.out
              have g4 := cell_later hW C4.out
              have g5 := cell_later hW D0.out
              have g6 := cell_later hW D1.out
              have g7 := cell_later hW D2.out
              have g8 := cell_later hW D3.out
              have g9 := cell_later hW D4.out
              go_simp
              all_goals exact rfl
            simp only [Act.put, List.setIfInBounds_toArray, List.set_cons_succ, List.set_cons_zero]
            go_big_quiet_on
          refine wpQuiet_nil ?_
          intro W hW
          have HBW := Lib.hid (bthen HB.out hW)
          clear hW
          go_wp2
          go_roundw
          case rel => exact ⟨k + 1, by omega, by go_num, HN.out, HBW.out⟩
          case measure => simp [intOf]; omega
        · have HE : Hid (decide (l = m) = false) := decide_eq_false (fun e => by
            subst e
            have := HS.out.symm.trans HT.out
            cases this
            exact hst rfl)
          have hc : (¬ s.thr = t.thr) ∨ (s.thr = t.thr ∧ ¬ s.who = t.who) ∨ (s.thr = t.thr ∧ s.who = t.who ∧ ¬ s.kind = t.kind) ∨ (s.thr = t.thr ∧ s.who = t.who ∧ s.kind = t.kind ∧ ¬ s.tw = t.tw) ∨ (s.thr = t.thr ∧ s.who = t.who ∧ s.kind = t.kind ∧ s.tw = t.tw ∧ ¬ s.times = t.times) := by
            have h := fun h => hst ((Ev.eta5 s t).2 h)
            by_cases h1 : s.thr = t.thr <;> by_cases h2 : s.who = t.who <;> by_cases h3 : s.kind = t.kind <;> by_cases h4 : s.tw = t.tw <;> by_cases h5 : s.times = t.times <;> simp_all
          clear hst
          rcases hc with h1 | ⟨h1, h2⟩ | ⟨h1, h2, h3⟩ | ⟨h1, h2, h3, h4⟩ | ⟨h1, h2, h3, h4, h5⟩
          all_goals
            go_wp2
            refine region_up (by kernel_rfl) (by kernel_rfl) ?_
            iterate 9
              go_big_quiet_want
              apply Exists.intro
              refine ⟨fun W hW => ?_, ?_⟩
              · have g0 := cell_later hW C0.out
                have g1 := cell_later hW C1.out
                have g2 := cell_later hW C2.out
                have g3 := cell_later hW C3.out
                have g4 := cell_later hW C4.out
                have g5 := cell_later hW D0.out
                have g6 := cell_later hW D1.out
                have g7 := cell_later hW D2.out
                have g8 := cell_later hW D3.out
                have g9 := cell_later hW D4.out
                go_simp
                all_goals exact rfl
              simp only [Act.put, List.setIfInBounds_toArray, List.set_cons_succ, List.set_cons_zero]
              go_big_quiet_on
            refine wpQuiet_nil ?_
            intro W hW
            have HBW := Lib.hid (bthen HB.out hW)
            clear hW
            go_wp2
            go_ret
            exact ⟨by rw [HE.out]; rfl, HBW.out⟩
      · have HE : Hid (l = m) := List.ext_getElem? (fun j => by
          by_cases hj : j < l.length
          · exact HNO.out j (by omega)
          · have := HL.out
            rw [List.getElem?_eq_none (by omega), List.getElem?_eq_none (by omega)])
        go_wp2
        go_ret
        exact ⟨by rw [decide_eq_true HE.out]; rfl, HB.out⟩
  · have e0 : ((l.length : Int) == (m.length : Int)) = false := by rw [beq_eq_false_iff_ne]; omega
    have HE : Hid (decide (l = m) = false) := decide_eq_false (fun e => hlen (by rw [e]))
    clear hlen
    go_enter Tryd.func11, Tryd.ntmps11
    go_wp2
    go_ret
    exact ⟨by rw [HE.out]; rfl, Below.refl _ _⟩
end Go.Proofs.YtfgeomdfgjefdaaDoor
