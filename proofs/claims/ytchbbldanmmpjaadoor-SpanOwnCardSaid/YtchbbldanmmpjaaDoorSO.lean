/- The walk of the reference's Make. -/
import Derived.Test.YtchbbldanmmpjaaDoorSN
namespace Go.Proofs.YtchbbldanmmpjaaDoor
open Go.RowKit
set_option linter.unusedVariables false
set_option linter.unusedSimpArgs false

def nR (z : Int) : Int := if 0 < z ∧ z ≤ 16 then manyP z else 1
theorem nR_bound (z : Int) : 1 ≤ nR z ∧ nR z ≤ 16 := by
  unfold nR
  by_cases h : 0 < z ∧ z ≤ 16
  · rw [if_pos h]
    have hz : z = 1 ∨ z = 2 ∨ z = 3 ∨ z = 4 ∨ z = 5 ∨ z = 6 ∨ z = 7 ∨ z = 8 ∨ z = 9 ∨ z = 10 ∨ z = 11 ∨ z = 12 ∨ z = 13 ∨ z = 14 ∨ z = 15 ∨ z = 16 := by omega
    rcases hz with rfl | rfl | rfl | rfl | rfl | rfl | rfl | rfl | rfl | rfl | rfl | rfl | rfl | rfl | rfl | rfl <;> decide +kernel
  · rw [if_neg h]; omega
theorem nR_many {p z : Int} (h : shapedP p z = true) : nR z = manyP z := by
  rcases shapedP_size h with rfl | rfl | rfl | rfl | rfl <;> decide +kernel
def candS (f p z : Int) : SpanB := ⟨f, p, z, ⟨nR z, [0]⟩, ⟨nR z, [0]⟩, true⟩
theorem makeB_nR (z : Int) : makeB (nR z) = ⟨nR z, [0]⟩ := by
  have hm := nR_bound z
  have e : ((nR z + 63) / 64).toNat = 1 := by omega
  simp only [makeB, makeOk, e]
  rw [if_pos (by omega)]
  rfl
theorem right_cand (f p z : Int) : rightP (candS f p z) = decide (fitS f p z) := by
  by_cases h : shapedP p z = true
  · have e : candS f p z = freshS f p z := by unfold candS freshS; rw [nR_many h]
    rw [e, right_fresh h]
    unfold fitS
    rw [← Bool.decide_and]
    simp [h]
  · have h' : shapedP p z = false := by simpa using h
    rw [decide_eq_false (fun hf : fitS f p z => h hf.1)]
    show (shapedP p z && _) = false
    rw [h']
    rfl
theorem wf_bit16 {n : Int} (h1 : 1 ≤ n) (h8 : n ≤ 16) : WfB ⟨n, [0]⟩ := ⟨by simp; omega, by simp; omega, by simp⟩

set_option maxRecDepth 100000 in
set_option maxHeartbeats 8000000 in
theorem make12 (f p z : Int) (w : World) (hf : -9223372036854775808 ≤ f ∧ f ≤ 9223372036854775807) (hp : -9223372036854775808 ≤ p ∧ p ≤ 9223372036854775807) (hz : -9223372036854775808 ≤ z ∧ z ≤ 9223372036854775807) :
    Calls Tryd.prog 12 #[.int .i64 f, .int .i64 p, .int .i64 z] w (RetNE (makeS f p z) (makeSE f p z) w) := by
  have HB0 : Hid (Below w.heap.size w (w.alloc (.cells #[.int .i64 0, .int .i64 0, .int .i64 0, .int .i64 0, .slice none 0 0, .int .i64 0, .slice none 0 0, .bool false] 26))) := balloc (Below.refl _ _) _
  have hm := nR_bound z
  have HMB := Lib.hid (makeB_nR z)
  have HME : Hid (makeE (nR z) = 0) := by show _ = _; unfold makeE; rw [if_pos (show makeOk _ from ⟨by omega, by omega⟩)]
  have HWF := Lib.hid (wf_bit16 hm.1 hm.2)
  have HF := Lib.hid (And.intro hf (And.intro hp hz))
  clear hf hp hz hm
  by_cases hcz : 0 < z ∧ z ≤ 16
  · have C39 : Hid (∀ W, Calls Tryd.prog 39 #[.int .i64 z] W (Ret (.int .i64 (nR z)) W)) := fun W => by
      have := many39 z W
      rwa [show manyP z = nR z from by unfold nR; rw [if_pos hcz]] at this
    obtain ⟨q0, q1⟩ := hcz
    go_enter Tryd.func12, Tryd.ntmps12
    go_wp2_with (go_at_call 39; refine (C39.out _).mono ?_)
    rintro e w1 ⟨rfl, hb1⟩
    obtain ⟨hc1, hf1, hs1⟩ := bcellB (B := w.heap.size + 1) hb1 (by simp)
    have HB1 := Lib.hid (bthen HB0.out hb1)
    clear hb1
    go_wp2_with (go_at_call 40; refine (make40 _ _).mono ?_)
    rw [HMB.out, HME.out]
    rintro e w3 ⟨⟨n1, A1, m1, c1⟩, rfl, hn1, hm1, hcap1, ho1, hb3⟩
    simp only at hn1 hm1 hcap1 ho1
    obtain ⟨hc3, hf3, hs3⟩ := bcellB hb3 hs1
    have z0 : w.heap.size < w3.heap.size := hs3
    have HB3 := Lib.hid (bthen HB1.out hb3)
    subst hn1
    have hm1' : m1 = 1 := hm1
    subst hm1'
    have HO1 : Hid (OwU w3 (w.heap.size + 1) (.slice A1 1 c1) [0]) := ho1.mono hs1
    have HC1 := Lib.hid hcap1
    clear hb3 ho1 hcap1 hm1
    unfold BitV.v
    simp only
    have HB4 := Lib.hid (balloc HB3.out (.cells #[.int .i64 (nR z), .slice A1 1 c1] 24))
    have HO4 := Lib.hid (HO1.out.al (.cells #[.int .i64 (nR z), .slice A1 1 c1] 24))
    go_wp2_with (go_at_call 40; refine (make40 _ _).mono ?_)
    rw [HMB.out, HME.out]
    rintro e w5 ⟨⟨n2, A2, m2, c2⟩, rfl, hn2, hm2, hcap2, ho2, hb5⟩
    simp only at hn2 hm2 hcap2 ho2
    have hs4 : w.heap.size + 1 ≤ (w3.alloc (.cells #[.int .i64 (nR z), .slice A1 1 c1] 24)).heap.size := by simp; omega
    obtain ⟨hc5, hf5⟩ := bcell hb5
    have z5 : w3.heap.size < w5.heap.size := (by have := hb5.size; simp at this; omega)
    have z6 : w.heap.size < w5.heap.size := (by omega)
    have hs5 : (w3.alloc (.cells #[.int .i64 (nR z), .slice A1 1 c1] 24)).heap.size = w3.heap.size + 1 := by simp
    rw [hs5] at hc5 hf5
    have z3 : w.heap.size < w3.heap.size + 1 := by omega
    have HB5 := Lib.hid (bthen HB4.out hb5)
    subst hn2
    have hm2' : m2 = 1 := hm2
    subst hm2'
    have HO15 := Lib.hid (HO4.out.below hb5)
    have HO25 : Hid (OwU w5 (w.heap.size + 1) (.slice A2 1 c2) [0]) := ho2.mono hs4
    have HC2 := Lib.hid hcap2
    clear hb5 ho2 hcap2 hm2 hs4 hs5
    unfold BitV.v
    simp only
    have HB7 := Lib.hid (balloc (balloc HB5.out (.cells #[.int .i64 (nR z), .slice A2 1 c2] 24)) (.cells #[.int .i64 f, .int .i64 p, .int .i64 z, .int .i64 (nR z), .slice A1 1 c1, .int .i64 (nR z), .slice A2 1 c2, .bool true] 26))
    have HO17 := Lib.hid ((HO15.out.al (.cells #[.int .i64 (nR z), .slice A2 1 c2] 24)).al (.cells #[.int .i64 f, .int .i64 p, .int .i64 z, .int .i64 (nR z), .slice A1 1 c1, .int .i64 (nR z), .slice A2 1 c2, .bool true] 26))
    have HO27 := Lib.hid ((HO25.out.al (.cells #[.int .i64 (nR z), .slice A2 1 c2] 24)).al (.cells #[.int .i64 f, .int .i64 p, .int .i64 z, .int .i64 (nR z), .slice A1 1 c1, .int .i64 (nR z), .slice A2 1 c2, .bool true] 26))
    have CR := Lib.hid (right41' ⟨f, p, z, ⟨nR z, A1, 1, c1⟩, ⟨nR z, A2, 1, c2⟩, true⟩ (candS f p z) _ ⟨rfl, rfl, rfl, rfl, ⟨rfl, rfl, HC1.out, HWF.out.lo, HWF.out.hi, HWF.out.words, HO17.out.rd rfl⟩, ⟨rfl, rfl, HC2.out, HWF.out.lo, HWF.out.hi, HWF.out.words, HO27.out.rd rfl⟩, HF.out.1, HF.out.2.1, HF.out.2.2⟩)
    unfold SpanV.v at CR
    simp only at CR
    rw [right_cand] at CR
    have hs6 : (w5.alloc (.cells #[.int .i64 (nR z), .slice A2 1 c2] 24)).heap.size = w5.heap.size + 1 := by simp
    have hs7 : ((w5.alloc (.cells #[.int .i64 (nR z), .slice A2 1 c2] 24)).alloc (.cells #[.int .i64 f, .int .i64 p, .int .i64 z, .int .i64 (nR z), .slice A1 1 c1, .int .i64 (nR z), .slice A2 1 c2, .bool true] 26)).heap.size = w5.heap.size + 2 := by simp
    have z7 : w.heap.size < w5.heap.size + 2 := by omega
    have z8 : w.heap.size < w5.heap.size + 1 := by omega
    by_cases hfit : fitS f p z
    · have E1 : Hid (makeS f p z = freshS f p z) := by show _ = _; unfold makeS; rw [if_pos hfit]
      have E2 : Hid (makeSE f p z = 0) := by show _ = _; unfold makeSE; rw [if_pos hfit]
      have EM := Lib.hid (nR_many hfit.1)
      rw [decide_eq_true hfit] at CR
      clear hfit
      go_wp2_with (go_at_call 41; refine CR.out.mono ?_)
      rintro e w8 ⟨rfl, hb8⟩
      obtain ⟨hc8, hf8⟩ := bcell hb8
      rw [hs7] at hc8 hf8
      have HB8 := Lib.hid (bthen HB7.out hb8)
      have HO1s := Lib.hid (HO17.out.below hb8)
      have HO2s := Lib.hid (HO27.out.below hb8)
      clear hb8 hs6 hs7
      go_wp2
      refine bodyPost_ret (v := .tuple #[.agg #[.int .i64 f, .int .i64 p, .int .i64 z, .int .i64 (nR z), .slice A1 1 c1, .int .i64 (nR z), .slice A2 1 c2, .bool true], .int .i64 0]) (by simp [results, Tryd.results12, go_sem, hc8, hc5, hc3, z6, z7, z8, z0, z3, hc1]) rfl ?_
      rw [E1.out, E2.out]
      refine ⟨⟨f, p, z, ⟨nR z, A1, 1, c1⟩, ⟨nR z, A2, 1, c2⟩, true⟩, rfl, ⟨rfl, rfl, rfl, rfl, EM.out, rfl, HC1.out, ?_, EM.out, rfl, HC2.out, ?_⟩, ?_⟩
      · refine OwU.mono (base := w.heap.size + 1) ?_ (by omega)
        repeat (refine OwU.set_lo ?_ (by simp) _)
        exact HO1s.out
      · refine OwU.mono (base := w.heap.size + 1) ?_ (by omega)
        repeat (refine OwU.set_lo ?_ (by simp) _)
        exact HO2s.out
      · repeat (refine Below.setCell ?_ (by simp) _)
        exact HB8.out
    · have E1 : Hid (makeS f p z = zeroS) := by show _ = _; unfold makeS; rw [if_neg hfit]
      have E2 : Hid (makeSE f p z = 2) := by show _ = _; unfold makeSE; rw [if_neg hfit]
      rw [decide_eq_false hfit] at CR
      clear hfit
      go_wp2_with (go_at_call 41; refine CR.out.mono ?_)
      rintro e w8 ⟨rfl, hb8⟩
      obtain ⟨hc8, hf8⟩ := bcell hb8
      rw [hs7] at hc8 hf8
      have HB8 := Lib.hid (bthen HB7.out hb8)
      clear hb8 hs6 hs7
      go_wp2
      refine bodyPost_ret (v := .tuple #[.agg #[.int .i64 0, .int .i64 0, .int .i64 0, .int .i64 0, .slice none 0 0, .int .i64 0, .slice none 0 0, .bool false], .int .i64 2]) (by simp [results, Tryd.results12, go_sem, hc8, hc5, hc3, z6, z7, z8, z0, z3, hc1]) rfl ?_
      rw [E1.out, E2.out]
      refine ⟨⟨0, 0, 0, ⟨0, none, 0, 0⟩, ⟨0, none, 0, 0⟩, false⟩, rfl, ⟨rfl, rfl, rfl, rfl, rfl, rfl, Nat.le_refl _, OwU.nil_ _ _, rfl, rfl, Nat.le_refl _, OwU.nil_ _ _⟩, ?_⟩
      repeat (refine Below.setCell ?_ (by simp) _)
      exact HB8.out
  · have EN : nR z = 1 := by unfold nR; rw [if_neg hcz]
    have hcz' : ¬ 0 < z ∨ (0 < z ∧ ¬ z ≤ 16) := by omega
    have hs0 : w.heap.size + 1 ≤ (w.alloc (.cells #[.int .i64 0, .int .i64 0, .int .i64 0, .int .i64 0, .slice none 0 0, .int .i64 0, .slice none 0 0, .bool false] 26)).heap.size := by simp
    have HS0 := Lib.hid hs0
    have ENH := Lib.hid EN
    have HMB1 : Hid (makeB 1 = ⟨1, [0]⟩) := by show _ = _; decide +kernel
    have HME1 : Hid (makeE 1 = 0) := by show _ = _; decide +kernel
    clear hcz EN hs0
    rcases hcz' with h | ⟨h0, h⟩
    all_goals
      go_enter Tryd.func12, Tryd.ntmps12
      go_wp2_with (go_at_call 40; refine (make40 _ _).mono ?_)
      rw [HMB1.out, HME1.out]
      rintro e w3 ⟨⟨n1, A1, m1, c1⟩, rfl, hn1, hm1, hcap1, ho1, hb3⟩
      simp only at hn1 hm1 hcap1 ho1
      obtain ⟨hc3, hf3, hs3⟩ := bcellB hb3 HS0.out
      have z0 : w.heap.size < w3.heap.size := hs3
      have HB3 := Lib.hid (bthen HB0.out hb3)
      subst hn1
      have hm1' : m1 = 1 := hm1
      subst hm1'
      have HO1 : Hid (OwU w3 (w.heap.size + 1) (.slice A1 1 c1) [0]) := ho1.mono HS0.out
      have HC1 := Lib.hid hcap1
      clear hb3 ho1 hcap1 hm1
      unfold BitV.v
      simp only
      have HB4 := Lib.hid (balloc HB3.out (.cells #[.int .i64 (1), .slice A1 1 c1] 24))
      have HO4 := Lib.hid (HO1.out.al (.cells #[.int .i64 (1), .slice A1 1 c1] 24))
      go_wp2_with (go_at_call 40; refine (make40 _ _).mono ?_)
      rw [HMB1.out, HME1.out]
      rintro e w5 ⟨⟨n2, A2, m2, c2⟩, rfl, hn2, hm2, hcap2, ho2, hb5⟩
      simp only at hn2 hm2 hcap2 ho2
      have hs4 : w.heap.size + 1 ≤ (w3.alloc (.cells #[.int .i64 (1), .slice A1 1 c1] 24)).heap.size := by simp; omega
      obtain ⟨hc5, hf5⟩ := bcell hb5
      have z5 : w3.heap.size < w5.heap.size := (by have := hb5.size; simp at this; omega)
      have z6 : w.heap.size < w5.heap.size := (by omega)
      have hs5 : (w3.alloc (.cells #[.int .i64 (1), .slice A1 1 c1] 24)).heap.size = w3.heap.size + 1 := by simp
      rw [hs5] at hc5 hf5
      have z3 : w.heap.size < w3.heap.size + 1 := by omega
      have HB5 := Lib.hid (bthen HB4.out hb5)
      subst hn2
      have hm2' : m2 = 1 := hm2
      subst hm2'
      have HO15 := Lib.hid (HO4.out.below hb5)
      have HO25 : Hid (OwU w5 (w.heap.size + 1) (.slice A2 1 c2) [0]) := ho2.mono hs4
      have HC2 := Lib.hid hcap2
      clear hb5 ho2 hcap2 hm2 hs4 hs5
      unfold BitV.v
      simp only
      have HB7 := Lib.hid (balloc (balloc HB5.out (.cells #[.int .i64 (1), .slice A2 1 c2] 24)) (.cells #[.int .i64 f, .int .i64 p, .int .i64 z, .int .i64 (1), .slice A1 1 c1, .int .i64 (1), .slice A2 1 c2, .bool true] 26))
      have HO17 := Lib.hid ((HO15.out.al (.cells #[.int .i64 (1), .slice A2 1 c2] 24)).al (.cells #[.int .i64 f, .int .i64 p, .int .i64 z, .int .i64 (1), .slice A1 1 c1, .int .i64 (1), .slice A2 1 c2, .bool true] 26))
      have HO27 := Lib.hid ((HO25.out.al (.cells #[.int .i64 (1), .slice A2 1 c2] 24)).al (.cells #[.int .i64 f, .int .i64 p, .int .i64 z, .int .i64 (1), .slice A1 1 c1, .int .i64 (1), .slice A2 1 c2, .bool true] 26))
      have CR := Lib.hid (right41' ⟨f, p, z, ⟨1, A1, 1, c1⟩, ⟨1, A2, 1, c2⟩, true⟩ (candS f p z) _ ⟨rfl, rfl, rfl, rfl, ⟨ENH.out.symm, rfl, HC1.out, HWF.out.lo, HWF.out.hi, HWF.out.words, HO17.out.rd rfl⟩, ⟨ENH.out.symm, rfl, HC2.out, HWF.out.lo, HWF.out.hi, HWF.out.words, HO27.out.rd rfl⟩, HF.out.1, HF.out.2.1, HF.out.2.2⟩)
      unfold SpanV.v at CR
      simp only at CR
      rw [right_cand] at CR
      have hs6 : (w5.alloc (.cells #[.int .i64 (1), .slice A2 1 c2] 24)).heap.size = w5.heap.size + 1 := by simp
      have hs7 : ((w5.alloc (.cells #[.int .i64 (1), .slice A2 1 c2] 24)).alloc (.cells #[.int .i64 f, .int .i64 p, .int .i64 z, .int .i64 (1), .slice A1 1 c1, .int .i64 (1), .slice A2 1 c2, .bool true] 26)).heap.size = w5.heap.size + 2 := by simp
      have z7 : w.heap.size < w5.heap.size + 2 := by omega
      have z8 : w.heap.size < w5.heap.size + 1 := by omega
      by_cases hfit : fitS f p z
      · have E1 : Hid (makeS f p z = freshS f p z) := by show _ = _; unfold makeS; rw [if_pos hfit]
        have E2 : Hid (makeSE f p z = 0) := by show _ = _; unfold makeSE; rw [if_pos hfit]
        have EM := Lib.hid (nR_many hfit.1)
        rw [decide_eq_true hfit] at CR
        clear hfit
        go_wp2_with (go_at_call 41; refine CR.out.mono ?_)
        rintro e w8 ⟨rfl, hb8⟩
        obtain ⟨hc8, hf8⟩ := bcell hb8
        rw [hs7] at hc8 hf8
        have HB8 := Lib.hid (bthen HB7.out hb8)
        have HO1s := Lib.hid (HO17.out.below hb8)
        have HO2s := Lib.hid (HO27.out.below hb8)
        clear hb8 hs6 hs7
        go_wp2
        refine bodyPost_ret (v := .tuple #[.agg #[.int .i64 f, .int .i64 p, .int .i64 z, .int .i64 (1), .slice A1 1 c1, .int .i64 (1), .slice A2 1 c2, .bool true], .int .i64 0]) (by simp [results, Tryd.results12, go_sem, hc8, hc5, hc3, z6, z7, z8, z0, z3, HS0.out]) rfl ?_
        rw [E1.out, E2.out]
        refine ⟨⟨f, p, z, ⟨1, A1, 1, c1⟩, ⟨1, A2, 1, c2⟩, true⟩, rfl, ⟨rfl, rfl, rfl, rfl, (ENH.out.symm.trans EM.out), rfl, HC1.out, ?_, (ENH.out.symm.trans EM.out), rfl, HC2.out, ?_⟩, ?_⟩
        · refine OwU.mono (base := w.heap.size + 1) ?_ (by omega)
          repeat (refine OwU.set_lo ?_ (by simp) _)
          exact HO1s.out
        · refine OwU.mono (base := w.heap.size + 1) ?_ (by omega)
          repeat (refine OwU.set_lo ?_ (by simp) _)
          exact HO2s.out
        · repeat (refine Below.setCell ?_ (by simp) _)
          exact HB8.out
      · have E1 : Hid (makeS f p z = zeroS) := by show _ = _; unfold makeS; rw [if_neg hfit]
        have E2 : Hid (makeSE f p z = 2) := by show _ = _; unfold makeSE; rw [if_neg hfit]
        rw [decide_eq_false hfit] at CR
        clear hfit
        go_wp2_with (go_at_call 41; refine CR.out.mono ?_)
        rintro e w8 ⟨rfl, hb8⟩
        obtain ⟨hc8, hf8⟩ := bcell hb8
        rw [hs7] at hc8 hf8
        have HB8 := Lib.hid (bthen HB7.out hb8)
        clear hb8 hs6 hs7
        go_wp2
        refine bodyPost_ret (v := .tuple #[.agg #[.int .i64 0, .int .i64 0, .int .i64 0, .int .i64 0, .slice none 0 0, .int .i64 0, .slice none 0 0, .bool false], .int .i64 2]) (by simp [results, Tryd.results12, go_sem, hc8, hc5, hc3, z6, z7, z8, z0, z3, HS0.out]) rfl ?_
        rw [E1.out, E2.out]
        refine ⟨⟨0, 0, 0, ⟨0, none, 0, 0⟩, ⟨0, none, 0, 0⟩, false⟩, rfl, ⟨rfl, rfl, rfl, rfl, rfl, rfl, Nat.le_refl _, OwU.nil_ _ _, rfl, rfl, Nat.le_refl _, OwU.nil_ _ _⟩, ?_⟩
        repeat (refine Below.setCell ?_ (by simp) _)
        exact HB8.out
end Go.Proofs.YtchbbldanmmpjaaDoor
