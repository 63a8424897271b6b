/- The law SpanBack, walked. -/
import Derived.Test.YtchbbldanmmpjaaDoorU6
import Derived.Test.YtchbbldanmmpjaaDoorU8
namespace Go.Proofs.YtchbbldanmmpjaaDoor
open Go.RowKit
set_option linter.unusedVariables false
set_option linter.unusedSimpArgs false

set_option maxRecDepth 100000 in
set_option maxHeartbeats 16000000 in
theorem back6 (v : SpanV) (s : SpanB) (A : Option Addr) (c : Nat) (vs : List SpanV) (l : List SpanB) (w : World) (hs : RdN w v s) (hl : RdL w A vs l) (hT : Tab w) :
    Calls Tryd.prog 6 #[.slice A l.length c, v.v] w (Ret (.bool true) w) := by
  have C17 : Hid (∀ W, Below w.heap.size w W → Calls Tryd.prog 17 #[] W (Ret (.bool true) W)) := fun W hW => lives17 W (hT.below hW)
  have C26 : Hid (∀ W, Below w.heap.size w W → Calls Tryd.prog 26 #[.slice A l.length c, v.v] W (RetLE (addL l s) (addE l s) W)) := fun W hW => add26 A c vs l v s W (hl.below hW) (hs.below hW)
  have hll := hl.len
  have HL := Lib.hid hl
  have HWL := Lib.hid hl.wf
  have HWS := Lib.hid hs.wf
  have hvf := hs.first
  clear hl hs hT
  have HV0 := Lib.hid (VarS.made w v w.heap.size rfl)
  have HB0 := Lib.hid (balloc (Below.refl w.heap.size w) (.cells #[.int .i64 v.first, .int .i64 v.pages, .int .i64 v.size, .int .i64 v.al.n, .slice v.al.A v.al.m v.al.c, .int .i64 v.ma.n, .slice v.ma.A v.ma.m v.ma.c, .bool v.sw] 26))
  obtain ⟨vf, vp, vz, ⟨n, A1, m1, c1⟩, ⟨n', B1, m2, d1⟩, sw⟩ := v
  unfold SpanV.v at C26 ⊢
  simp only at C26 HV0 HB0 hvf ⊢
  subst hvf
  rcases back_plain l s with ⟨e1, e2⟩ | ⟨e1, e2⟩ | ⟨e1, hok, hlen, e3, e4, hmem⟩
  · rw [e1, e2] at C26
    have HWF : Hid (∀ x ∈ ([] : List SpanB), WfS x) := fun x hx => by cases hx
    clear e1 e2
    go_enter Tryd.func6, Tryd.ntmps6
    go_wp2_with (go_at_call 17; refine (C17.out _ HB0.out).mono ?_)
    rintro e w1 ⟨rfl, hb⟩
    have HB1 := Lib.hid (bthen HB0.out hb)
    have HV1 := Lib.hid (HV0.out.below hb)
    clear hb HB0 HV0 C17
    obtain ⟨k0, k1, k2, k3, k4, k5, k6, k7⟩ := HV1.out
    simp only at k0 k1 k2 k3 k4 k5 k6 k7
    go_wp2_with (go_at_call 26; refine (C26.out _ HB1.out).mono ?_)
    rintro e w2 ⟨v2, rfl, hO2, hb⟩
    obtain ⟨A2, c2, us, rfl, hc2, hr2⟩ := hO2.shape HWF.out
    have HB2 := Lib.hid (bthen HB1.out hb)
    have HV2 := Lib.hid (HV1.out.below hb)
    have HR2 := Lib.hid hr2
    clear hb hr2 hO2 hc2 HB1 HV1 C26 k0 k1 k2 k3 k4 k5 k6 k7
    rw [show ([] : List SpanB).length = 0 from rfl]
    go_wp2
    go_ret
    exact ⟨rfl, HB2.out⟩
  · rw [e2] at C26
    have HWF := HWL
    clear e2
    have E1 := Lib.hid e1
    have h0 : addE l s ≠ 0 := by omega
    have h2 : addE l s ≠ 2 := by omega
    generalize addE l s = x at *
    clear e1 E1
    have g0 : (x != 0) = true := by rw [bne_iff_ne]; exact h0
    have g2 : (x == 2) = false := by rw [beq_eq_false_iff_ne]; exact h2
    have g3 : (x != 2) = true := by rw [bne_iff_ne]; exact h2
    clear h0 h2
    go_enter Tryd.func6, Tryd.ntmps6
    go_wp2_with (go_at_call 17; refine (C17.out _ HB0.out).mono ?_)
    rintro e w1 ⟨rfl, hb⟩
    have HB1 := Lib.hid (bthen HB0.out hb)
    have HV1 := Lib.hid (HV0.out.below hb)
    clear hb HB0 HV0 C17
    obtain ⟨k0, k1, k2, k3, k4, k5, k6, k7⟩ := HV1.out
    simp only at k0 k1 k2 k3 k4 k5 k6 k7
    go_wp2_with (go_at_call 26; refine (C26.out _ HB1.out).mono ?_)
    rintro e w2 ⟨v2, rfl, hO2, hb⟩
    obtain ⟨A2, c2, us, rfl, hc2, hr2⟩ := hO2.shape HWF.out
    have HB2 := Lib.hid (bthen HB1.out hb)
    have HV2 := Lib.hid (HV1.out.below hb)
    have HR2 := Lib.hid hr2
    clear hb hr2 hO2 hc2 HB1 HV1 C26 k0 k1 k2 k3 k4 k5 k6 k7
    have C30 := Lib.hid (same30 A A2 c c2 vs us l l _ (HL.out.below HB2.out) HR2.out)
    rw [decide_eq_true rfl] at C30
    go_wp2_with (go_at_call 30; refine C30.out.mono ?_)
    rintro e w3 ⟨rfl, hb⟩
    have HB3 := Lib.hid (bthen HB2.out hb)
    clear hb C30
    go_wp2
    go_ret
    exact ⟨rfl, HB3.out⟩
  · rw [e1] at C26
    generalize addL l s = m at *
    clear e1
    have HWF : Hid (∀ x ∈ m, WfS x) := fun x hx => by
      rcases hmem x hx with h | h
      · exact HWL.out x h
      · rw [h]; exact HWS.out
    have HK : Hid (chkE m = 0) := by show _ = _; rw [chkE, hok]; rfl
    have HLEN := Lib.hid hlen
    have hml : m.length ≤ 9223372036854775807 := by have := okL_len hok; omega
    have hw : IntKind.i64.wrap ((m.length : Int) - (l.length : Int)) = 1 := by rw [wrap_in (by omega)]; omega
    have C28 : Hid (∀ A c us W, RdL W A us m → Calls Tryd.prog 28 #[.slice A m.length c, .int .i64 s.first] W (RetLE l 0 W)) := fun A c us W h => by
      have := drop28 A c us m s.first W h
      rwa [e3, e4] at this
    clear hok hlen e3 e4 hmem
    go_enter Tryd.func6, Tryd.ntmps6
    go_wp2_with (go_at_call 17; refine (C17.out _ HB0.out).mono ?_)
    rintro e w1 ⟨rfl, hb⟩
    have HB1 := Lib.hid (bthen HB0.out hb)
    have HV1 := Lib.hid (HV0.out.below hb)
    clear hb HB0 HV0 C17
    obtain ⟨k0, k1, k2, k3, k4, k5, k6, k7⟩ := HV1.out
    simp only at k0 k1 k2 k3 k4 k5 k6 k7
    go_wp2_with (go_at_call 26; refine (C26.out _ HB1.out).mono ?_)
    rintro e w2 ⟨v2, rfl, hO2, hb⟩
    obtain ⟨A2, c2, us, rfl, hc2, hr2⟩ := hO2.shape HWF.out
    have HB2 := Lib.hid (bthen HB1.out hb)
    have HV2 := Lib.hid (HV1.out.below hb)
    have HR2 := Lib.hid hr2
    clear hb hr2 hO2 hc2 HB1 HV1 C26 k0 k1 k2 k3 k4 k5 k6 k7
    obtain ⟨k0, k1, k2, k3, k4, k5, k6, k7⟩ := HV2.out
    simp only at k0 k1 k2 k3 k4 k5 k6 k7
    go_wp2_with (go_at_call 28; refine (C28.out _ _ _ _ HR2.out).mono ?_)
    rintro e w3 ⟨v3, rfl, hO3, hb⟩
    obtain ⟨A3, c3, us3, rfl, hc3, hr3⟩ := hO3.shape HWL.out
    have HB3 := Lib.hid (bthen HB2.out hb)
    have HR3 := Lib.hid hr3
    have HRM := Lib.hid (HR2.out.below hb)
    clear hb hr3 hO3 hc3 HB2 HV2 HR2 C28 k0 k1 k2 k3 k4 k5 k6 k7
    have C19 := Lib.hid (check19 _ c2 _ _ _ HRM.out)
    rw [HK.out] at C19
    go_wp2_with (go_at_call 19; refine C19.out.mono ?_)
    rintro e w4 ⟨rfl, hb⟩
    have HB4 := Lib.hid (bthen HB3.out hb)
    have HR4 := Lib.hid (HR3.out.below hb)
    clear hb C19 HB3 HR3 HRM
    have C30 := Lib.hid (same30 A A3 c c3 vs us3 l l _ (HL.out.below HB4.out) HR4.out)
    rw [decide_eq_true rfl] at C30
    go_wp2_with (go_at_call 30; refine C30.out.mono ?_)
    rintro e w5 ⟨rfl, hb⟩
    have HB5 := Lib.hid (bthen HB4.out hb)
    clear hb C30
    go_wp2
    go_ret
    exact ⟨rfl, HB5.out⟩
end Go.Proofs.YtchbbldanmmpjaaDoor
