/- The law SpanMakes, walked. -/
import Derived.Test.YtchbbldanmmpjaaDoorT7
namespace Go.Proofs.YtchbbldanmmpjaaDoor
open Go.RowKit
set_option linter.unusedVariables false
set_option linter.unusedSimpArgs false

theorem makeS_wf {f p z : Int} (hf : -9223372036854775808 ≤ f ∧ f ≤ 9223372036854775807) (hp : -9223372036854775808 ≤ p ∧ p ≤ 9223372036854775807) (hz : -9223372036854775808 ≤ z ∧ z ≤ 9223372036854775807) : WfS (makeS f p z) := by
  unfold makeS
  split
  · rename_i h
    have hm := manyP_of h.1
    unfold freshS
    exact ⟨⟨by simp only; omega, by simp only; omega, by simp⟩, ⟨by simp only; omega, by simp only; omega, by simp⟩, hf, hp, hz⟩
  · unfold zeroS
    exact ⟨⟨by simp, by simp, by simp⟩, ⟨by simp, by simp, by simp⟩, by simp, by simp, by simp⟩

set_option maxRecDepth 100000 in
set_option maxHeartbeats 16000000 in
theorem makes3 (f p z k : Int) (v : SpanV) (s : SpanB) (A : Option Addr) (c : Nat) (vs : List SpanV) (l : List SpanB) (w : World) (hf : -9223372036854775808 ≤ f ∧ f ≤ 9223372036854775807) (hp : -9223372036854775808 ≤ p ∧ p ≤ 9223372036854775807) (hz : -9223372036854775808 ≤ z ∧ z ≤ 9223372036854775807)
    (hs : RdN w v s) (hl : RdL w A vs l) (hT : Tab w) :
    Calls Tryd.prog 3 #[.int .i64 f, .int .i64 p, .int .i64 z, v.v, .int .i64 k, .slice A l.length c] w (Ret (.bool true) w) := by
  have HWF := Lib.hid (makeS_wf hf hp hz)
  have C11 : Hid (∀ W, Calls Tryd.prog 11 #[.int .i64 f, .int .i64 p, .int .i64 z] W (RetNE (makeS f p z) (makeSE f p z) W)) := fun W => make11 f p z W hf
  have C12 : Hid (∀ W, Calls Tryd.prog 12 #[.int .i64 f, .int .i64 p, .int .i64 z] W (RetNE (makeS f p z) (makeSE f p z) W)) := fun W => make12 f p z W hf hp hz
  have C13 : Hid (∀ W, Below w.heap.size w W → Calls Tryd.prog 13 #[v.v] W (Ret (.tuple #[.int .i64 (slotsN s), .int .i64 (rightE s)]) W)) := fun W hW => slots13 v s W (hs.below hW)
  have C14 : Hid (∀ W, Below w.heap.size w W → Calls Tryd.prog 14 #[v.v] W (Ret (.tuple #[.int .i64 (slotsN s), .int .i64 (rightE s)]) W)) := fun W hW => slots14 v s W (hs.below hW)
  have C15 : Hid (∀ W, Below w.heap.size w W → Calls Tryd.prog 15 #[v.v, .int .i64 k] W (Ret (.tuple #[.int .u64 (addrN s k), .int .i64 (addrE s k)]) W)) := fun W hW => addr15 v s k W (hs.below hW)
  have C16 : Hid (∀ W, Below w.heap.size w W → Calls Tryd.prog 16 #[v.v, .int .i64 k] W (Ret (.tuple #[.int .u64 (addrN s k), .int .i64 (addrE s k)]) W)) := fun W hW => addr16 v s k W (hs.below hW)
  have C17 : Hid (∀ W, Below w.heap.size w W → Calls Tryd.prog 17 #[] W (Ret (.bool true) W)) := fun W hW => lives17 W (hT.below hW)
  have C19 : Hid (∀ W, Below w.heap.size w W → Calls Tryd.prog 19 #[.slice A l.length c] W (Ret (.int .i64 (chkE l)) W)) := fun W hW => check19 A c vs l W (hl.below hW)
  have C20 : Hid (∀ W, Below w.heap.size w W → Calls Tryd.prog 20 #[.slice A l.length c] W (Ret (.int .i64 (chkE l)) W)) := fun W hW => check20 A c vs l W (hl.below hW)
  have hll := hl.len
  clear hf hp hz hs hl hT
  generalize makeS f p z = a at *
  generalize makeSE f p z = ea at *
  generalize slotsN s = n1 at *
  generalize rightE s = e1 at *
  generalize addrN s k = n2 at *
  generalize addrE s k = e2 at *
  generalize chkE l = e3 at *
  clear s
  have HV0 := Lib.hid (VarS.made w v w.heap.size rfl)
  have HB0 := Lib.hid (balloc (Below.refl w.heap.size w) (.cells #[.int .i64 v.first, .int .i64 v.pages, .int .i64 v.size, .int .i64 v.al.n, .slice v.al.A v.al.m v.al.c, .int .i64 v.ma.n, .slice v.ma.A v.ma.m v.ma.c, .bool v.sw] 26))
  obtain ⟨vf, vp, vz, ⟨n, A1, m1, c1⟩, ⟨n', A2, m2, c2⟩, sw⟩ := v
  unfold SpanV.v at C13 C14 C15 C16 ⊢
  simp only at C13 C14 C15 C16 HV0 HB0 ⊢
  go_enter Tryd.func3, Tryd.ntmps3
  go_wp2_with (go_at_call 11; refine (C11.out _).mono ?_)
  rintro e w1 ⟨⟨f1, p1, z1, ⟨n1a, B1, q1, d1⟩, ⟨n1b, B2, q2, d2⟩, sw1⟩, rfl, hN1, hb1⟩
  have HB1 := Lib.hid (bthen HB0.out hb1)
  have HX1 := Lib.hid (hN1.rd HWF.out)
  have HV1 := Lib.hid (HV0.out.below hb1)
  clear hN1 hb1 C11 HB0 HV0
  unfold SpanV.v
  simp only
  have HW1 := Lib.hid (balloc (Below.refl w1.heap.size w1) (.cells #[.int .i64 f1, .int .i64 p1, .int .i64 z1, .int .i64 n1a, .slice B1 q1 d1, .int .i64 n1b, .slice B2 q2 d2, .bool sw1] 26))
  have HVa1 := Lib.hid (VarS.made w1 ⟨f1, p1, z1, ⟨n1a, B1, q1, d1⟩, ⟨n1b, B2, q2, d2⟩, sw1⟩ w1.heap.size rfl)
  go_wp2_with (go_at_call 12; refine (C12.out _).mono ?_)
  rintro e w2 ⟨⟨f2, p2, z2, ⟨n2a, E1, r1, g1⟩, ⟨n2b, E2, r2, g2⟩, sw2⟩, rfl, hN2, hb2⟩
  have HB2 := Lib.hid (bthen (bthen HB1.out HW1.out) hb2)
  have HX2 := Lib.hid (hN2.rd HWF.out)
  have HXa2 := Lib.hid ((HX1.out.below HW1.out).below hb2)
  have HV2 := Lib.hid ((HV1.out.below HW1.out).below hb2)
  have HVa2 := Lib.hid (HVa1.out.below hb2)
  clear hN2 hb2 C12 HB1 HV1 HX1 HVa1 HW1
  unfold SpanV.v
  simp only
  have HW2 := Lib.hid (balloc (Below.refl w2.heap.size w2) (.cells #[.int .i64 f2, .int .i64 p2, .int .i64 z2, .int .i64 n2a, .slice E1 r1 g1, .int .i64 n2b, .slice E2 r2 g2, .bool sw2] 26))
  have HVb := Lib.hid (VarS.made w2 ⟨f2, p2, z2, ⟨n2a, E1, r1, g1⟩, ⟨n2b, E2, r2, g2⟩, sw2⟩ w2.heap.size rfl)
  have HB := Lib.hid (bthen HB2.out HW2.out)
  have HV := Lib.hid (HV2.out.below HW2.out)
  have HVa := Lib.hid (HVa2.out.below HW2.out)
  have HXa := Lib.hid (HXa2.out.below HW2.out)
  have HXb := Lib.hid (HX2.out.below HW2.out)
  clear HB2 HV2 HVa2 HXa2 HX2 HW2 HWF
  obtain ⟨k0, k1, k2, k3, k4, k5, k6, k7⟩ := HV.out
  simp only at k0 k1 k2 k3 k4 k5 k6 k7
  go_wp2_with (go_at_call 13; refine (C13.out _ HB.out).mono ?_)
  rintro e w3 ⟨rfl, hb⟩
  have HV' := Lib.hid (HV.out.below hb)
  have HB' := Lib.hid (bthen HB.out hb)
  have HVa' := Lib.hid (HVa.out.below hb)
  have HVb' := Lib.hid (HVb.out.below hb)
  have HXa' := Lib.hid (HXa.out.below hb)
  have HXb' := Lib.hid (HXb.out.below hb)
  clear HV HB HVa HVb HXa HXb hb k0 k1 k2 k3 k4 k5 k6 k7 C13
  have HV := HV'
  have HB := HB'
  have HVa := HVa'
  have HVb := HVb'
  have HXa := HXa'
  have HXb := HXb'
  clear HV' HB' HVa' HVb' HXa' HXb'
  obtain ⟨k0, k1, k2, k3, k4, k5, k6, k7⟩ := HV.out
  simp only at k0 k1 k2 k3 k4 k5 k6 k7
  go_wp2_with (go_at_call 14; refine (C14.out _ HB.out).mono ?_)
  rintro e w4 ⟨rfl, hb⟩
  have HV' := Lib.hid (HV.out.below hb)
  have HB' := Lib.hid (bthen HB.out hb)
  have HVa' := Lib.hid (HVa.out.below hb)
  have HVb' := Lib.hid (HVb.out.below hb)
  have HXa' := Lib.hid (HXa.out.below hb)
  have HXb' := Lib.hid (HXb.out.below hb)
  clear HV HB HVa HVb HXa HXb hb k0 k1 k2 k3 k4 k5 k6 k7 C14
  have HV := HV'
  have HB := HB'
  have HVa := HVa'
  have HVb := HVb'
  have HXa := HXa'
  have HXb := HXb'
  clear HV' HB' HVa' HVb' HXa' HXb'
  obtain ⟨k0, k1, k2, k3, k4, k5, k6, k7⟩ := HV.out
  simp only at k0 k1 k2 k3 k4 k5 k6 k7
  go_wp2_with (go_at_call 15; refine (C15.out _ HB.out).mono ?_)
  rintro e w5 ⟨rfl, hb⟩
  have HV' := Lib.hid (HV.out.below hb)
  have HB' := Lib.hid (bthen HB.out hb)
  have HVa' := Lib.hid (HVa.out.below hb)
  have HVb' := Lib.hid (HVb.out.below hb)
  have HXa' := Lib.hid (HXa.out.below hb)
  have HXb' := Lib.hid (HXb.out.below hb)
  clear HV HB HVa HVb HXa HXb hb k0 k1 k2 k3 k4 k5 k6 k7 C15
  have HV := HV'
  have HB := HB'
  have HVa := HVa'
  have HVb := HVb'
  have HXa := HXa'
  have HXb := HXb'
  clear HV' HB' HVa' HVb' HXa' HXb'
  obtain ⟨k0, k1, k2, k3, k4, k5, k6, k7⟩ := HV.out
  simp only at k0 k1 k2 k3 k4 k5 k6 k7
  go_wp2_with (go_at_call 16; refine (C16.out _ HB.out).mono ?_)
  rintro e w6 ⟨rfl, hb⟩
  have HV' := Lib.hid (HV.out.below hb)
  have HB' := Lib.hid (bthen HB.out hb)
  have HVa' := Lib.hid (HVa.out.below hb)
  have HVb' := Lib.hid (HVb.out.below hb)
  have HXa' := Lib.hid (HXa.out.below hb)
  have HXb' := Lib.hid (HXb.out.below hb)
  clear HV HB HVa HVb HXa HXb hb k0 k1 k2 k3 k4 k5 k6 k7 C16
  have HV := HV'
  have HB := HB'
  have HVa := HVa'
  have HVb := HVb'
  have HXa := HXa'
  have HXb := HXb'
  clear HV' HB' HVa' HVb' HXa' HXb'
  obtain ⟨k0, k1, k2, k3, k4, k5, k6, k7⟩ := HV.out
  simp only at k0 k1 k2 k3 k4 k5 k6 k7
  go_wp2_with (go_at_call 17; refine (C17.out _ HB.out).mono ?_)
  rintro e w7 ⟨rfl, hb⟩
  have HV' := Lib.hid (HV.out.below hb)
  have HB' := Lib.hid (bthen HB.out hb)
  have HVa' := Lib.hid (HVa.out.below hb)
  have HVb' := Lib.hid (HVb.out.below hb)
  have HXa' := Lib.hid (HXa.out.below hb)
  have HXb' := Lib.hid (HXb.out.below hb)
  clear HV HB HVa HVb HXa HXb hb k0 k1 k2 k3 k4 k5 k6 k7 C17
  have HV := HV'
  have HB := HB'
  have HVa := HVa'
  have HVb := HVb'
  have HXa := HXa'
  have HXb := HXb'
  clear HV' HB' HVa' HVb' HXa' HXb'
  have C18 := Lib.hid (same18 _ _ _ _ _ HXa.out HXb.out)
  rw [sameS_iff.2 rfl] at C18
  unfold SpanV.v at C18
  simp only at C18
  obtain ⟨k0, k1, k2, k3, k4, k5, k6, k7⟩ := HVa.out
  obtain ⟨i0, i1, i2, i3, i4, i5, i6, i7⟩ := HVb.out
  simp only at k0 k1 k2 k3 k4 k5 k6 k7 i0 i1 i2 i3 i4 i5 i6 i7
  go_wp2_with (go_at_call 18; refine C18.out.mono ?_)
  rintro e w8 ⟨rfl, hb⟩
  have HB8 := Lib.hid (bthen HB.out hb)
  clear C18 HVa HVb HV HXa HXb HB hb k0 k1 k2 k3 k4 k5 k6 k7 i0 i1 i2 i3 i4 i5 i6 i7
  go_wp2_with (go_at_call 19; refine (C19.out _ HB8.out).mono ?_)
  rintro e w9 ⟨rfl, hb⟩
  have HB9 := Lib.hid (bthen HB8.out hb)
  clear hb C19
  go_wp2_with (go_at_call 20; refine (C20.out _ HB9.out).mono ?_)
  rintro e w10 ⟨rfl, hb⟩
  have HB10 := Lib.hid (bthen HB9.out hb)
  clear hb C20
  go_wp2
  go_ret
  exact ⟨rfl, HB10.out⟩
end Go.Proofs.YtchbbldanmmpjaaDoor
