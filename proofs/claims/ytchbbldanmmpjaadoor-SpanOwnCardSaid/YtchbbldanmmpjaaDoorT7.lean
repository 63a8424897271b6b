/- The walk of lives. -/
import Derived.Test.YtchbbldanmmpjaaDoorT6
namespace Go.Proofs.YtchbbldanmmpjaaDoor
open Go.RowKit
set_option linter.unusedVariables false
set_option linter.unusedSimpArgs false

def s0 : SpanB := freshS 1 1 4
def s1 : SpanB := { s0 with al := putB s0.al 2 true }
theorem s1_wf : WfS s1 := by
  have e : s1 = ⟨1, 1, 4, ⟨4, [4]⟩, ⟨4, [0]⟩, true⟩ := by decide +kernel
  rw [e]
  refine ⟨⟨?_, ?_, ?_⟩, ⟨?_, ?_, ?_⟩, ?_, ?_, ?_⟩ <;> simp
theorem s0_wf : WfS s0 := by
  have e : s0 = ⟨1, 1, 4, ⟨4, [0]⟩, ⟨4, [0]⟩, true⟩ := by decide +kernel
  rw [e]
  refine ⟨⟨?_, ?_, ?_⟩, ⟨?_, ?_, ?_⟩, ?_, ?_, ?_⟩ <;> simp
theorem e_make : makeS 1 1 4 = s0 ∧ makeSE 1 1 4 = 0 := by decide +kernel
theorem e_put : putB s0.al 2 true = s1.al ∧ putE s0.al 2 = 0 := by decide +kernel
theorem e_add : addL [] s1 = [s1] ∧ addE [] s1 = 0 := by decide +kernel
theorem e_find : findP [s1] 24 = ⟨0, 2, 0⟩ ∧ findP [s1] 20 = ⟨0, 0, 10⟩ ∧ findP [s1] 32 = ⟨0, 0, 3⟩ := by decide +kernel
theorem e_addr : addrN s1 2 = 24 ∧ addrE s1 2 = 0 := by decide +kernel
theorem e_slots : slotsN s1 = 4 ∧ rightE s1 = 0 := by decide +kernel
theorem e_room : roomP [s1] 4 = ⟨0, 0, 0⟩ := by decide +kernel
theorem e_add2 : addE [s1] s1 = 4 := by decide +kernel
theorem e_drop : dropL [s1] 1 = [] ∧ dropE [s1] 1 = 0 := by decide +kernel
theorem e_chk : chkE [s1] = 0 := by decide +kernel
theorem VarS.put_al {w : World} {b : Nat} {x : SpanV} (h : VarS w b x) (a : BitV) : VarS ((w.setCell ⟨b, 3, none⟩ (.int .i64 a.n)).setCell ⟨b, 4, none⟩ (.slice a.A a.m a.c)) b { x with al := a } := by
  obtain ⟨h0, h1, h2, h3, h4, h5, h6, h7⟩ := h
  constructor <;> (show _ = _; go_simp)
set_option maxRecDepth 100000 in
set_option maxHeartbeats 8000000 in
theorem lives17 (w : World) (hT : Tab w) : Calls Tryd.prog 17 #[] w (Ret (.bool true) w) := by
  have HT := Lib.hid hT
  clear hT
  have C11 : Hid (∀ W, Calls Tryd.prog 11 #[.int .i64 1, .int .i64 1, .int .i64 4] W (RetNE s0 0 W)) := fun W => by
    have := make11 1 1 4 W (by omega)
    rwa [e_make.1, e_make.2] at this
  go_enter Tryd.func17, Tryd.ntmps17
  go_wp2_with (go_at_call 11; refine (C11.out _).mono ?_)
  rintro e w1 ⟨⟨f, p, z, ⟨n, A1, m1, c1⟩, ⟨n', A2, m2, c2⟩, sw⟩, rfl, hN, hb⟩
  have HB1 := Lib.hid hb
  have HT1 := Lib.hid (HT.out.below hb)
  have hR1 := hN.rd s0_wf
  have HR1 := Lib.hid hR1
  have HM1 := Lib.hid hN.ma
  have HMM := Lib.hid (And.intro hN.mm hN.mc)
  obtain ⟨r1, r2, r3, r4, r5, r6, r7, r8, r9, r10, r11, r12⟩ := hN
  simp only at r1 r2 r3 r4 r5 r9
  have HE := Lib.hid (And.intro r1 (And.intro r2 (And.intro r3 (And.intro r4 (And.intro r5 r9)))))
  clear hb C11 r1 r2 r3 r4 r5 r6 r7 r8 r9 r10 r11 r12 hR1
  unfold SpanV.v
  simp only
  have HW2 := Lib.hid (balloc (Below.refl w1.heap.size w1) (.cells #[.int .i64 f, .int .i64 p, .int .i64 z, .int .i64 n, .slice A1 m1 c1, .int .i64 n', .slice A2 m2 c2, .bool sw] 26))
  have HV2 := Lib.hid (VarS.made w1 ⟨f, p, z, ⟨n, A1, m1, c1⟩, ⟨n', A2, m2, c2⟩, sw⟩ w1.heap.size rfl)
  have C44 := Lib.hid (put44 ⟨n, A1, m1, c1⟩ s0.al 2 true _ (HR1.out.al.below HW2.out))
  unfold BitV.v at C44
  rw [e_put.1, e_put.2] at C44
  go_wp2_with (go_at_call 44; refine C44.out.mono ?_)
  rintro e w3 ⟨⟨n3, A3, m3, c3⟩, rfl, hn3, hm3, hcap3, ho3, hb3⟩
  simp only at hn3 hm3 hcap3 ho3
  unfold BitV.v
  simp only
  have HB3 := Lib.hid (bthen (bthen HB1.out HW2.out) hb3)
  have HV3 := Lib.hid (HV2.out.below hb3)
  have hs2 : w1.heap.size < (w1.alloc (.cells #[.int .i64 f, .int .i64 p, .int .i64 z, .int .i64 n, .slice A1 m1 c1, .int .i64 n', .slice A2 m2 c2, .bool sw] 26)).heap.size := by simp
  have HA3 : Hid (OwU ((w3.setCell ⟨w1.heap.size, 3, none⟩ (.int .i64 n3)).setCell ⟨w1.heap.size, 4, none⟩ (.slice A3 m3 c3)) w1.heap.size (.slice A3 m3 c3) s1.al.w) :=
    OwU.mono ((ho3.set_lo hs2 _).set_lo hs2 _) (by omega)
  have HM3 : Hid (OwU ((w3.setCell ⟨w1.heap.size, 3, none⟩ (.int .i64 n3)).setCell ⟨w1.heap.size, 4, none⟩ (.slice A3 m3 c3)) w.heap.size (.slice A2 m2 c2) s1.ma.w) := by
    have hne : ∀ k, (Value.slice A2 m2 c2).ownBlock = some k → k ≠ w1.heap.size := fun k hk => by have := (HM1.out.lt k hk).2; omega
    exact (((HM1.out.below HW2.out).below hb3).set_ne hne _).set_ne hne _
  have HB4 : Hid (Below w.heap.size w ((w3.setCell ⟨w1.heap.size, 3, none⟩ (.int .i64 n3)).setCell ⟨w1.heap.size, 4, none⟩ (.slice A3 m3 c3))) := (HB3.out.setCell (show w.heap.size ≤ w1.heap.size from HB1.out.size) _).setCell (show w.heap.size ≤ w1.heap.size from HB1.out.size) _
  have HV4 := Lib.hid (VarS.put_al HV3.out ⟨n3, A3, m3, c3⟩)
  have HT4 := Lib.hid (HT.out.below HB4.out)
  have HN4 : Hid (RdN ((w3.setCell ⟨w1.heap.size, 3, none⟩ (.int .i64 n3)).setCell ⟨w1.heap.size, 4, none⟩ (.slice A3 m3 c3)) ⟨f, p, z, ⟨n3, A3, m3, c3⟩, ⟨n', A2, m2, c2⟩, sw⟩ s1) :=
    ⟨HE.out.1, HE.out.2.1, HE.out.2.2.1, HE.out.2.2.2.1, ⟨hn3, hm3, hcap3, s1_wf.al.lo, s1_wf.al.hi, s1_wf.al.words, HA3.out.rd hm3.symm⟩, ⟨HE.out.2.2.2.2.2, HMM.out.1, HMM.out.2, s1_wf.ma.lo, s1_wf.ma.hi, s1_wf.ma.words, HM3.out.rd HMM.out.1.symm⟩, s1_wf.f1, s1_wf.p1, s1_wf.z1⟩
  obtain ⟨k0, k1, k2, k3, k4, k5, k6, k7⟩ := HV3.out
  simp only at k0 k1 k2 k3 k4 k5 k6 k7
  have fr : ∀ j, j < 8 → w3.frozen? ⟨w1.heap.size, j, none⟩ = false := (FreeS.made w1 (.int .i64 f) (.int .i64 p) (.int .i64 z) (.int .i64 n) (.slice A1 m1 c1) (.int .i64 n') (.slice A2 m2 c2) (.bool sw) w1.heap.size rfl).below hb3 hs2
  have C26 := Lib.hid (add26 none 0 [] [] _ s1 _ ⟨RdS.nil_ _ _, rfl, fun i v s hv => by simp at hv⟩ HN4.out)
  rw [e_add.1, e_add.2] at C26
  unfold SpanV.v at C26
  simp only [List.length_nil] at C26
  clear hb3 ho3 hn3 hm3 hcap3 hs2 HW2 HV2 C44
  go_wp2_with (go_at_call 26; refine C26.out.mono ?_)
  rintro e w5 ⟨v5, rfl, hO5, hb⟩
  obtain ⟨A5, c5, us, rfl, hc5, hr5⟩ := hO5.shape (fun s hs => by rw [List.mem_singleton.1 hs]; exact s1_wf)
  have HB5 := Lib.hid (bthen HB4.out hb)
  have HV5 := Lib.hid (HV4.out.below hb)
  have HN5 := Lib.hid (HN4.out.below hb)
  have HT5 := Lib.hid (HT4.out.below hb)
  have HL5 := Lib.hid hr5
  clear hb hr5 hO5 hc5 C26 HN4 HV4 HT4 HV3 HA3 HM3 HM1 HMM HE HR1 HT1 HB1 HB3 k0 k1 k2 k3 k4 k5 k6 k7 fr
  rw [show [s1].length = 1 from rfl]
  have C21a : Hid (∀ W, RdL W A5 us [s1] → Calls Tryd.prog 21 #[.slice A5 1 c5, .int .u64 24] W (Ret (.tuple #[.int .i64 0, .int .i64 2, .int .i64 0]) W)) := fun W h => by
    have := find21 A5 c5 us [s1] 24 W h (by omega)
    rw [e_find.1] at this
    exact this
  have C21b : Hid (∀ W, RdL W A5 us [s1] → Calls Tryd.prog 21 #[.slice A5 1 c5, .int .u64 20] W (Ret (.tuple #[.int .i64 0, .int .i64 0, .int .i64 10]) W)) := fun W h => by
    have := find21 A5 c5 us [s1] 20 W h (by omega)
    rw [e_find.2.1] at this
    exact this
  have C21c : Hid (∀ W, RdL W A5 us [s1] → Calls Tryd.prog 21 #[.slice A5 1 c5, .int .u64 32] W (Ret (.tuple #[.int .i64 0, .int .i64 0, .int .i64 3]) W)) := fun W h => by
    have := find21 A5 c5 us [s1] 32 W h (by omega)
    rw [e_find.2.2] at this
    exact this
  have C15 : Hid (∀ W, RdN W ⟨f, p, z, ⟨n3, A3, m3, c3⟩, ⟨n', A2, m2, c2⟩, sw⟩ s1 → Calls Tryd.prog 15 #[SpanV.v ⟨f, p, z, ⟨n3, A3, m3, c3⟩, ⟨n', A2, m2, c2⟩, sw⟩, .int .i64 2] W (Ret (.tuple #[.int .u64 24, .int .i64 0]) W)) := fun W h => by
    have := addr15 _ s1 2 W h
    rw [e_addr.1, e_addr.2] at this
    exact this
  have C13 : Hid (∀ W, RdN W ⟨f, p, z, ⟨n3, A3, m3, c3⟩, ⟨n', A2, m2, c2⟩, sw⟩ s1 → Calls Tryd.prog 13 #[SpanV.v ⟨f, p, z, ⟨n3, A3, m3, c3⟩, ⟨n', A2, m2, c2⟩, sw⟩] W (Ret (.tuple #[.int .i64 4, .int .i64 0]) W)) := fun W h => by
    have := slots13 _ s1 W h
    rw [e_slots.1, e_slots.2] at this
    exact this
  have C23 : Hid (∀ W, RdL W A5 us [s1] → Tab W → Calls Tryd.prog 23 #[.slice A5 1 c5, .int .i64 4] W (Ret (.tuple #[.int .i64 0, .int .i64 0, .int .i64 0]) W)) := fun W h h2 => by
    have := room23 A5 c5 us [s1] 4 W h h2
    rw [e_room] at this
    exact this
  have C26 : Hid (∀ W, RdL W A5 us [s1] → RdN W ⟨f, p, z, ⟨n3, A3, m3, c3⟩, ⟨n', A2, m2, c2⟩, sw⟩ s1 → Calls Tryd.prog 26 #[.slice A5 1 c5, SpanV.v ⟨f, p, z, ⟨n3, A3, m3, c3⟩, ⟨n', A2, m2, c2⟩, sw⟩] W (RetLE (addL [s1] s1) 4 W)) := fun W h h2 => by
    have := add26 A5 c5 us [s1] _ s1 W h h2
    rw [e_add2] at this
    exact this
  have C28 : Hid (∀ W, RdL W A5 us [s1] → Calls Tryd.prog 28 #[.slice A5 1 c5, .int .i64 1] W (RetLE [] 0 W)) := fun W h => by
    have := drop28 A5 c5 us [s1] 1 W h
    rw [e_drop.1, e_drop.2] at this
    exact this
  have C19 : Hid (∀ W, RdL W A5 us [s1] → Calls Tryd.prog 19 #[.slice A5 1 c5] W (Ret (.int .i64 0) W)) := fun W h => by
    have := check19 A5 c5 us [s1] W h
    rw [e_chk] at this
    exact this
  unfold SpanV.v at C15 C13 C26
  simp only at C15 C13 C26
  go_wp2_with (go_at_call 21; refine (C21a.out _ HL5.out).mono ?_)
  rintro e w6 ⟨rfl, hb⟩
  have HB6 := Lib.hid (bthen HB5.out hb)
  have HV6 := Lib.hid (HV5.out.below hb)
  have HN6 := Lib.hid (HN5.out.below hb)
  have HL6 := Lib.hid (HL5.out.below hb)
  have HT6 := Lib.hid (HT5.out.below hb)
  clear hb
  obtain ⟨k0, k1, k2, k3, k4, k5, k6, k7⟩ := HV6.out
  simp only at k0 k1 k2 k3 k4 k5 k6 k7
  clear k0 k1 k2 k3 k4 k5 k6 k7
  clear C21a
  go_wp2_with (go_at_call 21; refine (C21b.out _ HL6.out).mono ?_)
  rintro e w7 ⟨rfl, hb⟩
  have HB7 := Lib.hid (bthen HB6.out hb)
  have HV7 := Lib.hid (HV6.out.below hb)
  have HN7 := Lib.hid (HN6.out.below hb)
  have HL7 := Lib.hid (HL6.out.below hb)
  have HT7 := Lib.hid (HT6.out.below hb)
  clear hb
  obtain ⟨k0, k1, k2, k3, k4, k5, k6, k7⟩ := HV7.out
  simp only at k0 k1 k2 k3 k4 k5 k6 k7
  clear k0 k1 k2 k3 k4 k5 k6 k7
  clear C21b
  go_wp2_with (go_at_call 21; refine (C21c.out _ HL7.out).mono ?_)
  rintro e w8 ⟨rfl, hb⟩
  have HB8 := Lib.hid (bthen HB7.out hb)
  have HV8 := Lib.hid (HV7.out.below hb)
  have HN8 := Lib.hid (HN7.out.below hb)
  have HL8 := Lib.hid (HL7.out.below hb)
  have HT8 := Lib.hid (HT7.out.below hb)
  clear hb
  obtain ⟨k0, k1, k2, k3, k4, k5, k6, k7⟩ := HV8.out
  simp only at k0 k1 k2 k3 k4 k5 k6 k7
  go_wp2_with (go_at_call 15; refine (C15.out _ HN8.out).mono ?_)
  rintro e w9 ⟨rfl, hb⟩
  clear k0 k1 k2 k3 k4 k5 k6 k7
  have HB9 := Lib.hid (bthen HB8.out hb)
  have HV9 := Lib.hid (HV8.out.below hb)
  have HN9 := Lib.hid (HN8.out.below hb)
  have HL9 := Lib.hid (HL8.out.below hb)
  have HT9 := Lib.hid (HT8.out.below hb)
  clear hb
  obtain ⟨k0, k1, k2, k3, k4, k5, k6, k7⟩ := HV9.out
  simp only at k0 k1 k2 k3 k4 k5 k6 k7
  go_wp2_with (go_at_call 13; refine (C13.out _ HN9.out).mono ?_)
  rintro e w10 ⟨rfl, hb⟩
  clear k0 k1 k2 k3 k4 k5 k6 k7
  have HB10 := Lib.hid (bthen HB9.out hb)
  have HV10 := Lib.hid (HV9.out.below hb)
  have HN10 := Lib.hid (HN9.out.below hb)
  have HL10 := Lib.hid (HL9.out.below hb)
  have HT10 := Lib.hid (HT9.out.below hb)
  clear hb
  obtain ⟨k0, k1, k2, k3, k4, k5, k6, k7⟩ := HV10.out
  simp only at k0 k1 k2 k3 k4 k5 k6 k7
  go_wp2_with (go_at_call 23; refine (C23.out _ HL10.out HT10.out).mono ?_)
  rintro e w11 ⟨rfl, hb⟩
  clear k0 k1 k2 k3 k4 k5 k6 k7
  have HB11 := Lib.hid (bthen HB10.out hb)
  have HV11 := Lib.hid (HV10.out.below hb)
  have HN11 := Lib.hid (HN10.out.below hb)
  have HL11 := Lib.hid (HL10.out.below hb)
  have HT11 := Lib.hid (HT10.out.below hb)
  clear hb
  obtain ⟨k0, k1, k2, k3, k4, k5, k6, k7⟩ := HV11.out
  simp only at k0 k1 k2 k3 k4 k5 k6 k7
  go_wp2_with (go_at_call 26; refine (C26.out _ HL11.out HN11.out).mono ?_)
  rintro e w12 ⟨v12, rfl, hO12, hb⟩
  clear hO12
  clear k0 k1 k2 k3 k4 k5 k6 k7
  have HB12 := Lib.hid (bthen HB11.out hb)
  have HV12 := Lib.hid (HV11.out.below hb)
  have HN12 := Lib.hid (HN11.out.below hb)
  have HL12 := Lib.hid (HL11.out.below hb)
  have HT12 := Lib.hid (HT11.out.below hb)
  clear hb
  obtain ⟨k0, k1, k2, k3, k4, k5, k6, k7⟩ := HV12.out
  simp only at k0 k1 k2 k3 k4 k5 k6 k7
  clear k0 k1 k2 k3 k4 k5 k6 k7
  go_wp2_with (go_at_call 28; refine (C28.out _ HL12.out).mono ?_)
  rintro e w13 ⟨v13, rfl, ⟨us13, hO13, hN13⟩, hb⟩
  have e13 : us13 = [] := List.eq_nil_of_length_eq_zero hN13.1
  subst e13
  obtain ⟨A13, c13, rfl, _, _⟩ := hO13.shape
  clear hO13 hN13
  have HB13 := Lib.hid (bthen HB12.out hb)
  have HV13 := Lib.hid (HV12.out.below hb)
  have HN13 := Lib.hid (HN12.out.below hb)
  have HL13 := Lib.hid (HL12.out.below hb)
  have HT13 := Lib.hid (HT12.out.below hb)
  clear hb
  obtain ⟨k0, k1, k2, k3, k4, k5, k6, k7⟩ := HV13.out
  simp only at k0 k1 k2 k3 k4 k5 k6 k7
  clear k0 k1 k2 k3 k4 k5 k6 k7
  rw [show ([] : List SpanV).length = 0 from rfl]
  go_wp2_with (go_at_call 19; refine (C19.out _ HL13.out).mono ?_)
  rintro e w14 ⟨rfl, hb⟩
  have HB14 := Lib.hid (bthen HB13.out hb)
  clear hb
  go_wp2
  go_ret
  exact ⟨rfl, HB14.out⟩
end Go.Proofs.YtchbbldanmmpjaaDoor
