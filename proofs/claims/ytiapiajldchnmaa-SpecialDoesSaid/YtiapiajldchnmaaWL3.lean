/- The walk of the law SpecialDoes. -/
import Derived.Test.YtiapiajldchnmaaWU
namespace Go.Proofs.Ytiapiajldchnmaa
open Go.RowKit
set_option linter.unusedVariables false
set_option linter.unusedSimpArgs false

set_option maxRecDepth 100000 in
set_option maxHeartbeats 8000000 in
theorem does3 (l more : List Sp) (A B : Option Addr) (c d : Nat) (x q : Int) (w : World) (hr : RdS w A l) (hc : l.length ≤ c) (hm : RdS w B more) (hy : l.length * 24 ≤ 140737488355328) :
    Calls Try.prog 3 #[.slice A l.length c, .slice B more.length d, .int .u64 x, .int .u8 q] w (Ret (.bool true) w) := by
  have hl := hr.len
  have hml := hm.len
  have HR := Lib.hid hr
  have HM := Lib.hid hm
  clear hr hm
  have C10 := Lib.hid (fun W A1 c1 h hc h2 => add10 l more A1 B c1 d W h hc h2)
  have C11 := Lib.hid (fun W h h2 => add11 l more A B c d W h hc h2)
  have C12 := Lib.hid (fun W A1 c1 h hc => of12 l A1 c1 x W h hc)
  have C13 := Lib.hid (fun W h => of13 l A c x W h hc)
  have C14 := Lib.hid (fun W A1 c1 h hc => take14 l A1 c1 x q W h hc)
  have C15 := Lib.hid (fun W h => take15 l A c x q W h hc)
  generalize (addP l more).1 = L1 at *
  generalize (addP l more).2 = n1 at *
  generalize ofP l x = L2 at *
  generalize takeL l x q = L3 at *
  generalize takeO l x q = L4 at *
  generalize checkP l = n2 at *
  go_enter Try.func3, Try.ntmps3
  go_wp2_with fail
  refine (copy9 l A c w HR.out hy).mono ?_
  intro e w1 h
  obtain ⟨v1, rfl, ho, hb⟩ := h
  obtain ⟨A1, c1, rfl, hc1, hr1⟩ := ho.shape
  have HB1 := Lib.hid hb
  have HK1 := Lib.hid hr1
  clear ho hb hr1
  go_wp2_with fail
  refine (C10.out _ A1 c1 HK1.out hc1 (HM.out.below HB1.out)).mono ?_
  intro e w2 h
  obtain ⟨A2, c2, rfl, -, -, hr2, hb⟩ := h.shape
  have HB2 := Lib.hid (bthen HB1.out hb)
  have HK1 := Lib.hid (HK1.out.below hb)
  have HK2 := Lib.hid hr2
  clear h hb hr2
  go_wp2_with fail
  refine (C11.out _ (HR.out.below HB2.out) (HM.out.below HB2.out)).mono ?_
  intro e w3 h
  obtain ⟨A3, c3, rfl, -, -, hr3, hb⟩ := h.shape
  have HB3 := Lib.hid (bthen HB2.out hb)
  have HK1 := Lib.hid (HK1.out.below hb)
  have HK2 := Lib.hid (HK2.out.below hb)
  have HK3 := Lib.hid hr3
  clear h hb hr3
  go_wp2_with fail
  refine (C12.out _ A1 c1 HK1.out hc1).mono ?_
  intro e w4 h
  obtain ⟨A4, c4, rfl, -, -, hr4, hb⟩ := h.shape
  have HB4 := Lib.hid (bthen HB3.out hb)
  have HK1 := Lib.hid (HK1.out.below hb)
  have HK2 := Lib.hid (HK2.out.below hb)
  have HK3 := Lib.hid (HK3.out.below hb)
  have HK4 := Lib.hid hr4
  clear h hb hr4
  go_wp2_with fail
  refine (C13.out _ (HR.out.below HB4.out)).mono ?_
  intro e w5 h
  obtain ⟨A5, c5, rfl, -, -, hr5, hb⟩ := h.shape
  have HB5 := Lib.hid (bthen HB4.out hb)
  have HK1 := Lib.hid (HK1.out.below hb)
  have HK2 := Lib.hid (HK2.out.below hb)
  have HK3 := Lib.hid (HK3.out.below hb)
  have HK4 := Lib.hid (HK4.out.below hb)
  have HK5 := Lib.hid hr5
  clear h hb hr5
  go_wp2_with fail
  refine (C14.out _ A1 c1 HK1.out hc1).mono ?_
  intro e w6 h
  obtain ⟨A6, c6, D6, d6, rfl, -, -, -, -, hr6, hs6, hb⟩ := h.shape
  have HB6 := Lib.hid (bthen HB5.out hb)
  have HK1 := Lib.hid (HK1.out.below hb)
  have HK2 := Lib.hid (HK2.out.below hb)
  have HK3 := Lib.hid (HK3.out.below hb)
  have HK4 := Lib.hid (HK4.out.below hb)
  have HK5 := Lib.hid (HK5.out.below hb)
  have HK6 := Lib.hid hr6
  have HJ6 := Lib.hid hs6
  clear h hb hr6 hs6
  go_wp2_with fail
  refine (C15.out _ (HR.out.below HB6.out)).mono ?_
  intro e w7 h
  obtain ⟨A7, c7, D7, d7, rfl, -, -, -, -, hr7, hs7, hb⟩ := h.shape
  have HB7 := Lib.hid (bthen HB6.out hb)
  have HK1 := Lib.hid (HK1.out.below hb)
  have HK2 := Lib.hid (HK2.out.below hb)
  have HK3 := Lib.hid (HK3.out.below hb)
  have HK4 := Lib.hid (HK4.out.below hb)
  have HK5 := Lib.hid (HK5.out.below hb)
  have HK6 := Lib.hid (HK6.out.below hb)
  have HJ6 := Lib.hid (HJ6.out.below hb)
  have HK7 := Lib.hid hr7
  have HJ7 := Lib.hid hs7
  clear h hb hr7 hs7 C10 C11 C12 C13 C14 C15
  go_wp2_with fail
  refine (lives16 _).mono ?_
  rintro e w8 ⟨rfl, hb⟩
  have Z8 := Lib.hid hb
  clear hb
  go_wp2_with fail
  refine (same17 L1 L1 A2 A3 c2 c3 _ (HK2.out.below Z8.out) (HK3.out.below Z8.out)).mono ?_
  rintro e w9 ⟨rfl, hb⟩
  have Z9 := Lib.hid (bthen Z8.out hb)
  clear hb
  simp only [decide_true]
  go_wp2_with fail
  refine (same17 L2 L2 A4 A5 c4 c5 _ (HK4.out.below Z9.out) (HK5.out.below Z9.out)).mono ?_
  rintro e w10 ⟨rfl, hb⟩
  have Z10 := Lib.hid (bthen Z9.out hb)
  clear hb
  simp only [decide_true]
  go_wp2_with fail
  refine (same17 L3 L3 A6 A7 c6 c7 _ (HK6.out.below Z10.out) (HK7.out.below Z10.out)).mono ?_
  rintro e w11 ⟨rfl, hb⟩
  have Z11 := Lib.hid (bthen Z10.out hb)
  clear hb
  simp only [decide_true]
  go_wp2_with fail
  refine (same17 L4 L4 D6 D7 d6 d7 _ (HJ6.out.below Z11.out) (HJ7.out.below Z11.out)).mono ?_
  rintro e w12 ⟨rfl, hb⟩
  have Z12 := Lib.hid (bthen Z11.out hb)
  clear hb
  simp only [decide_true]
  go_wp2_with fail
  refine (same17 l l A1 A c1 c _ (HK1.out.below Z12.out) (HR.out.below (bthen HB7.out Z12.out))).mono ?_
  rintro e w13 ⟨rfl, hb⟩
  have Z13 := Lib.hid (bthen Z12.out hb)
  clear hb
  simp only [decide_true]
  go_wp2
  go_ret
  exact ⟨rfl, bthen HB7.out Z13.out⟩
end Go.Proofs.Ytiapiajldchnmaa
