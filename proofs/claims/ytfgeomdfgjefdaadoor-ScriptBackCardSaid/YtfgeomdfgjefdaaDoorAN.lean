/- The laws ScriptReads and ScriptWrites walked. -/
import Derived.Test.YtfgeomdfgjefdaaDoorAM
namespace Go.Proofs.YtfgeomdfgjefdaaDoor
open Go.RowKit
set_option linter.unusedVariables false
set_option linter.unusedSimpArgs false

theorem same_refl (l : List Ev) (A B : Option Addr) (c d : Nat) (w : World) (hr : RdS w A l) (hs : RdS w B l) : Calls Tryd.prog 11 #[.slice A l.length c, .slice B l.length d] w (Ret (.bool true) w) := by
  have := same11 l l A B c d w hr hs
  rwa [decide_eq_true rfl] at this
set_option maxRecDepth 100000 in
set_option maxHeartbeats 16000000 in
theorem reads3 (l : List UInt8) (hl : l.length ≤ 9223372036854775807) (w : World) (hE : Env w) : Calls Tryd.prog 3 #[strV l] w (Ret (.bool true) w) := by
  have C8 : Hid (∀ W, Below w.heap.size w W → Calls Tryd.prog 8 #[.string ⟨l.toArray⟩] W (RetPa (parseQ l) W)) := fun W hW => by
    have := parse8 l hl W (hE.below hW)
    rwa [parse_agree] at this
  have C9 : Hid (∀ W, Calls Tryd.prog 9 #[.string ⟨l.toArray⟩] W (RetPa (parseQ l) W)) := fun W => parse9 l hl W
  have C10 : Hid (∀ W, Below w.heap.size w W → Calls Tryd.prog 10 #[] W (Ret (.bool true) W)) := fun W hW => lives10 W (hE.below hW)
  clear hE
  generalize parseQ l = q at *
  obtain ⟨out, ln, no⟩ := q
  unfold strV
  go_enter Tryd.func3, Tryd.ntmps3
  go_wp2_with (go_at_call 8; refine (C8.out _ (Below.refl _ _)).mono ?_)
  rintro e w1 ⟨v, rfl, ho1, hb1⟩
  simp only at ho1
  obtain ⟨A1, c1, rfl, _, hr1⟩ := ho1.shape
  have HB1 := Lib.hid hb1
  have HR1 := Lib.hid hr1
  clear ho1 hr1 hb1 C8
  go_wp2_with (go_at_call 9; refine (C9.out _).mono ?_)
  rintro e w2 ⟨v, rfl, ho2, hb2⟩
  simp only at ho2
  obtain ⟨A2, c2, rfl, _, hr2⟩ := ho2.shape
  have HB2 := Lib.hid (bthen HB1.out hb2)
  have HR2 := Lib.hid (HR1.out.below hb2)
  have HS2 := Lib.hid hr2
  clear ho2 hr2 hb2 C9 HR1
  go_wp2_with (go_at_call 10; refine (C10.out _ HB2.out).mono ?_)
  rintro e w3 ⟨rfl, hb3⟩
  have HB3 := Lib.hid (bthen HB2.out hb3)
  have C11 := Lib.hid (same_refl out A1 A2 c1 c2 w3 (HR2.out.below hb3) (HS2.out.below hb3))
  clear hb3 C10 HR2 HS2
  go_wp2_with (go_at_call 11; refine C11.out.mono ?_)
  rintro e w4 ⟨rfl, hb4⟩
  have HB4 := Lib.hid (bthen HB3.out hb4)
  clear hb4 C11
  go_wp2
  go_ret
  exact ⟨rfl, HB4.out⟩
set_option maxRecDepth 100000 in
set_option maxHeartbeats 16000000 in
theorem writes4 (l of : List Ev) (hk : ∀ e ∈ l, 0 ≤ e.kind) (A B : Option Addr) (c d : Nat) (w : World) (hE : Env w) (hr : RdS w A l) (hs : RdS w B of) : Calls Tryd.prog 4 #[.slice A l.length c, .slice B of.length d] w (Ret (.bool true) w) := by
  have C12 : Hid (∀ W, Below w.heap.size w W → Calls Tryd.prog 12 #[.slice A l.length c] W (Ret (.tuple #[strV (printP l).1, .int .i64 (printP l).2]) W)) := fun W hW => print12 l A c W (hr.below hW) (hE.below hW)
  have C13 : Hid (∀ W, Below w.heap.size w W → Calls Tryd.prog 13 #[.slice A l.length c] W (Ret (.tuple #[strV (printP l).1, .int .i64 (printP l).2]) W)) := fun W hW => print13 l hk A c W (hr.below hW)
  have C14 : Hid (∀ W, Below w.heap.size w W → Calls Tryd.prog 14 #[.slice A l.length c] W (RetSE (foldP l).1 (foldP l).2 W)) := fun W hW => fold14 l A c W (hr.below hW)
  have C15 : Hid (∀ W, Below w.heap.size w W → Calls Tryd.prog 15 #[.slice A l.length c] W (RetSE (foldP l).1 (foldP l).2 W)) := fun W hW => fold15 l hk A c W (hr.below hW)
  have C16 : Hid (∀ W, Below w.heap.size w W → Calls Tryd.prog 16 #[.slice A l.length c] W (RetSE (spreadP l).1 (spreadP l).2 W)) := fun W hW => spread16 l A c W (hr.below hW)
  have C17 : Hid (∀ W, Below w.heap.size w W → Calls Tryd.prog 17 #[.slice A l.length c] W (RetSE (spreadP l).1 (spreadP l).2 W)) := fun W hW => spread17 l hk A c W (hr.below hW)
  have C18 : Hid (∀ W, Below w.heap.size w W → Calls Tryd.prog 18 #[.slice A l.length c, .slice B of.length d] W (Ret (.tuple #[.int .i64 (stepsP l of).1, .int .i64 (stepsP l of).2]) W)) := fun W hW => steps18 l of A B c d W (hr.below hW) (hs.below hW)
  have C19 : Hid (∀ W, Below w.heap.size w W → Calls Tryd.prog 19 #[.slice A l.length c, .slice B of.length d] W (Ret (.tuple #[.int .i64 (stepsP l of).1, .int .i64 (stepsP l of).2]) W)) := fun W hW => steps19 l of hk A B c d W (hr.below hW) (hs.below hW)
  have C20 : Hid (∀ W, Below w.heap.size w W → Calls Tryd.prog 20 #[.slice A l.length c] W (Ret (.int .i64 (chkE l)) W)) := fun W hW => check20 l A c W (hr.below hW)
  have C21 : Hid (∀ W, Below w.heap.size w W → Calls Tryd.prog 21 #[.slice A l.length c] W (Ret (.int .i64 (chkE l)) W)) := fun W hW => check21 l hk A c W (hr.below hW)
  have C10 : Hid (∀ W, Below w.heap.size w W → Calls Tryd.prog 10 #[] W (Ret (.bool true) W)) := fun W hW => lives10 W (hE.below hW)
  clear hE hr hs hk
  generalize printP l = pr at *
  generalize foldP l = fd at *
  generalize spreadP l = sp at *
  generalize stepsP l of = st at *
  generalize chkE l = ck at *
  generalize l.length = ll at *
  generalize of.length = ol at *
  obtain ⟨pr1, pr2⟩ := pr
  obtain ⟨fd1, fd2⟩ := fd
  obtain ⟨sp1, sp2⟩ := sp
  obtain ⟨st1, st2⟩ := st
  unfold strV at C12 C13
  simp only at C12 C13 C14 C15 C16 C17 C18 C19
  go_enter Tryd.func4, Tryd.ntmps4
  go_wp2_with (go_at_call 12; refine (C12.out _ (Below.refl _ _)).mono ?_)
  rintro e w1 ⟨rfl, hb1⟩
  have HB1 := Lib.hid hb1
  clear hb1 C12
  go_wp2_with (go_at_call 13; refine (C13.out _ HB1.out).mono ?_)
  rintro e w2 ⟨rfl, hb2⟩
  have HB2 := Lib.hid (bthen HB1.out hb2)
  clear hb2 C13
  go_wp2_with (go_at_call 14; refine (C14.out _ HB2.out).mono ?_)
  rintro e w3 ⟨v, rfl, ho3, hb3⟩
  obtain ⟨A3, c3, rfl, _, hr3⟩ := ho3.shape
  have HB3 := Lib.hid (bthen HB2.out hb3)
  have HR3 := Lib.hid hr3
  clear hb3 C14 ho3 hr3
  go_wp2_with (go_at_call 15; refine (C15.out _ HB3.out).mono ?_)
  rintro e w4 ⟨v, rfl, ho4, hb4⟩
  obtain ⟨A4, c4, rfl, _, hr4⟩ := ho4.shape
  have HB4 := Lib.hid (bthen HB3.out hb4)
  have HR4 := Lib.hid (HR3.out.below hb4)
  have HS4 := Lib.hid hr4
  clear hb4 C15 ho4 hr4 HR3
  go_wp2_with (go_at_call 16; refine (C16.out _ HB4.out).mono ?_)
  rintro e w5 ⟨v, rfl, ho5, hb5⟩
  obtain ⟨A5, c5, rfl, _, hr5⟩ := ho5.shape
  have HB5 := Lib.hid (bthen HB4.out hb5)
  have HR5 := Lib.hid (HR4.out.below hb5)
  have HS5 := Lib.hid (HS4.out.below hb5)
  have HT5 := Lib.hid hr5
  clear hb5 C16 ho5 hr5 HR4 HS4
  go_wp2_with (go_at_call 17; refine (C17.out _ HB5.out).mono ?_)
  rintro e w6 ⟨v, rfl, ho6, hb6⟩
  obtain ⟨A6, c6, rfl, _, hr6⟩ := ho6.shape
  have HB6 := Lib.hid (bthen HB5.out hb6)
  have HR6 := Lib.hid (HR5.out.below hb6)
  have HS6 := Lib.hid (HS5.out.below hb6)
  have HT6 := Lib.hid (HT5.out.below hb6)
  have HU6 := Lib.hid hr6
  clear hb6 C17 ho6 hr6 HR5 HS5 HT5
  go_wp2_with (go_at_call 18; refine (C18.out _ HB6.out).mono ?_)
  rintro e w7 ⟨rfl, hb7⟩
  have HB7 := Lib.hid (bthen HB6.out hb7)
  have HM7 := Lib.hid hb7
  clear hb7 C18
  go_wp2_with (go_at_call 19; refine (C19.out _ HB7.out).mono ?_)
  rintro e w8 ⟨rfl, hb8⟩
  have HB8 := Lib.hid (bthen HB7.out hb8)
  have HM8 := Lib.hid (bthen HM7.out hb8)
  clear hb8 C19 HM7
  go_wp2_with (go_at_call 10; refine (C10.out _ HB8.out).mono ?_)
  rintro e w9 ⟨rfl, hb9⟩
  have HB9 := Lib.hid (bthen HB8.out hb9)
  have HM9 := Lib.hid (bthen HM8.out hb9)
  have D9 := Lib.hid (same_refl fd1 A3 A4 c3 c4 w9 (HR6.out.below HM9.out) (HS6.out.below HM9.out))
  clear hb9 C10 HM8
  go_wp2_with (go_at_call 11; refine D9.out.mono ?_)
  rintro e w10 ⟨rfl, hb10⟩
  have HB10 := Lib.hid (bthen HB9.out hb10)
  have HM10 := Lib.hid (bthen HM9.out hb10)
  have D10 := Lib.hid (same_refl sp1 A5 A6 c5 c6 w10 (HT6.out.below HM10.out) (HU6.out.below HM10.out))
  clear hb10 D9 HM9
  go_wp2_with (go_at_call 11; refine D10.out.mono ?_)
  rintro e w11 ⟨rfl, hb11⟩
  have HB11 := Lib.hid (bthen HB10.out hb11)
  clear hb11 D10
  go_wp2_with (go_at_call 20; refine (C20.out _ HB11.out).mono ?_)
  rintro e w12 ⟨rfl, hb12⟩
  have HB12 := Lib.hid (bthen HB11.out hb12)
  clear hb12 C20
  go_wp2_with (go_at_call 21; refine (C21.out _ HB12.out).mono ?_)
  rintro e w13 ⟨rfl, hb13⟩
  have HB13 := Lib.hid (bthen HB12.out hb13)
  clear hb13 C21
  go_wp2
  go_ret
  exact ⟨rfl, HB13.out⟩
end Go.Proofs.YtfgeomdfgjefdaaDoor
