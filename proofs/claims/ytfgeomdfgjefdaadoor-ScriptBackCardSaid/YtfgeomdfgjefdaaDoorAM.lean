/- The walk of lives. -/
import Derived.Test.YtfgeomdfgjefdaaDoorAL
namespace Go.Proofs.YtfgeomdfgjefdaaDoor
open Go.RowKit
set_option linter.unusedVariables false
set_option linter.unusedSimpArgs false

def livA : List Ev := [⟨true, 0, 0, 0, 2⟩, ⟨true, 0, 0, 0, 1⟩, ⟨false, 0, 2, 1, 1⟩]
def livF : List Ev := [⟨true, 0, 0, 0, 3⟩, ⟨false, 0, 2, 1, 1⟩]
def livX : List Ev := [⟨true, 0, 0, 0, 1⟩, ⟨true, 0, 0, 0, 1⟩, ⟨true, 0, 0, 0, 1⟩, ⟨false, 0, 2, 1, 1⟩]
theorem l_a : lineL ⟨true, 0, 0, 0, 2⟩ = [116, 48, 32, 42, 32, 50] := by simp [lineL, headL, Lib.decDigits_one]
theorem l_b : lineL ⟨true, 0, 0, 0, 1⟩ = [116, 48] := by simp [lineL, headL, Lib.decDigits_one]
theorem l_c : lineL ⟨false, 0, 2, 1, 1⟩ = [115, 99, 97, 110, 32, 49] := by simp [lineL, headL, nameL, Lib.decDigits_one]
theorem l_f : lineL ⟨true, 0, 0, 0, 3⟩ = [116, 48, 32, 42, 32, 51] := by simp [lineL, headL, Lib.decDigits_one]
theorem l_r : lineL ⟨false, 0, 6, 0, 1⟩ = [114, 117, 110] := by simp [lineL, headL, nameL]
theorem v_parse : parseP readP [116, 48, 32, 42, 32, 50, 10, 116, 48, 10, 10, 115, 99, 97, 110, 32, 49, 10] = (livA, 0, 0) := by
  have e : lns [] [116, 48, 32, 42, 32, 50, 10, 116, 48, 10, 10, 115, 99, 97, 110, 32, 49, 10] = [lineL ⟨true, 0, 0, 0, 2⟩, lineL ⟨true, 0, 0, 0, 1⟩, [], lineL ⟨false, 0, 2, 1, 1⟩, []] := by rw [l_a, l_b, l_c]; decide
  have n1 : lineL ⟨true, 0, 0, 0, 2⟩ ≠ [] := (line_plain (by decide)).1
  have n2 : lineL ⟨true, 0, 0, 0, 1⟩ ≠ [] := (line_plain (by decide)).1
  have n3 : lineL ⟨false, 0, 2, 1, 1⟩ ≠ [] := (line_plain (by decide)).1
  rw [parse_agree, parseQ, if_neg (by decide), e]
  simp [parseGo, n1, n2, n3, readR_line (e := ⟨true, 0, 0, 0, 2⟩) (by decide), readR_line (e := ⟨true, 0, 0, 0, 1⟩) (by decide), readR_line (e := ⟨false, 0, 2, 1, 1⟩) (by decide), livA]
theorem v_bad : parseP readP [114, 117, 110, 10, 114, 117, 110, 32, 42, 32, 49] = ([], 2, 2) := by
  have e : lns [] [114, 117, 110, 10, 114, 117, 110, 32, 42, 32, 49] = [lineL ⟨false, 0, 6, 0, 1⟩, [114, 117, 110, 32, 42, 32, 49]] := by rw [l_r]; decide
  have n1 : lineL ⟨false, 0, 6, 0, 1⟩ ≠ [] := (line_plain (by decide)).1
  have hb : (readR [114, 117, 110, 32, 42, 32, 49]).2 = false := by
    rw [← (read_agree _).1]
    have hc : Lib.cut [114, 117, 110, 32, 42, 32, 49] [32, 42, 32] = ([114, 117, 110], [49], true) := by decide
    have hh : headP [114, 117, 110] = (⟨false, 0, 6, 0, 1⟩, true) := by decide
    have hn : numP [49] = (1, true) := by decide
    unfold readP
    simp only [hc, hh, hn, if_true, l_r]
    decide
  rw [parse_agree, parseQ, if_neg (by decide), e]
  simp [parseGo, n1, readR_line (e := ⟨false, 0, 6, 0, 1⟩) (by decide), hb]
theorem v_fold : foldP livA = (livF, 0) := by decide
theorem v_print : printP livF = ([116, 48, 32, 42, 32, 51, 10, 115, 99, 97, 110, 32, 49, 10], 0) := by
  unfold printP
  rw [if_pos (by decide)]
  simp [printL, livF, l_f, l_c]
theorem v_steps : stepsP livA [] = (4, 0) := by decide
theorem v_steps1 : stepsP livA [⟨true, 0, 0, 0, 0⟩] = (3, 0) := by decide
theorem v_spread : spreadP livF = (livX, 0) := by decide
theorem v_check : chkE livA = 0 := by decide
theorem c_parse (W : World) (hE : Env W) : Calls Tryd.prog 8 #[.string ⟨#[116, 48, 32, 42, 32, 50, 10, 116, 48, 10, 10, 115, 99, 97, 110, 32, 49, 10]⟩] W (RetPa (livA, 0, 0) W) := by
  have := parse8 [116, 48, 32, 42, 32, 50, 10, 116, 48, 10, 10, 115, 99, 97, 110, 32, 49, 10] (by decide) W hE
  rwa [v_parse] at this
theorem c_bad (W : World) (hE : Env W) : Calls Tryd.prog 8 #[.string ⟨#[114, 117, 110, 10, 114, 117, 110, 32, 42, 32, 49]⟩] W (RetPa ([], 2, 2) W) := by
  have := parse8 [114, 117, 110, 10, 114, 117, 110, 32, 42, 32, 49] (by decide) W hE
  rwa [v_bad] at this
theorem c_fold (A : Option Addr) (c : Nat) (W : World) (h : RdS W A livA) : Calls Tryd.prog 14 #[.slice A 3 c] W (RetSE livF 0 W) := by
  have := fold14 livA A c W h
  rwa [v_fold] at this
theorem c_print (A : Option Addr) (c : Nat) (W : World) (h : RdS W A livF) (hE : Env W) : Calls Tryd.prog 12 #[.slice A 2 c] W (Ret (.tuple #[.string ⟨#[116, 48, 32, 42, 32, 51, 10, 115, 99, 97, 110, 32, 49, 10]⟩, .int .i64 0]) W) := by
  have := print12 livF A c W h hE
  rwa [v_print] at this
theorem c_steps (A : Option Addr) (c : Nat) (W : World) (h : RdS W A livA) : Calls Tryd.prog 18 #[.slice A 3 c, .slice none 0 0] W (Ret (.tuple #[.int .i64 4, .int .i64 0]) W) := by
  have := steps18 livA [] A none c 0 W h (RdS.nil_ _ _)
  rwa [v_steps] at this
theorem c_steps1 (A : Option Addr) (c : Nat) (b : Nat) (W : World) (h : RdS W A livA) (hb : RdS W (some ⟨b, 0, none⟩) [⟨true, 0, 0, 0, 0⟩]) : Calls Tryd.prog 18 #[.slice A 3 c, .slice (some ⟨b, 0, none⟩) 1 1] W (Ret (.tuple #[.int .i64 3, .int .i64 0]) W) := by
  have := steps18 livA [⟨true, 0, 0, 0, 0⟩] A (some ⟨b, 0, none⟩) c 1 W h hb
  rwa [v_steps1] at this
theorem c_spread (A : Option Addr) (c : Nat) (W : World) (h : RdS W A livF) : Calls Tryd.prog 16 #[.slice A 2 c] W (RetSE livX 0 W) := by
  have := spread16 livF A c W h
  rwa [v_spread] at this
theorem c_check (A : Option Addr) (c : Nat) (W : World) (h : RdS W A livA) : Calls Tryd.prog 20 #[.slice A 3 c] W (Ret (.int .i64 0) W) := by
  have := check20 livA A c W h
  rwa [v_check] at this
set_option maxRecDepth 100000 in
set_option maxHeartbeats 16000000 in
theorem lives10 (w : World) (hE : Env w) : Calls Tryd.prog 10 #[] w (Ret (.bool true) w) := by
  have HE := Lib.hid hE
  clear hE
  go_enter Tryd.func10, Tryd.ntmps10
  go_wp2_with (go_at_call 8; refine (c_parse _ HE.out).mono ?_)
  rintro e w1 ⟨v, rfl, ho1, hb1⟩
  obtain ⟨A1, c1, rfl, _, hr1⟩ := ho1.shape
  have HB1 := Lib.hid hb1
  have HR1 := Lib.hid hr1
  have HC1 := Lib.hid (c_fold A1 c1 w1 hr1)
  clear ho1 hr1 hb1
  go_wp2_with (go_at_call 14; refine HC1.out.mono ?_)
  rintro e w2 ⟨v, rfl, ho2, hb2⟩
  obtain ⟨A2, c2, rfl, _, hr2⟩ := ho2.shape
  have HB2 := Lib.hid (bthen HB1.out hb2)
  have HR2 := Lib.hid (HR1.out.below hb2)
  have HF2 := Lib.hid hr2
  have HC2 := Lib.hid (c_print A2 c2 w2 hr2 (HE.out.below HB2.out))
  clear ho2 hr2 hb2 HC1 HR1
  go_wp2_with (go_at_call 12; refine HC2.out.mono ?_)
  rintro e w3 ⟨rfl, hb3⟩
  have HB3 := Lib.hid (bthen HB2.out hb3)
  have HR3 := Lib.hid (HR2.out.below hb3)
  have HF3 := Lib.hid (HF2.out.below hb3)
  have HC3 := Lib.hid (c_steps A1 c1 w3 HR3.out)
  clear hb3 HC2 HR2 HF2
  go_wp2_with (go_at_call 18; refine HC3.out.mono ?_)
  rintro e w4 ⟨rfl, hb4⟩
  have HX4 := Lib.hid (rd_ev w4 ⟨true, 0, 0, 0, 0⟩)
  have HBA4 : Hid (Below w4.heap.size w4 (w4.alloc (.cells #[.bool true, .int .i64 0, .int .u8 0, .int .i64 0, .int .i64 0] 41))) := balloc (Below.refl _ _) _
  have HB4 := Lib.hid (bthen (bthen HB3.out hb4) HBA4.out)
  have HR4 := Lib.hid ((HR3.out.below hb4).below HBA4.out)
  have HF4 := Lib.hid ((HF3.out.below hb4).below HBA4.out)
  have HC4 := Lib.hid (c_steps1 A1 c1 w4.heap.size _ HR4.out HX4.out)
  clear hb4 HC3 HR3 HF3
  go_wp2_with (go_at_call 18; refine HC4.out.mono ?_)
  rintro e w5 ⟨rfl, hb5⟩
  have HB5 := Lib.hid (bthen HB4.out hb5)
  have HR5 := Lib.hid (HR4.out.below hb5)
  have HF5 := Lib.hid (HF4.out.below hb5)
  have HC5 := Lib.hid (c_bad w5 (HE.out.below HB5.out))
  clear hb5 HC4 HR4 HF4
  go_wp2_with (go_at_call 8; refine HC5.out.mono ?_)
  rintro e w6 ⟨v6, rfl, ho6, hb6⟩
  have HB6 := Lib.hid (bthen HB5.out hb6)
  have HR6 := Lib.hid (HR5.out.below hb6)
  have HC6 := Lib.hid (c_spread A2 c2 w6 (HF5.out.below hb6))
  clear hb6 ho6 HC5 HR5 HF5
  go_wp2_with (go_at_call 16; refine HC6.out.mono ?_)
  rintro e w7 ⟨v7, rfl, ho7, hb7⟩
  obtain ⟨A7, c7, rfl, _, _⟩ := ho7.shape
  have HB7 := Lib.hid (bthen HB6.out hb7)
  have HC7 := Lib.hid (c_check A1 c1 w7 (HR6.out.below hb7))
  clear hb7 ho7 HC6 HR6
  go_wp2_with (go_at_call 20; refine HC7.out.mono ?_)
  rintro e w8 ⟨rfl, hb8⟩
  have HB8 := Lib.hid (bthen HB7.out hb8)
  clear hb8 HC7
  go_wp2
  go_ret
  exact ⟨rfl, HB8.out⟩
end Go.Proofs.YtfgeomdfgjefdaaDoor
