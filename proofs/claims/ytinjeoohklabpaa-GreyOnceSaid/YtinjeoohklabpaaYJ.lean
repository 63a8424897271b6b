/- The walk of lives. -/
import Derived.Test.YtinjeoohklabpaaYH
import Derived.Test.YtinjeoohklabpaaYI
namespace Go.Proofs.Ytinjeoohklabpaa
open Go.RowKit
set_option linter.unusedVariables false
set_option linter.unusedSimpArgs false

theorem e_make : makeQ 2 = [[], []] ∧ makeE 2 = 0 := by decide +kernel
theorem e_push : pushP [[], []] 0 [16, 18] = ([[16, 18], []], 0) := by decide +kernel
theorem e_pop1 : popP [[16, 18], []] 1 = ⟨[[18], []], 16, true, 0⟩ := by rfl
theorem e_pop2 : popP [[18], []] 0 = ⟨[[], []], 18, false, 0⟩ := by rfl
theorem e_pop3 : popP [[], []] 0 = ⟨[[], []], 0, false, 3⟩ := by rfl
theorem e_many : manyV [[16, 18], []] = 2 ∧ chkE [[16, 18], []] = 0 := by decide +kernel
theorem e_twice : pushP [[16, 18], []] 1 [16] = ([[16, 18], []], 4) := by decide +kernel
theorem e_task : pushP [[16, 18], []] 2 [] = ([[16, 18], []], 11) := by decide +kernel
theorem wd_0 : WdQ [[], []] := by intro x hx; simp at hx
theorem wd_1 : WdQ [[16, 18], []] := by intro x hx; simp at hx; rcases hx with rfl | rfl <;> decide
theorem wd_2 : WdQ [[18], []] := by intro x hx; simp at hx; subst hx; decide
theorem rd_two (w : World) : RdU (w.alloc (.cells #[.int .u64 16, .int .u64 18] 30)) (some ⟨w.heap.size, 0, none⟩) [16, 18] :=
  own_rd (World.ownsRow_lit (base := w.heap.size) (e := 30) (size := 1) w #[.int .u64 16, .int .u64 18] 2 (Nat.le_refl _) (by simp [maxLen]) rfl)
theorem rd_one (w : World) : RdU (w.alloc (.cells #[.int .u64 16] 30)) (some ⟨w.heap.size, 0, none⟩) [16] :=
  own_rd (World.ownsRow_lit (base := w.heap.size) (e := 30) (size := 1) w #[.int .u64 16] 1 (Nat.le_refl _) (by simp [maxLen]) rfl)
theorem c_make (W : World) : Calls Try.prog 18 #[.int .i64 2] W (RetGE [[], []] 0 W) := by
  have := makeG 2 W
  rwa [e_make.1, e_make.2] at this
theorem c_push (A : Option Addr) (c : Nat) (vs : List QV) (B : Nat) (W : World) (h : RdQ W A vs [[], []]) (hd : RdU W (some ⟨B, 0, none⟩) [16, 18]) :
    Calls Try.prog 10 #[.agg #[.slice A 2 c], .int .i64 0, .slice (some ⟨B, 0, none⟩) 2 2] W (RetGE [[16, 18], []] 0 W) := by
  have := pushG A c vs [[], []] 0 (some ⟨B, 0, none⟩) 2 [16, 18] W h wd_0 hd
  rwa [e_push] at this
theorem c_pop1 (A : Option Addr) (c : Nat) (vs : List QV) (W : World) (h : RdQ W A vs [[16, 18], []]) : Calls Try.prog 12 #[.agg #[.slice A 2 c], .int .i64 1] W (RetPop ⟨[[18], []], 16, true, 0⟩ W) := by
  have := popG A c vs [[16, 18], []] 1 W h wd_1
  rwa [e_pop1] at this
theorem c_pop2 (A : Option Addr) (c : Nat) (vs : List QV) (W : World) (h : RdQ W A vs [[18], []]) : Calls Try.prog 12 #[.agg #[.slice A 2 c], .int .i64 0] W (RetPop ⟨[[], []], 18, false, 0⟩ W) := by
  have := popG A c vs [[18], []] 0 W h wd_2
  rwa [e_pop2] at this
theorem c_pop3 (A : Option Addr) (c : Nat) (vs : List QV) (W : World) (h : RdQ W A vs [[], []]) : Calls Try.prog 12 #[.agg #[.slice A 2 c], .int .i64 0] W (RetPop ⟨[[], []], 0, false, 3⟩ W) := by
  have := popG A c vs [[], []] 0 W h wd_0
  rwa [e_pop3] at this
theorem c_many (A : Option Addr) (c : Nat) (vs : List QV) (W : World) (h : RdQ W A vs [[16, 18], []]) : Calls Try.prog 16 #[.agg #[.slice A 2 c]] W (Ret (.tuple #[.int .i64 2, .int .i64 0]) W) := by
  have := manyG A c vs [[16, 18], []] W h wd_1
  rwa [e_many.1, e_many.2] at this
theorem c_twice (A : Option Addr) (c : Nat) (vs : List QV) (B : Nat) (W : World) (h : RdQ W A vs [[16, 18], []]) (hd : RdU W (some ⟨B, 0, none⟩) [16]) :
    Calls Try.prog 10 #[.agg #[.slice A 2 c], .int .i64 1, .slice (some ⟨B, 0, none⟩) 1 1] W (RetGE [[16, 18], []] 4 W) := by
  have := pushG A c vs [[16, 18], []] 1 (some ⟨B, 0, none⟩) 1 [16] W h wd_1 hd
  rwa [e_twice] at this
theorem c_task (A : Option Addr) (c : Nat) (vs : List QV) (W : World) (h : RdQ W A vs [[16, 18], []]) :
    Calls Try.prog 10 #[.agg #[.slice A 2 c], .int .i64 2, .slice none 0 0] W (RetGE [[16, 18], []] 11 W) := by
  have := pushG A c vs [[16, 18], []] 2 none 0 [] W h wd_1 (RdU.nil_ _ _)
  rwa [e_task] at this
theorem c_check (A : Option Addr) (c : Nat) (vs : List QV) (W : World) (h : RdQ W A vs [[16, 18], []]) : Calls Try.prog 20 #[.agg #[.slice A 2 c]] W (Ret (.int .i64 0) W) := by
  have := checkG A c vs [[16, 18], []] W h wd_1
  rwa [e_many.2] at this
set_option maxRecDepth 100000 in
set_option maxHeartbeats 16000000 in
theorem lives14 (w : World) : Calls Try.prog 14 #[] w (Ret (.bool true) w) := by
  go_enter Try.func14, Try.ntmps14
  go_wp2_with (go_at_call 18; refine (c_make _).mono ?_)
  rintro e w1 ⟨v, rfl, ⟨vs1, hq1⟩, hb1⟩
  obtain ⟨A1, c1, rfl, _, hr1⟩ := hq1.shape
  have HB1 := Lib.hid hb1
  have HR1 := Lib.hid (hr1.below (balloc (balloc (Below.refl w1.heap.size w1) (.cells #[.slice A1 2 c1] 24)) (.cells #[.int .u64 16, .int .u64 18] 30)))
  have HD1 : Hid (RdU ((w1.alloc (.cells #[.slice A1 2 c1] 24)).alloc (.cells #[.int .u64 16, .int .u64 18] 30)) (some ⟨w1.heap.size + 1, 0, none⟩) [16, 18]) := by
    show RdU _ _ _
    have := rd_two (w1.alloc (.cells #[.slice A1 2 c1] 24))
    rwa [show (w1.alloc (.cells #[.slice A1 2 c1] 24)).heap.size = w1.heap.size + 1 from by simp] at this
  have HBB1 := Lib.hid (balloc (balloc HB1.out (.cells #[.slice A1 2 c1] 24)) (.cells #[.int .u64 16, .int .u64 18] 30))
  clear hq1 hr1 hb1
  go_wp2_with (go_at_call 10; refine (c_push A1 c1 vs1 (w1.heap.size + 1) _ HR1.out HD1.out).mono ?_)
  rintro e w2 ⟨v, rfl, ⟨vs2, hq2⟩, hb2⟩
  obtain ⟨A2, c2, rfl, _, _⟩ := hq2.shape
  have hcell := cell_later hb2 (show ((w1.alloc (.cells #[.slice A1 2 c1] 24)).alloc (.cells #[.int .u64 16, .int .u64 18] 30)).cell? ⟨w1.heap.size, 0, none⟩ = some (.slice A1 2 c1) from by go_simp)
  have hfz := (hb2.frozen (p := ⟨w1.heap.size, 0, none⟩) (show w1.heap.size < _ from by simp <;> omega)).trans (show ((w1.alloc (.cells #[.slice A1 2 c1] 24)).alloc (.cells #[.int .u64 16, .int .u64 18] 30)).frozen? ⟨w1.heap.size, 0, none⟩ = false from by go_simp)
  have hlt2 := World.block_lt_of_cell? _ _ hcell
  have hq3 := (hq2.set_lo (p := ⟨w1.heap.size, 0, none⟩) (by show w1.heap.size < _; simp <;> omega) (.slice A2 2 c2))
  have HB3 : Hid (Below w.heap.size w (w2.setCell ⟨w1.heap.size, 0, none⟩ (.slice A2 2 c2))) := (bthen HBB1.out hb2).setCell HB1.out.size _
  have HC3 := Lib.hid (World.cell?_setCell_same _ _ (.slice A2 2 c2) hcell)
  obtain ⟨A2', c2', e', _, hr3⟩ := hq3.shape
  injection e' with e1 _ e3
  subst e1
  subst e3
  have HR3 := Lib.hid hr3
  clear hq2 hq3 hr3 hb2 HR1 HD1 HBB1
  go_upto_region 3 with fail
  clear hcell hfz hlt2
  generalize (w2.setCell ⟨w1.heap.size, 0, none⟩ (.slice A2 2 c2)) = w3 at *
  generalize w1.heap.size = b1 at *
  have k3 := HC3.out
  have hlt3 := World.block_lt_of_cell? _ _ k3
  have HC1 := Lib.hid (c_pop1 A2 c2 vs2 w3 HR3.out)
  go_wp2_with (go_at_call 12; refine HC1.out.mono ?_)
  rintro e w4 ⟨A4, c4, vs4, rfl, hq4, hb4⟩
  have k4 := cell_later hb4 k3
  have HB4 := Lib.hid hb4
  have HR4 := Lib.hid (hq4.rd.below (balloc (Below.refl w4.heap.size w4) (.cells #[.slice A4 2 c4] 24)))
  have HBG4 := Lib.hid (balloc hb4 (.cells #[.slice A4 2 c4] 24))
  clear hq4 hb4 HC1 k3 hlt3
  go_upto_region 4 with fail
  have HK4 : Hid ((w4.alloc (.cells #[.slice A4 2 c4] 24)).cell? ⟨w4.heap.size, 0, none⟩ = some (.slice A4 2 c4)) := by show _ = _; go_simp
  have HZ4 : Hid ((w4.alloc (.cells #[.slice A4 2 c4] 24)).frozen? ⟨w4.heap.size, 0, none⟩ = false) := by show _ = _; go_simp
  have HG4 := Lib.hid HB4.out.size
  generalize (w4.alloc (.cells #[.slice A4 2 c4] 24)) = w5 at *
  generalize w4.heap.size = b4 at *
  have k5 := HK4.out
  have hlt5 := World.block_lt_of_cell? _ _ k5
  have HC2 := Lib.hid (c_pop2 A4 c4 vs4 w5 HR4.out)
  clear k4
  go_wp2_with (go_at_call 12; refine HC2.out.mono ?_)
  rintro e w6 ⟨A6, c6, vs6, rfl, hq6, hb6⟩
  have k6 := cell_later hb6 k5
  have z6 := (hb6.frozen (p := ⟨b4, 0, none⟩) hlt5).trans HZ4.out
  have hlt6 := World.block_lt_of_cell? _ _ k6
  have HC6 := Lib.hid (World.cell?_setCell_same _ _ (.slice A6 2 c6) k6)
  have HR7 := Lib.hid ((hq6.set_lo (p := ⟨b4, 0, none⟩) hlt5 hq6.out (.slice A6 2 c6)).rd)
  have HBG7 : Hid (Below w3.heap.size w3 (w6.setCell ⟨b4, 0, none⟩ (.slice A6 2 c6))) := (bthen HBG4.out hb6).setCell HG4.out _
  clear hq6 hb6 HC2 k5
  go_upto_region 5 with fail
  clear k6 z6 hlt6 hlt5
  generalize (w6.setCell ⟨b4, 0, none⟩ (.slice A6 2 c6)) = w7 at *
  have k7 := HC6.out
  have hlt7 := World.block_lt_of_cell? _ _ k7
  have HC3' := Lib.hid (c_pop3 A6 c6 vs6 w7 HR7.out)
  go_wp2_with (go_at_call 12; refine HC3'.out.mono ?_)
  rintro e w8 ⟨A8, c8, vs8, rfl, hq8, hb8⟩
  have HBG8 := Lib.hid (balloc (bthen HBG7.out hb8) (.cells #[.slice A8 2 c8] 24))
  clear hq8 hb8 HC3' k7 hlt7
  go_upto_region 6 with fail
  generalize (w8.alloc (.cells #[.slice A8 2 c8] 24)) = w9 at *
  generalize w8.heap.size = b8 at *
  have k9 := cell_later HBG8.out HC3.out
  have hlt9 := World.block_lt_of_cell? _ _ k9
  have HM9 := Lib.hid (c_many A2 c2 vs2 w9 (HR3.out.below HBG8.out))
  go_wp2_with (go_at_call 16; refine HM9.out.mono ?_)
  rintro e w10 ⟨rfl, hb10⟩
  have HBG10 := Lib.hid (balloc (bthen HBG8.out hb10) (.cells #[.int .u64 16] 30))
  have HD10 := Lib.hid (rd_one w10)
  have k10 := cell_later hb10 k9
  have hlt10 := World.block_lt_of_cell? _ _ k10
  have HT10 := Lib.hid (c_twice A2 c2 vs2 w10.heap.size _ (HR3.out.below HBG10.out) HD10.out)
  clear hb10 HM9 k9 hlt9
  go_wp2_with (go_at_call 10; refine HT10.out.mono ?_)
  rintro e w11 ⟨v11, rfl, ⟨vs11, hq11⟩, hb11⟩
  obtain ⟨A11, c11, rfl, _, _⟩ := hq11.shape
  have HBG11 := Lib.hid (balloc (bthen HBG10.out hb11) (.cells #[.slice A11 2 c11] 24))
  have k11 := cell_later HBG11.out HC3.out
  clear hq11 hb11 HT10 k10 hlt10
  go_upto_region 8 with fail
  generalize (w11.alloc (.cells #[.slice A11 2 c11] 24)) = w12 at *
  generalize w11.heap.size = b11 at *
  have hlt12 := World.block_lt_of_cell? _ _ k11
  have HT12 := Lib.hid (c_task A2 c2 vs2 w12 (HR3.out.below HBG11.out))
  go_wp2_with (go_at_call 10; refine HT12.out.mono ?_)
  rintro e w13 ⟨v13, rfl, ⟨vs13, hq13⟩, hb13⟩
  obtain ⟨A13, c13, rfl, _, _⟩ := hq13.shape
  have HBG13 := Lib.hid (balloc (bthen HBG11.out hb13) (.cells #[.slice A13 2 c13] 24))
  have k13 := cell_later HBG13.out HC3.out
  clear hq13 hb13 HT12 k11 hlt12
  go_upto_region 9 with fail
  generalize (w13.alloc (.cells #[.slice A13 2 c13] 24)) = w14 at *
  have hlt14 := World.block_lt_of_cell? _ _ k13
  have HK14 := Lib.hid (c_check A2 c2 vs2 w14 (HR3.out.below HBG13.out))
  go_wp2_with (go_at_call 20; refine HK14.out.mono ?_)
  rintro e w15 ⟨rfl, hb15⟩
  have HB15 := Lib.hid (bthen HB3.out (bthen HBG13.out hb15))
  clear hb15
  go_wp2
  go_ret
  exact ⟨rfl, HB15.out⟩
end Go.Proofs.Ytinjeoohklabpaa
