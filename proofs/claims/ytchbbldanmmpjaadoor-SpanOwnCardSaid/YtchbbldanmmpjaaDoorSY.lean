/- The walk of first. -/
import Derived.Test.YtchbbldanmmpjaaDoorSZ
namespace Go.Proofs.YtchbbldanmmpjaaDoor
open Go.RowKit
set_option linter.unusedVariables false
set_option linter.unusedSimpArgs false

set_option maxRecDepth 100000 in
set_option maxHeartbeats 8000000 in
theorem first70 (b m c f : Nat) (A : Option Addr) (B : BitB) (t : Bool) (w : World) (hc0 : w.cell? ⟨b, 0, none⟩ = some (.int .i64 B.n)) (hc1 : w.cell? ⟨b, 1, none⟩ = some (.slice A m c)) (hr : RdU w A B.w) (hm : B.w.length = m)
    (hfn : f ≤ B.n.toNat) (hlen : B.n.toNat ≤ 64 * m) (hm64 : m ≤ 64) (hT : Tab w) (hn : 0 ≤ B.n ∧ B.n ≤ 4096) (hws : ∀ x ∈ B.w, 0 ≤ x ∧ x < 18446744073709551616) : Calls Tryd.prog 70 #[.pointer (some ⟨b, 0, none⟩), .int .i64 f, .bool t] w (Ret (.int .i64 (firstN B f t)) w) := by
  have HR := Lib.hid hr
  have hl := hr.len
  rw [hm] at hl
  have HM := Lib.hid hm
  have HT := Lib.hid hT
  have HW := Lib.hid hws
  have HC0 := Lib.hid hc0
  have HC1 := Lib.hid hc1
  have HN := Lib.hid hn
  have HFN := Lib.hid hfn
  have HLN := Lib.hid hlen
  have hf : f ≤ 4096 := by omega
  clear hr hm hT hws hc0 hc1 hn hlen hfn
  have hw1 : (f : Int).tdiv 64 = ((f / 64 : Nat) : Int) := by rw [Int.tdiv_eq_ediv_of_nonneg (by omega)]; omega
  go_enter Tryd.func70, Tryd.ntmps70
  go_wp2
  obtain ⟨wo, hwo⟩ : ∃ wo : World, wo = w := ⟨w, rfl⟩
  go_loopw [7] (fun v7 wr => ∃ i : Nat, v7 = .int .i64 i ∧ f / 64 ≤ i ∧ i ≤ 64 ∧ Hid (∀ j, f ≤ j → j < 64 * i → bitP B j ≠ t) ∧ Hid (Below w.heap.size w wr)) (fun v7 _ => m - (intOf v7).toNat)
  case atStart => exact ⟨f / 64, by go_num, Nat.le_refl _, by omega, fun j h1 h2 => by omega, Below.refl _ _⟩
  case round =>
    obtain ⟨i, rfl, hfi, him, HNO, HBr⟩ := hrel
    have c0 := cell_later HBr.out HC0.out
    have c1 := cell_later HBr.out HC1.out
    by_cases hlt : i < m
    · have hx : B.w[i]? = some (B.w[i]'(by have := HM.out; omega)) := List.getElem?_eq_getElem _
      generalize (B.w[i]'_) = x at hx
      obtain ⟨b1, o1, e1, _, cx⟩ := HR.out.at_ hx
      cases e1
      have cx := cell_later HBr.out cx
      have hxw := HW.out x (List.mem_of_getElem? hx)
      have HX := Lib.hid hx
      have HXW := Lib.hid hxw
      have HFI := Lib.hid hfi
      clear hx hxw
      cases t
      · by_cases he : i = f / 64
        · subst he
          clear hfi him
          have hlt2 : (f : Int) / 64 < (m : Int) := by omega
          by_cases hy : wordF x false true (f % 64) = 0
          · have hyb : ((Go.bits .and .u64 (Go.bits .xor .u64 (if IntKind.u64.signed = true then -1 else IntKind.u64.max) x) (IntKind.u64.wrap (18446744073709551615 * 2 ^ (f % 64)))) != 0) = false := by have : (Go.bits .and .u64 (Go.bits .xor .u64 (if IntKind.u64.signed = true then -1 else IntKind.u64.max) x) (IntKind.u64.wrap (18446744073709551615 * 2 ^ (f % 64)))) = 0 := hy; rw [this]; rfl
            have HNX := Lib.hid (none_next (t := false) HX.out HXW.out HFI.out (by rw [decide_eq_true (rfl : f / 64 = f / 64)]; exact hy) HNO.out)
            clear hy
            go_wp2
            go_roundw
            case rel => exact ⟨f / 64 + 1, by go_num, by omega, by omega, HNX.out, HBr.out⟩
            case measure => simp [intOf]; omega
          · have hyb : ((Go.bits .and .u64 (Go.bits .xor .u64 (if IntKind.u64.signed = true then -1 else IntKind.u64.max) x) (IntKind.u64.wrap (18446744073709551615 * 2 ^ (f % 64)))) != 0) = true := by rw [bne_iff_ne]; exact hy
            have EF := Lib.hid (some_next (t := false) HX.out HXW.out HFI.out (by rw [decide_eq_true (rfl : f / 64 = f / 64)]; exact hy) HNO.out HFN.out)
            rw [decide_eq_true (rfl : f / 64 = f / 64)] at EF
            have hrg := wordF_range x false true (f % 64) HXW.out (by omega)
            have C76 : Hid (∀ W, Below w.heap.size w W → Calls Tryd.prog 76 #[.int .u64 ((Go.bits .and .u64 (Go.bits .xor .u64 (if IntKind.u64.signed = true then -1 else IntKind.u64.max) x) (IntKind.u64.wrap (18446744073709551615 * 2 ^ (f % 64)))))] W (Ret (.int .i64 (Lib.ctz 64 (wordF x false true (f % 64)).toNat)) W)) := fun W hW => by
              have := tz76 (wordF x false true (f % 64)).toNat (by omega) W (HT.out.below hW)
              rw [show (((wordF x false true (f % 64)).toNat : Nat) : Int) = wordF x false true (f % 64) from by omega] at this
              exact this
            have hk64 := (ctz_bit (wordF x false true (f % 64)).toNat (by omega) (by omega)).1
            generalize Lib.ctz 64 (wordF x false true (f % 64)).toNat = k at *
            have HKN := Lib.hid hk64
            clear hy hrg hk64
            go_wp2
            have hw5 := wrap_in (x := (f : Int) / 64 * 64) (by omega)
            have hw6 := wrap_in (x := (f : Int) / 64 * 64 + (k : Int)) (by have := HKN.out; omega)
            have K0 := Lib.hid c0
            refine region_up (by kernel_rfl) (by kernel_rfl) ?_
            iterate 8
              go_big_quiet_want
              apply Exists.intro
              refine ⟨fun W hW => ?_, ?_⟩
              · have g0 := cell_later hW K0.out
                go_simp
                all_goals exact rfl
              simp only [Act.put, List.setIfInBounds_toArray, List.set_cons_succ, List.set_cons_zero]
              go_big_quiet_on
            go_big_quiet_want
            apply Exists.intro
            refine ⟨fun W hW => ?_, ?_⟩
            · have g0 := cell_later hW K0.out
              go_simp
              exact call_up hW (C76.out W (bthen HBr.out hW))
            simp only [Act.put, List.setIfInBounds_toArray, List.set_cons_succ, List.set_cons_zero]
            go_big_quiet_on
            iterate 3
              go_big_quiet_want
              apply Exists.intro
              refine ⟨fun W hW => ?_, ?_⟩
              · have g0 := cell_later hW K0.out
                go_simp
                all_goals exact rfl
              simp only [Act.put, List.setIfInBounds_toArray, List.set_cons_succ, List.set_cons_zero]
              go_big_quiet_on
            refine wpQuiet_nil ?_
            intro W hW
            clear hw5 hw6
            have HBW := Lib.hid (bthen HBr.out hW)
            clear hW
            go_wp2
            all_goals
              go_ret
              rw [EF.out]
              have hn := HN.out
              refine ⟨congrArg (fun z => Ending.returned (.int .i64 z)) ?_, HBW.out⟩
              omega
        · have hb1 : ((i : Int) == (f : Int) / 64) = false := by rw [beq_eq_false_iff_ne]; omega
          have HE := Lib.hid (decide_eq_false he)
          clear he
          by_cases hy : wordF x false false (f % 64) = 0
          · have hyb : ((Go.bits .xor .u64 (if IntKind.u64.signed = true then -1 else IntKind.u64.max) x) != 0) = false := by have : (Go.bits .xor .u64 (if IntKind.u64.signed = true then -1 else IntKind.u64.max) x) = 0 := hy; rw [this]; rfl
            have HNX := Lib.hid (none_next (t := false) HX.out HXW.out HFI.out (by rw [HE.out]; exact hy) HNO.out)
            clear hy
            go_wp2
            go_roundw
            case rel => exact ⟨i + 1, by go_num, by omega, by omega, HNX.out, HBr.out⟩
            case measure => simp [intOf]; omega
          · have hyb : ((Go.bits .xor .u64 (if IntKind.u64.signed = true then -1 else IntKind.u64.max) x) != 0) = true := by rw [bne_iff_ne]; exact hy
            have EF := Lib.hid (some_next (t := false) HX.out HXW.out HFI.out (by rw [HE.out]; exact hy) HNO.out HFN.out)
            rw [HE.out] at EF
            have hrg := wordF_range x false false (f % 64) HXW.out (by omega)
            have C76 : Hid (∀ W, Below w.heap.size w W → Calls Tryd.prog 76 #[.int .u64 ((Go.bits .xor .u64 (if IntKind.u64.signed = true then -1 else IntKind.u64.max) x))] W (Ret (.int .i64 (Lib.ctz 64 (wordF x false false (f % 64)).toNat)) W)) := fun W hW => by
              have := tz76 (wordF x false false (f % 64)).toNat (by omega) W (HT.out.below hW)
              rw [show (((wordF x false false (f % 64)).toNat : Nat) : Int) = wordF x false false (f % 64) from by omega] at this
              exact this
            have hk64 := (ctz_bit (wordF x false false (f % 64)).toNat (by omega) (by omega)).1
            generalize Lib.ctz 64 (wordF x false false (f % 64)).toNat = k at *
            have HKN := Lib.hid hk64
            clear hy hrg hk64
            go_wp2
            have hw5 := wrap_in (x := (i : Int) * 64) (by omega)
            have hw6 := wrap_in (x := (i : Int) * 64 + (k : Int)) (by have := HKN.out; omega)
            have K0 := Lib.hid c0
            refine region_up (by kernel_rfl) (by kernel_rfl) ?_
            iterate 8
              go_big_quiet_want
              apply Exists.intro
              refine ⟨fun W hW => ?_, ?_⟩
              · have g0 := cell_later hW K0.out
                go_simp
                all_goals exact rfl
              simp only [Act.put, List.setIfInBounds_toArray, List.set_cons_succ, List.set_cons_zero]
              go_big_quiet_on
            go_big_quiet_want
            apply Exists.intro
            refine ⟨fun W hW => ?_, ?_⟩
            · have g0 := cell_later hW K0.out
              go_simp
              exact call_up hW (C76.out W (bthen HBr.out hW))
            simp only [Act.put, List.setIfInBounds_toArray, List.set_cons_succ, List.set_cons_zero]
            go_big_quiet_on
            iterate 3
              go_big_quiet_want
              apply Exists.intro
              refine ⟨fun W hW => ?_, ?_⟩
              · have g0 := cell_later hW K0.out
                go_simp
                all_goals exact rfl
              simp only [Act.put, List.setIfInBounds_toArray, List.set_cons_succ, List.set_cons_zero]
              go_big_quiet_on
            refine wpQuiet_nil ?_
            intro W hW
            clear hw5 hw6
            have HBW := Lib.hid (bthen HBr.out hW)
            clear hW
            go_wp2
            all_goals
              go_ret
              rw [EF.out]
              have hn := HN.out
              refine ⟨congrArg (fun z => Ending.returned (.int .i64 z)) ?_, HBW.out⟩
              omega
      · by_cases he : i = f / 64
        · subst he
          clear hfi him
          have hlt2 : (f : Int) / 64 < (m : Int) := by omega
          by_cases hy : wordF x true true (f % 64) = 0
          · have hyb : ((Go.bits .and .u64 x (IntKind.u64.wrap (18446744073709551615 * 2 ^ (f % 64)))) != 0) = false := by have : (Go.bits .and .u64 x (IntKind.u64.wrap (18446744073709551615 * 2 ^ (f % 64)))) = 0 := hy; rw [this]; rfl
            have HNX := Lib.hid (none_next (t := true) HX.out HXW.out HFI.out (by rw [decide_eq_true (rfl : f / 64 = f / 64)]; exact hy) HNO.out)
            clear hy
            go_wp2
            go_roundw
            case rel => exact ⟨f / 64 + 1, by go_num, by omega, by omega, HNX.out, HBr.out⟩
            case measure => simp [intOf]; omega
          · have hyb : ((Go.bits .and .u64 x (IntKind.u64.wrap (18446744073709551615 * 2 ^ (f % 64)))) != 0) = true := by rw [bne_iff_ne]; exact hy
            have EF := Lib.hid (some_next (t := true) HX.out HXW.out HFI.out (by rw [decide_eq_true (rfl : f / 64 = f / 64)]; exact hy) HNO.out HFN.out)
            rw [decide_eq_true (rfl : f / 64 = f / 64)] at EF
            have hrg := wordF_range x true true (f % 64) HXW.out (by omega)
            have C76 : Hid (∀ W, Below w.heap.size w W → Calls Tryd.prog 76 #[.int .u64 ((Go.bits .and .u64 x (IntKind.u64.wrap (18446744073709551615 * 2 ^ (f % 64)))))] W (Ret (.int .i64 (Lib.ctz 64 (wordF x true true (f % 64)).toNat)) W)) := fun W hW => by
              have := tz76 (wordF x true true (f % 64)).toNat (by omega) W (HT.out.below hW)
              rw [show (((wordF x true true (f % 64)).toNat : Nat) : Int) = wordF x true true (f % 64) from by omega] at this
              exact this
            have hk64 := (ctz_bit (wordF x true true (f % 64)).toNat (by omega) (by omega)).1
            generalize Lib.ctz 64 (wordF x true true (f % 64)).toNat = k at *
            have HKN := Lib.hid hk64
            clear hy hrg hk64
            go_wp2
            have hw5 := wrap_in (x := (f : Int) / 64 * 64) (by omega)
            have hw6 := wrap_in (x := (f : Int) / 64 * 64 + (k : Int)) (by have := HKN.out; omega)
            have K0 := Lib.hid c0
            refine region_up (by kernel_rfl) (by kernel_rfl) ?_
            iterate 8
              go_big_quiet_want
              apply Exists.intro
              refine ⟨fun W hW => ?_, ?_⟩
              · have g0 := cell_later hW K0.out
                go_simp
                all_goals exact rfl
              simp only [Act.put, List.setIfInBounds_toArray, List.set_cons_succ, List.set_cons_zero]
              go_big_quiet_on
            go_big_quiet_want
            apply Exists.intro
            refine ⟨fun W hW => ?_, ?_⟩
            · have g0 := cell_later hW K0.out
              go_simp
              exact call_up hW (C76.out W (bthen HBr.out hW))
            simp only [Act.put, List.setIfInBounds_toArray, List.set_cons_succ, List.set_cons_zero]
            go_big_quiet_on
            iterate 3
              go_big_quiet_want
              apply Exists.intro
              refine ⟨fun W hW => ?_, ?_⟩
              · have g0 := cell_later hW K0.out
                go_simp
                all_goals exact rfl
              simp only [Act.put, List.setIfInBounds_toArray, List.set_cons_succ, List.set_cons_zero]
              go_big_quiet_on
            refine wpQuiet_nil ?_
            intro W hW
            clear hw5 hw6
            have HBW := Lib.hid (bthen HBr.out hW)
            clear hW
            go_wp2
            all_goals
              go_ret
              rw [EF.out]
              have hn := HN.out
              refine ⟨congrArg (fun z => Ending.returned (.int .i64 z)) ?_, HBW.out⟩
              omega
        · have hb1 : ((i : Int) == (f : Int) / 64) = false := by rw [beq_eq_false_iff_ne]; omega
          have HE := Lib.hid (decide_eq_false he)
          clear he
          by_cases hy : wordF x true false (f % 64) = 0
          · have hyb : (x != 0) = false := by have : x = 0 := hy; rw [this]; rfl
            have HNX := Lib.hid (none_next (t := true) HX.out HXW.out HFI.out (by rw [HE.out]; exact hy) HNO.out)
            clear hy
            go_wp2
            go_roundw
            case rel => exact ⟨i + 1, by go_num, by omega, by omega, HNX.out, HBr.out⟩
            case measure => simp [intOf]; omega
          · have hyb : (x != 0) = true := by rw [bne_iff_ne]; exact hy
            have EF := Lib.hid (some_next (t := true) HX.out HXW.out HFI.out (by rw [HE.out]; exact hy) HNO.out HFN.out)
            rw [HE.out] at EF
            have hrg := wordF_range x true false (f % 64) HXW.out (by omega)
            have C76 : Hid (∀ W, Below w.heap.size w W → Calls Tryd.prog 76 #[.int .u64 (x)] W (Ret (.int .i64 (Lib.ctz 64 (wordF x true false (f % 64)).toNat)) W)) := fun W hW => by
              have := tz76 (wordF x true false (f % 64)).toNat (by omega) W (HT.out.below hW)
              rw [show (((wordF x true false (f % 64)).toNat : Nat) : Int) = wordF x true false (f % 64) from by omega] at this
              exact this
            have hk64 := (ctz_bit (wordF x true false (f % 64)).toNat (by omega) (by omega)).1
            generalize Lib.ctz 64 (wordF x true false (f % 64)).toNat = k at *
            have HKN := Lib.hid hk64
            clear hy hrg hk64
            go_wp2
            have hw5 := wrap_in (x := (i : Int) * 64) (by omega)
            have hw6 := wrap_in (x := (i : Int) * 64 + (k : Int)) (by have := HKN.out; omega)
            have K0 := Lib.hid c0
            refine region_up (by kernel_rfl) (by kernel_rfl) ?_
            iterate 8
              go_big_quiet_want
              apply Exists.intro
              refine ⟨fun W hW => ?_, ?_⟩
              · have g0 := cell_later hW K0.out
                go_simp
                all_goals exact rfl
              simp only [Act.put, List.setIfInBounds_toArray, List.set_cons_succ, List.set_cons_zero]
              go_big_quiet_on
            go_big_quiet_want
            apply Exists.intro
            refine ⟨fun W hW => ?_, ?_⟩
            · have g0 := cell_later hW K0.out
              go_simp
              exact call_up hW (C76.out W (bthen HBr.out hW))
            simp only [Act.put, List.setIfInBounds_toArray, List.set_cons_succ, List.set_cons_zero]
            go_big_quiet_on
            iterate 3
              go_big_quiet_want
              apply Exists.intro
              refine ⟨fun W hW => ?_, ?_⟩
              · have g0 := cell_later hW K0.out
                go_simp
                all_goals exact rfl
              simp only [Act.put, List.setIfInBounds_toArray, List.set_cons_succ, List.set_cons_zero]
              go_big_quiet_on
            refine wpQuiet_nil ?_
            intro W hW
            clear hw5 hw6
            have HBW := Lib.hid (bthen HBr.out hW)
            clear hW
            go_wp2
            all_goals
              go_ret
              rw [EF.out]
              have hn := HN.out
              refine ⟨congrArg (fun z => Ending.returned (.int .i64 z)) ?_, HBW.out⟩
              omega
    · have EN : Hid (firstN B f t = B.n.toNat) := none_all HNO.out (by have := HLN.out; omega) HFN.out
      have hge : ¬ (i : Int) < (m : Int) := by omega
      go_wp2
      go_ret
      rw [EN.out]
      have hn := HN.out
      refine ⟨congrArg (fun z => Ending.returned (.int .i64 z)) ?_, HBr.out⟩
      omega
end Go.Proofs.YtchbbldanmmpjaaDoor
