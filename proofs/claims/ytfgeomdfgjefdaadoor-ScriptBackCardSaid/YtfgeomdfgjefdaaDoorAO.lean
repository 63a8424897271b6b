/- The laws ScriptFolds and ScriptSpreads walked. -/
import Derived.Test.YtfgeomdfgjefdaaDoorAN
namespace Go.Proofs.YtfgeomdfgjefdaaDoor
open Go.RowKit
set_option linter.unusedVariables false
set_option linter.unusedSimpArgs false

set_option maxRecDepth 100000 in
set_option maxHeartbeats 16000000 in
theorem folds6 (l : List Ev) (e : Ev) (A : Option Addr) (c : Nat) (w : World) (hE : Env w) (hr : RdS w A l) : Calls Tryd.prog 6 #[.slice A l.length c, e.v] w (Ret (.bool true) w) := by
  have C10 : Hid (∀ W, Below w.heap.size w W → Calls Tryd.prog 10 #[] W (Ret (.bool true) W)) := fun W hW => lives10 W (hE.below hW)
  have HV0 := Lib.hid (VarE.made w e)
  have HB0 : Hid (Below w.heap.size w (w.alloc (.cells #[.bool e.thr, .int .i64 e.who, .int .u8 e.kind, .int .i64 e.tw, .int .i64 e.times] 41))) := balloc (Below.refl _ _) _
  by_cases hok : okL l
  · have C14 : Hid (∀ W, Below w.heap.size w W → Calls Tryd.prog 14 #[.slice A l.length c] W (RetSE (foldN l) 0 W)) := fun W hW => by
      have := fold14 l A c W (hr.below hW)
      unfold foldP at this
      rwa [if_pos hok] at this
    have hfo := (foldN_okL hok).1
    have hfl : ((foldN l).length : Int) ≤ (l.length : Int) := by have := (foldN_okL hok).2; omega
    have D14 : Hid (∀ A c W, RdS W A (foldN l) → Calls Tryd.prog 14 #[.slice A (foldN l).length c] W (RetSE (foldN l) 0 W)) := fun A c W h => by
      have := fold14 (foldN l) A c W h
      unfold foldP at this
      rwa [if_pos hfo, fold_fold hok] at this
    have C18 : Hid (∀ W, Below w.heap.size w W → Calls Tryd.prog 18 #[.slice A l.length c, .slice none 0 0] W (Ret (.tuple #[.int .i64 (stepsN l []), .int .i64 0]) W)) := fun W hW => by
      have := steps18 l [] A none c 0 W (hr.below hW) (RdS.nil_ _ _)
      unfold stepsP at this
      rwa [if_pos hok] at this
    have D18 : Hid (∀ A c W, RdS W A (foldN l) → Calls Tryd.prog 18 #[.slice A (foldN l).length c, .slice none 0 0] W (Ret (.tuple #[.int .i64 (stepsN l []), .int .i64 0]) W)) := fun A c W h => by
      have := steps18 (foldN l) [] A none c 0 W h (RdS.nil_ _ _)
      unfold stepsP at this
      rwa [if_pos hfo, steps_fold] at this
    have E18 : Hid (∀ b W, Below w.heap.size w W → RdS W (some ⟨b, 0, none⟩) [e] → Calls Tryd.prog 18 #[.slice A l.length c, .slice (some ⟨b, 0, none⟩) 1 1] W (Ret (.tuple #[.int .i64 (stepsN l [e]), .int .i64 0]) W)) := fun b W hW hb => by
      have := steps18 l [e] A (some ⟨b, 0, none⟩) c 1 W (hr.below hW) hb
      unfold stepsP at this
      rwa [if_pos hok] at this
    have F18 : Hid (∀ b A c W, RdS W A (foldN l) → RdS W (some ⟨b, 0, none⟩) [e] → Calls Tryd.prog 18 #[.slice A (foldN l).length c, .slice (some ⟨b, 0, none⟩) 1 1] W (Ret (.tuple #[.int .i64 (stepsN l [e]), .int .i64 0]) W)) := fun b A c W h hb => by
      have := steps18 (foldN l) [e] A (some ⟨b, 0, none⟩) c 1 W h hb
      unfold stepsP at this
      rwa [if_pos hfo, steps_fold] at this
    have C20 : Hid (∀ A c W, RdS W A (foldN l) → Calls Tryd.prog 20 #[.slice A (foldN l).length c] W (Ret (.int .i64 0) W)) := fun A c W h => by
      have := check20 (foldN l) A c W h
      unfold chkE at this
      rwa [if_pos hfo] at this
    clear hE hr hok hfo
    generalize foldN l = f at *
    generalize stepsN l [] = s0 at *
    generalize stepsN l [e] = s1 at *
    generalize l.length = ll at *
    obtain ⟨t0, wh0, k0, tw0, n0⟩ := e
    unfold Ev.v
    simp only at HB0 HV0
    go_enter Tryd.func6, Tryd.ntmps6
    go_wp2_with (go_at_call 10; refine (C10.out _ HB0.out).mono ?_)
    rintro e w1 ⟨rfl, hb1⟩
    have HB1 := Lib.hid (bthen HB0.out hb1)
    have HV1 := Lib.hid (HV0.out.below hb1)
    clear hb1 C10 HV0 HB0
    go_wp2_with (go_at_call 14; refine (C14.out _ HB1.out).mono ?_)
    rintro e w2 ⟨v, rfl, ho2, hb2⟩
    obtain ⟨A2, c2, rfl, _, hr2⟩ := ho2.shape
    have HB2 := Lib.hid (bthen HB1.out hb2)
    have HV2 := Lib.hid (HV1.out.below hb2)
    have HF2 := Lib.hid hr2
    clear hb2 C14 HV1 ho2 hr2
    go_wp2_with (go_at_call 14; refine (D14.out _ _ _ HF2.out).mono ?_)
    rintro e w3 ⟨v, rfl, ho3, hb3⟩
    obtain ⟨A3, c3, rfl, _, hr3⟩ := ho3.shape
    have HB3 := Lib.hid (bthen HB2.out hb3)
    have HV3 := Lib.hid (HV2.out.below hb3)
    have HF3 := Lib.hid (HF2.out.below hb3)
    have HG3 := Lib.hid hr3
    clear hb3 D14 HV2 ho3 hr3 HF2
    go_wp2_with (go_at_call 18; refine (C18.out _ HB3.out).mono ?_)
    rintro e w4 ⟨rfl, hb4⟩
    have HB4 := Lib.hid (bthen HB3.out hb4)
    have HV4 := Lib.hid (HV3.out.below hb4)
    have HF4 := Lib.hid (HF3.out.below hb4)
    have HG4 := Lib.hid (HG3.out.below hb4)
    clear hb4 C18 HV3 HF3 HG3
    go_wp2_with (go_at_call 18; refine (D18.out _ _ _ HF4.out).mono ?_)
    rintro e w5 ⟨rfl, hb5⟩
    have HB5 := Lib.hid (bthen HB4.out hb5)
    have HV5 := Lib.hid (HV4.out.below hb5)
    have HF5 := Lib.hid (HF4.out.below hb5)
    have HG5 := Lib.hid (HG4.out.below hb5)
    clear hb5 D18 HV4 HF4 HG4
    obtain ⟨j0, j1, j2, j3, j4, -⟩ := HV5.out
    simp only at j0 j1 j2 j3 j4
    have mj := World.block_lt_of_cell? _ _ j0
    have HX5 := Lib.hid (rd_ev w5 ⟨t0, wh0, k0, tw0, n0⟩)
    have HA5 : Hid (Below w5.heap.size w5 (w5.alloc (.cells #[.bool t0, .int .i64 wh0, .int .u8 k0, .int .i64 tw0, .int .i64 n0] 41))) := balloc (Below.refl _ _) _
    have HB6 := Lib.hid (bthen HB5.out HA5.out)
    have HF6 := Lib.hid (HF5.out.below HA5.out)
    have HG6 := Lib.hid (HG5.out.below HA5.out)
    have HV6 := Lib.hid (HV5.out.below HA5.out)
    have HC6 := Lib.hid (E18.out w5.heap.size _ HB6.out HX5.out)
    clear E18
    go_wp2_with (go_at_call 18; refine HC6.out.mono ?_)
    rintro e w7 ⟨rfl, hb7⟩
    have HB7 := Lib.hid (bthen HB6.out hb7)
    have HV7 := Lib.hid (HV6.out.below hb7)
    have HF7 := Lib.hid (HF6.out.below hb7)
    have HG7 := Lib.hid (HG6.out.below hb7)
    clear hb7 HV5 HF5 HG5 HB6 HF6 HG6 HV6 HX5 HA5 HC6 j0 j1 j2 j3 j4 mj
    obtain ⟨j0, j1, j2, j3, j4, -⟩ := HV7.out
    simp only at j0 j1 j2 j3 j4
    have mj := World.block_lt_of_cell? _ _ j0
    have HX5 := Lib.hid (rd_ev w7 ⟨t0, wh0, k0, tw0, n0⟩)
    have HA5 : Hid (Below w7.heap.size w7 (w7.alloc (.cells #[.bool t0, .int .i64 wh0, .int .u8 k0, .int .i64 tw0, .int .i64 n0] 41))) := balloc (Below.refl _ _) _
    have HB8 := Lib.hid (bthen HB7.out HA5.out)
    have HF8 := Lib.hid (HF7.out.below HA5.out)
    have HG8 := Lib.hid (HG7.out.below HA5.out)
    have HC8 := Lib.hid (F18.out w7.heap.size A2 c2 _ HF8.out HX5.out)
    clear F18
    go_wp2_with (go_at_call 18; refine HC8.out.mono ?_)
    rintro e w9 ⟨rfl, hb9⟩
    have HB9 := Lib.hid (bthen HB8.out hb9)
    have HF9 := Lib.hid (HF8.out.below hb9)
    have D11 := Lib.hid (same_refl f A2 A3 c2 c3 w9 HF9.out (HG8.out.below hb9))
    clear hb9 HV7 HF7 HG7 HB8 HF8 HG8 HX5 HA5 HC8 j0 j1 j2 j3 j4 mj
    go_wp2_with (go_at_call 11; refine D11.out.mono ?_)
    rintro e w10 ⟨rfl, hb10⟩
    have HB10 := Lib.hid (bthen HB9.out hb10)
    have D20 := Lib.hid (C20.out A2 c2 w10 (HF9.out.below hb10))
    clear hb10 D11 C20 HF9
    go_wp2_with (go_at_call 20; refine D20.out.mono ?_)
    rintro e w11 ⟨rfl, hb11⟩
    have HB11 := Lib.hid (bthen HB10.out hb11)
    clear hb11 D20
    go_wp2
    go_ret
    exact ⟨rfl, HB11.out⟩
  · have C14 : Hid (∀ W, Below w.heap.size w W → Calls Tryd.prog 14 #[.slice A l.length c] W (RetSE [] 2 W)) := fun W hW => by
      have := fold14 l A c W (hr.below hW)
      unfold foldP at this
      rwa [if_neg hok] at this
    clear hE hr hok
    generalize l.length = ll at *
    obtain ⟨t0, wh0, k0, tw0, n0⟩ := e
    unfold Ev.v
    simp only at HB0
    clear HV0
    go_enter Tryd.func6, Tryd.ntmps6
    go_wp2_with (go_at_call 10; refine (C10.out _ HB0.out).mono ?_)
    rintro e w1 ⟨rfl, hb1⟩
    have HB1 := Lib.hid (bthen HB0.out hb1)
    clear hb1 C10
    go_wp2_with (go_at_call 14; refine (C14.out _ HB1.out).mono ?_)
    rintro e w2 ⟨v, rfl, ho2, hb2⟩
    obtain ⟨A2, c2, rfl, _, hr2⟩ := ho2.shape
    have HB2 := Lib.hid (bthen HB1.out hb2)
    clear hb2 C14 ho2 hr2
    go_wp2
    go_ret
    exact ⟨rfl, HB2.out⟩
set_option maxRecDepth 100000 in
set_option maxHeartbeats 16000000 in
theorem spreads7 (l : List Ev) (A : Option Addr) (c : Nat) (w : World) (hE : Env w) (hr : RdS w A l) : Calls Tryd.prog 7 #[.slice A l.length c] w (Ret (.bool true) w) := by
  have C10 : Hid (∀ W, Below w.heap.size w W → Calls Tryd.prog 10 #[] W (Ret (.bool true) W)) := fun W hW => lives10 W (hE.below hW)
  have C16 : Hid (∀ W, Below w.heap.size w W → Calls Tryd.prog 16 #[.slice A l.length c] W (RetSE (spreadP l).1 (spreadP l).2 W)) := fun W hW => spread16 l A c W (hr.below hW)
  have C18 : Hid (∀ W, Below w.heap.size w W → Calls Tryd.prog 18 #[.slice A l.length c, .slice none 0 0] W (Ret (.tuple #[.int .i64 (stepsP l []).1, .int .i64 (stepsP l []).2]) W)) := fun W hW => steps18 l [] A none c 0 W (hr.below hW) (RdS.nil_ _ _)
  by_cases hok : okL l
  · have hsp : stepsP l [] = (stepsN l [], 0) := if_pos hok
    by_cases hn : stepsN l [] ≤ 4096
    · have hs2 : spreadP l = (spreadN l, 0) := by unfold spreadP; rw [if_pos hok, if_pos hn]
      rw [hs2] at C16
      rw [hsp] at C18
      have hso := spread_ok hok hn
      have hlen := spread_len l hok.2
      rw [← hlen] at C18
      have C14 : Hid (∀ W, Below w.heap.size w W → Calls Tryd.prog 14 #[.slice A l.length c] W (RetSE (foldN l) 0 W)) := fun W hW => by
        have := fold14 l A c W (hr.below hW)
        unfold foldP at this
        rwa [if_pos hok] at this
      have D14 : Hid (∀ A c W, RdS W A (spreadN l) → Calls Tryd.prog 14 #[.slice A (spreadN l).length c] W (RetSE (foldN l) 0 W)) := fun A c W h => by
        have := fold14 (spreadN l) A c W h
        unfold foldP at this
        rwa [if_pos hso, fold_spread hok.2] at this
      clear hE hr hok hsp hn hs2 hso hlen
      simp only at C16 C18
      generalize spreadN l = s at *
      generalize foldN l = f at *
      generalize l.length = ll at *
      go_enter Tryd.func7, Tryd.ntmps7
      go_wp2_with (go_at_call 10; refine (C10.out _ (Below.refl _ _)).mono ?_)
      rintro e w1 ⟨rfl, hb1⟩
      have HB1 := Lib.hid hb1
      clear hb1 C10
      go_wp2_with (go_at_call 16; refine (C16.out _ HB1.out).mono ?_)
      rintro e w2 ⟨v, rfl, ho2, hb2⟩
      obtain ⟨A2, c2, rfl, _, hr2⟩ := ho2.shape
      have HB2 := Lib.hid (bthen HB1.out hb2)
      have HF2 := Lib.hid hr2
      clear hb2 C16 ho2 hr2
      go_wp2_with (go_at_call 18; refine (C18.out _ HB2.out).mono ?_)
      rintro e w3 ⟨rfl, hb3⟩
      have HB3 := Lib.hid (bthen HB2.out hb3)
      have HF3 := Lib.hid (HF2.out.below hb3)
      clear hb3 C18 HF2
      go_wp2_with (go_at_call 14; refine (C14.out _ HB3.out).mono ?_)
      rintro e w4 ⟨v, rfl, ho4, hb4⟩
      obtain ⟨A4, c4, rfl, _, hr4⟩ := ho4.shape
      have HB4 := Lib.hid (bthen HB3.out hb4)
      have HF4 := Lib.hid (HF3.out.below hb4)
      have HG4 := Lib.hid hr4
      clear hb4 C14 ho4 hr4 HF3
      go_wp2_with (go_at_call 14; refine (D14.out _ _ _ HF4.out).mono ?_)
      rintro e w5 ⟨v, rfl, ho5, hb5⟩
      obtain ⟨A5, c5, rfl, _, hr5⟩ := ho5.shape
      have HB5 := Lib.hid (bthen HB4.out hb5)
      have D11 := Lib.hid (same_refl f A4 A5 c4 c5 w5 (HG4.out.below hb5) hr5)
      clear hb5 D14 ho5 hr5 HG4 HF4
      go_wp2_with (go_at_call 11; refine D11.out.mono ?_)
      rintro e w6 ⟨rfl, hb6⟩
      have HB6 := Lib.hid (bthen HB5.out hb6)
      clear hb6 D11
      go_wp2
      go_ret
      exact ⟨rfl, HB6.out⟩
    · have hs2 : spreadP l = ([], 6) := by unfold spreadP; rw [if_pos hok, if_neg hn]
      rw [hs2] at C16
      rw [hsp] at C18
      have hn2 : (4096 : Int) < stepsN l [] := by omega
      clear hE hr hok hsp hn hs2
      simp only at C16 C18
      generalize stepsN l [] = s0 at *
      generalize l.length = ll at *
      go_enter Tryd.func7, Tryd.ntmps7
      go_wp2_with (go_at_call 10; refine (C10.out _ (Below.refl _ _)).mono ?_)
      rintro e w1 ⟨rfl, hb1⟩
      have HB1 := Lib.hid hb1
      clear hb1 C10
      go_wp2_with (go_at_call 16; refine (C16.out _ HB1.out).mono ?_)
      rintro e w2 ⟨v, rfl, ho2, hb2⟩
      obtain ⟨A2, c2, rfl, _, hr2⟩ := ho2.shape
      have HB2 := Lib.hid (bthen HB1.out hb2)
      clear hb2 C16 ho2 hr2
      go_wp2_with (go_at_call 18; refine (C18.out _ HB2.out).mono ?_)
      rintro e w3 ⟨rfl, hb3⟩
      have HB3 := Lib.hid (bthen HB2.out hb3)
      clear hb3 C18
      go_wp2
      go_ret
      exact ⟨rfl, HB3.out⟩
  · have hsp : stepsP l [] = (0, 2) := if_neg hok
    have hs2 : spreadP l = ([], 2) := if_neg hok
    rw [hs2] at C16
    rw [hsp] at C18
    clear hE hr hok hsp hs2
    simp only at C16 C18
    generalize l.length = ll at *
    go_enter Tryd.func7, Tryd.ntmps7
    go_wp2_with (go_at_call 10; refine (C10.out _ (Below.refl _ _)).mono ?_)
    rintro e w1 ⟨rfl, hb1⟩
    have HB1 := Lib.hid hb1
    clear hb1 C10
    go_wp2_with (go_at_call 16; refine (C16.out _ HB1.out).mono ?_)
    rintro e w2 ⟨v, rfl, ho2, hb2⟩
    obtain ⟨A2, c2, rfl, _, hr2⟩ := ho2.shape
    have HB2 := Lib.hid (bthen HB1.out hb2)
    clear hb2 C16 ho2 hr2
    go_wp2_with (go_at_call 18; refine (C18.out _ HB2.out).mono ?_)
    rintro e w3 ⟨rfl, hb3⟩
    have HB3 := Lib.hid (bthen HB2.out hb3)
    clear hb3 C18
    go_wp2
    go_ret
    exact ⟨rfl, HB3.out⟩
end Go.Proofs.YtfgeomdfgjefdaaDoor
