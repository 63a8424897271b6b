/- The law ScriptBack walked. -/
import Derived.Test.YtfgeomdfgjefdaaDoorAO
namespace Go.Proofs.YtfgeomdfgjefdaaDoor
open Go.RowKit
set_option linter.unusedVariables false
set_option linter.unusedSimpArgs false

theorem printL_max {l : List Ev} (h : okL l) : (printL l).length ≤ 249856 := by
  have := printL_len h l.length (Nat.le_refl _)
  rw [List.take_length] at this
  have := h.1
  omega
set_option maxRecDepth 100000 in
set_option maxHeartbeats 16000000 in
theorem back5 (l : List Ev) (text : List UInt8) (ht : text.length ≤ 9223372036854775807) (A : Option Addr) (c : Nat) (w : World) (hE : Env w) (hr : RdS w A l) : Calls Tryd.prog 5 #[.slice A l.length c, strV text] w (Ret (.bool true) w) := by
  have C10 : Hid (∀ W, Below w.heap.size w W → Calls Tryd.prog 10 #[] W (Ret (.bool true) W)) := fun W hW => lives10 W (hE.below hW)
  have HEN := Lib.hid hE
  have HRL := Lib.hid hr
  have C8 : Hid (∀ W, Below w.heap.size w W → Calls Tryd.prog 8 #[.string ⟨text.toArray⟩] W (RetPa (parseQ text) W)) := fun W hW => by
    have := parse8 text ht W (HEN.out.below hW)
    rwa [parse_agree] at this
  have HEND := Lib.hid (parse_ends text)
  generalize parseQ text = q at *
  obtain ⟨k, ln, no⟩ := q
  simp only at HEND
  by_cases hok : okL l
  · have C12 : Hid (∀ W, Below w.heap.size w W → Calls Tryd.prog 12 #[.slice A l.length c] W (Ret (.tuple #[strV (printL l), .int .i64 0]) W)) := fun W hW => by
      have := print12 l A c W (HRL.out.below hW) (HEN.out.below hW)
      unfold printP at this
      rwa [if_pos hok] at this
    by_cases hs : (printL l).length ≤ 65536
    · have hs0 : ((printL l).length : Int) ≤ 65536 := by omega
      have C8L : Hid (∀ W, Below w.heap.size w W → Calls Tryd.prog 8 #[strV (printL l)] W (RetPa (l, 0, 0) W)) := fun W hW => by
        have := parse8 (printL l) (by omega) W (HEN.out.below hW)
        rwa [parse_agree, parse_print hok hs] at this
      clear hE hr hok hs
      generalize printL l = pl at *
      unfold strV at C8L C12 ⊢
      go_enter Tryd.func5, Tryd.ntmps5
      go_wp2_with (go_at_call 10; refine (C10.out _ (Below.refl _ _)).mono ?_)
      rintro e w1 ⟨rfl, hb1⟩
      have HB1 := Lib.hid hb1
      clear hb1 C10
      go_wp2_with (go_at_call 12; refine (C12.out _ HB1.out).mono ?_)
      rintro e w2 ⟨rfl, hb2⟩
      have HB2 := Lib.hid (bthen HB1.out hb2)
      clear hb2 C12
      go_wp2_with (go_at_call 8; refine (C8L.out _ HB2.out).mono ?_)
      rintro e w3 ⟨v, rfl, ho3, hb3⟩
      simp only at ho3
      obtain ⟨A3, c3, rfl, _, hr3⟩ := ho3.shape
      have HB3 := Lib.hid (bthen HB2.out hb3)
      have D3 := Lib.hid (same_refl l A A3 c c3 w3 (HRL.out.below HB3.out) hr3)
      clear hb3 ho3 hr3 C8L
      go_wp2_with (go_at_call 11; refine D3.out.mono ?_)
      rintro e w3b ⟨rfl, hb3b⟩
      have HB3B := Lib.hid (bthen HB3.out hb3b)
      clear hb3b D3
      go_wp2_with (go_at_call 8; refine (C8.out _ HB3B.out).mono ?_)
      rintro e w4 ⟨v, rfl, ho4, hb4⟩
      simp only at ho4
      obtain ⟨A4, c4, rfl, _, hr4⟩ := ho4.shape
      have HB4 := Lib.hid (bthen HB3B.out hb4)
      have HR4 := Lib.hid hr4
      clear hb4 ho4 hr4 C8
      rcases HEND.out with ⟨rfl, hko, rfl⟩ | ⟨rfl, hne, hln⟩
      · have C12K : Hid (∀ W, Below w.heap.size w W → RdS W A4 k → Calls Tryd.prog 12 #[.slice A4 k.length c4] W (Ret (.tuple #[strV (printL k), .int .i64 0]) W)) := fun W hW h => by
          have := print12 k A4 c4 W h (HEN.out.below hW)
          unfold printP at this
          rwa [if_pos hko] at this
        by_cases hs : (printL k).length ≤ 65536
        · have hs1 : ¬ (65536 : Int) < ((printL k).length : Int) := by omega
          have C8K : Hid (∀ W, Below w.heap.size w W → Calls Tryd.prog 8 #[strV (printL k)] W (RetPa (k, 0, 0) W)) := fun W hW => by
            have := parse8 (printL k) (by omega) W (HEN.out.below hW)
            rwa [parse_agree, parse_print hko hs] at this
          clear hko hs HEND
          generalize printL k = pk at *
          unfold strV at C8K C12K
          go_wp2_with (go_at_call 12; refine (C12K.out _ HB4.out HR4.out).mono ?_)
          rintro e w5 ⟨rfl, hb5⟩
          have HB5 := Lib.hid (bthen HB4.out hb5)
          have HR5 := Lib.hid (HR4.out.below hb5)
          clear hb5 C12K
          go_wp2_with (go_at_call 8; refine (C8K.out _ HB5.out).mono ?_)
          rintro e w6 ⟨v, rfl, ho6, hb6⟩
          simp only at ho6
          obtain ⟨A6, c6, rfl, _, hr6⟩ := ho6.shape
          have HB6 := Lib.hid (bthen HB5.out hb6)
          have D11 := Lib.hid (same_refl k A4 A6 c4 c6 w6 (HR5.out.below hb6) hr6)
          clear hb6 ho6 hr6 C8K
          go_wp2_with (go_at_call 11; refine D11.out.mono ?_)
          rintro e w7 ⟨rfl, hb7⟩
          have HB7 := Lib.hid (bthen HB6.out hb7)
          clear hb7 D11
          go_wp2
          go_ret
          exact ⟨rfl, HB7.out⟩
        · have hs1 : (65536 : Int) < ((printL k).length : Int) := by omega
          have hpl := printL_max hko
          have C8K : Hid (∀ W, Below w.heap.size w W → Calls Tryd.prog 8 #[strV (printL k)] W (RetPa ([], 0, 1) W)) := fun W hW => by
            have := parse8 (printL k) (by omega) W (HEN.out.below hW)
            unfold parseP at this
            rwa [if_pos (by omega)] at this
          clear hko hs HEND
          generalize printL k = pk at *
          unfold strV at C8K C12K
          go_wp2_with (go_at_call 12; refine (C12K.out _ HB4.out HR4.out).mono ?_)
          rintro e w5 ⟨rfl, hb5⟩
          have HB5 := Lib.hid (bthen HB4.out hb5)
          clear hb5 C12K
          go_wp2_with (go_at_call 8; refine (C8K.out _ HB5.out).mono ?_)
          rintro e w6 ⟨v, rfl, ho6, hb6⟩
          simp only at ho6
          obtain ⟨A6, c6, rfl, _, hr6⟩ := ho6.shape
          have HB6 := Lib.hid (bthen HB5.out hb6)
          clear hb6 ho6 hr6 C8K
          go_wp2
          go_ret
          exact ⟨rfl, HB6.out⟩
      · have hn1 : (no == 0) = false := by rw [beq_eq_false_iff_ne]; exact hne
        have hn2 : (no != 0) = true := by simp [hne]
        clear hne HEND
        rcases hln with ⟨hl1, hl2⟩ | ⟨rfl, rfl⟩
        · have hn3 : (no == 1) = false := by rw [beq_eq_false_iff_ne]; exact hl2
          have hn4 : (no != 1) = true := by simp [hl2]
          clear hl2
          go_wp2
          go_ret
          exact ⟨rfl, HB4.out⟩
        · go_wp2
          go_ret
          exact ⟨rfl, HB4.out⟩
    · have hs0 : ¬ ((printL l).length : Int) ≤ 65536 := by omega
      clear hE hr hok hs
      generalize printL l = pl at *
      unfold strV at C12 ⊢
      go_enter Tryd.func5, Tryd.ntmps5
      go_wp2_with (go_at_call 10; refine (C10.out _ (Below.refl _ _)).mono ?_)
      rintro e w1 ⟨rfl, hb1⟩
      have HB1 := Lib.hid hb1
      clear hb1 C10
      go_wp2_with (go_at_call 12; refine (C12.out _ HB1.out).mono ?_)
      rintro e w2 ⟨rfl, hb2⟩
      have HB2 := Lib.hid (bthen HB1.out hb2)
      clear hb2 C12
      go_wp2_with (go_at_call 8; refine (C8.out _ HB2.out).mono ?_)
      rintro e w4 ⟨v, rfl, ho4, hb4⟩
      simp only at ho4
      obtain ⟨A4, c4, rfl, _, hr4⟩ := ho4.shape
      have HB4 := Lib.hid (bthen HB2.out hb4)
      have HR4 := Lib.hid hr4
      clear hb4 ho4 hr4 C8
      rcases HEND.out with ⟨rfl, hko, rfl⟩ | ⟨rfl, hne, hln⟩
      · have C12K : Hid (∀ W, Below w.heap.size w W → RdS W A4 k → Calls Tryd.prog 12 #[.slice A4 k.length c4] W (Ret (.tuple #[strV (printL k), .int .i64 0]) W)) := fun W hW h => by
          have := print12 k A4 c4 W h (HEN.out.below hW)
          unfold printP at this
          rwa [if_pos hko] at this
        by_cases hs : (printL k).length ≤ 65536
        · have hs1 : ¬ (65536 : Int) < ((printL k).length : Int) := by omega
          have C8K : Hid (∀ W, Below w.heap.size w W → Calls Tryd.prog 8 #[strV (printL k)] W (RetPa (k, 0, 0) W)) := fun W hW => by
            have := parse8 (printL k) (by omega) W (HEN.out.below hW)
            rwa [parse_agree, parse_print hko hs] at this
          clear hko hs HEND
          generalize printL k = pk at *
          unfold strV at C8K C12K
          go_wp2_with (go_at_call 12; refine (C12K.out _ HB4.out HR4.out).mono ?_)
          rintro e w5 ⟨rfl, hb5⟩
          have HB5 := Lib.hid (bthen HB4.out hb5)
          have HR5 := Lib.hid (HR4.out.below hb5)
          clear hb5 C12K
          go_wp2_with (go_at_call 8; refine (C8K.out _ HB5.out).mono ?_)
          rintro e w6 ⟨v, rfl, ho6, hb6⟩
          simp only at ho6
          obtain ⟨A6, c6, rfl, _, hr6⟩ := ho6.shape
          have HB6 := Lib.hid (bthen HB5.out hb6)
          have D11 := Lib.hid (same_refl k A4 A6 c4 c6 w6 (HR5.out.below hb6) hr6)
          clear hb6 ho6 hr6 C8K
          go_wp2_with (go_at_call 11; refine D11.out.mono ?_)
          rintro e w7 ⟨rfl, hb7⟩
          have HB7 := Lib.hid (bthen HB6.out hb7)
          clear hb7 D11
          go_wp2
          go_ret
          exact ⟨rfl, HB7.out⟩
        · have hs1 : (65536 : Int) < ((printL k).length : Int) := by omega
          have hpl := printL_max hko
          have C8K : Hid (∀ W, Below w.heap.size w W → Calls Tryd.prog 8 #[strV (printL k)] W (RetPa ([], 0, 1) W)) := fun W hW => by
            have := parse8 (printL k) (by omega) W (HEN.out.below hW)
            unfold parseP at this
            rwa [if_pos (by omega)] at this
          clear hko hs HEND
          generalize printL k = pk at *
          unfold strV at C8K C12K
          go_wp2_with (go_at_call 12; refine (C12K.out _ HB4.out HR4.out).mono ?_)
          rintro e w5 ⟨rfl, hb5⟩
          have HB5 := Lib.hid (bthen HB4.out hb5)
          clear hb5 C12K
          go_wp2_with (go_at_call 8; refine (C8K.out _ HB5.out).mono ?_)
          rintro e w6 ⟨v, rfl, ho6, hb6⟩
          simp only at ho6
          obtain ⟨A6, c6, rfl, _, hr6⟩ := ho6.shape
          have HB6 := Lib.hid (bthen HB5.out hb6)
          clear hb6 ho6 hr6 C8K
          go_wp2
          go_ret
          exact ⟨rfl, HB6.out⟩
      · have hn1 : (no == 0) = false := by rw [beq_eq_false_iff_ne]; exact hne
        have hn2 : (no != 0) = true := by simp [hne]
        clear hne HEND
        rcases hln with ⟨hl1, hl2⟩ | ⟨rfl, rfl⟩
        · have hn3 : (no == 1) = false := by rw [beq_eq_false_iff_ne]; exact hl2
          have hn4 : (no != 1) = true := by simp [hl2]
          clear hl2
          go_wp2
          go_ret
          exact ⟨rfl, HB4.out⟩
        · go_wp2
          go_ret
          exact ⟨rfl, HB4.out⟩
  · have C12 : Hid (∀ W, Below w.heap.size w W → Calls Tryd.prog 12 #[.slice A l.length c] W (Ret (.tuple #[.string ⟨#[]⟩, .int .i64 2]) W)) := fun W hW => by
      have := print12 l A c W (HRL.out.below hW) (HEN.out.below hW)
      unfold printP at this
      rwa [if_neg hok] at this
    clear hE hr hok
    unfold strV
    go_enter Tryd.func5, Tryd.ntmps5
    go_wp2_with (go_at_call 10; refine (C10.out _ (Below.refl _ _)).mono ?_)
    rintro e w1 ⟨rfl, hb1⟩
    have HB1 := Lib.hid hb1
    clear hb1 C10
    go_wp2_with (go_at_call 12; refine (C12.out _ HB1.out).mono ?_)
    rintro e w2 ⟨rfl, hb2⟩
    have HB2 := Lib.hid (bthen HB1.out hb2)
    clear hb2 C12
    go_wp2_with (go_at_call 8; refine (C8.out _ HB2.out).mono ?_)
    rintro e w4 ⟨v, rfl, ho4, hb4⟩
    simp only at ho4
    obtain ⟨A4, c4, rfl, _, hr4⟩ := ho4.shape
    have HB4 := Lib.hid (bthen HB2.out hb4)
    have HR4 := Lib.hid hr4
    clear hb4 ho4 hr4 C8
    rcases HEND.out with ⟨rfl, hko, rfl⟩ | ⟨rfl, hne, hln⟩
    · have C12K : Hid (∀ W, Below w.heap.size w W → RdS W A4 k → Calls Tryd.prog 12 #[.slice A4 k.length c4] W (Ret (.tuple #[strV (printL k), .int .i64 0]) W)) := fun W hW h => by
        have := print12 k A4 c4 W h (HEN.out.below hW)
        unfold printP at this
        rwa [if_pos hko] at this
      by_cases hs : (printL k).length ≤ 65536
      · have hs1 : ¬ (65536 : Int) < ((printL k).length : Int) := by omega
        have C8K : Hid (∀ W, Below w.heap.size w W → Calls Tryd.prog 8 #[strV (printL k)] W (RetPa (k, 0, 0) W)) := fun W hW => by
          have := parse8 (printL k) (by omega) W (HEN.out.below hW)
          rwa [parse_agree, parse_print hko hs] at this
        clear hko hs HEND
        generalize printL k = pk at *
        unfold strV at C8K C12K
        go_wp2_with (go_at_call 12; refine (C12K.out _ HB4.out HR4.out).mono ?_)
        rintro e w5 ⟨rfl, hb5⟩
        have HB5 := Lib.hid (bthen HB4.out hb5)
        have HR5 := Lib.hid (HR4.out.below hb5)
        clear hb5 C12K
        go_wp2_with (go_at_call 8; refine (C8K.out _ HB5.out).mono ?_)
        rintro e w6 ⟨v, rfl, ho6, hb6⟩
        simp only at ho6
        obtain ⟨A6, c6, rfl, _, hr6⟩ := ho6.shape
        have HB6 := Lib.hid (bthen HB5.out hb6)
        have D11 := Lib.hid (same_refl k A4 A6 c4 c6 w6 (HR5.out.below hb6) hr6)
        clear hb6 ho6 hr6 C8K
        go_wp2_with (go_at_call 11; refine D11.out.mono ?_)
        rintro e w7 ⟨rfl, hb7⟩
        have HB7 := Lib.hid (bthen HB6.out hb7)
        clear hb7 D11
        go_wp2
        go_ret
        exact ⟨rfl, HB7.out⟩
      · have hs1 : (65536 : Int) < ((printL k).length : Int) := by omega
        have hpl := printL_max hko
        have C8K : Hid (∀ W, Below w.heap.size w W → Calls Tryd.prog 8 #[strV (printL k)] W (RetPa ([], 0, 1) W)) := fun W hW => by
          have := parse8 (printL k) (by omega) W (HEN.out.below hW)
          unfold parseP at this
          rwa [if_pos (by omega)] at this
        clear hko hs HEND
        generalize printL k = pk at *
        unfold strV at C8K C12K
        go_wp2_with (go_at_call 12; refine (C12K.out _ HB4.out HR4.out).mono ?_)
        rintro e w5 ⟨rfl, hb5⟩
        have HB5 := Lib.hid (bthen HB4.out hb5)
        clear hb5 C12K
        go_wp2_with (go_at_call 8; refine (C8K.out _ HB5.out).mono ?_)
        rintro e w6 ⟨v, rfl, ho6, hb6⟩
        simp only at ho6
        obtain ⟨A6, c6, rfl, _, hr6⟩ := ho6.shape
        have HB6 := Lib.hid (bthen HB5.out hb6)
        clear hb6 ho6 hr6 C8K
        go_wp2
        go_ret
        exact ⟨rfl, HB6.out⟩
    · have hn1 : (no == 0) = false := by rw [beq_eq_false_iff_ne]; exact hne
      have hn2 : (no != 0) = true := by simp [hne]
      clear hne HEND
      rcases hln with ⟨hl1, hl2⟩ | ⟨rfl, rfl⟩
      · have hn3 : (no == 1) = false := by rw [beq_eq_false_iff_ne]; exact hl2
        have hn4 : (no != 1) = true := by simp [hl2]
        clear hl2
        go_wp2
        go_ret
        exact ⟨rfl, HB4.out⟩
      · go_wp2
        go_ret
        exact ⟨rfl, HB4.out⟩
end Go.Proofs.YtfgeomdfgjefdaaDoor
