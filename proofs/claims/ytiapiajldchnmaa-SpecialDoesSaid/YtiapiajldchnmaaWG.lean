/- The walk of 'lives': answers that the document gives. -/
import Derived.Test.YtiapiajldchnmaaWF
namespace Go.Proofs.Ytiapiajldchnmaa
open Go.RowKit
set_option linter.unusedVariables false
set_option linter.unusedSimpArgs false

theorem RetS2.shape {l : List Sp} {n : Int} {w w' : World} {e : Ending} (h : RetS2 l n w e w') : ∃ A c, e = .returned (.tuple #[.slice A l.length c, .int .i64 n]) ∧ l.length ≤ c ∧ OwS w' w.heap.size (.slice A l.length c) l ∧ RdS w' A l ∧ Below w.heap.size w w' := by
  obtain ⟨v, rfl, ho, hb⟩ := h
  obtain ⟨A, c, rfl, hc, hr⟩ := ho.shape
  exact ⟨A, c, rfl, hc, ho, hr, hb⟩
theorem RetS3.shape {l m : List Sp} {n : Int} {w w' : World} {e : Ending} (h : RetS3 l m n w e w') : ∃ A c B d, e = .returned (.tuple #[.slice A l.length c, .slice B m.length d, .int .i64 n]) ∧ l.length ≤ c ∧ m.length ≤ d ∧
    OwS w' w.heap.size (.slice A l.length c) l ∧ OwS w' w.heap.size (.slice B m.length d) m ∧ RdS w' A l ∧ RdS w' B m ∧ Below w.heap.size w w' := by
  obtain ⟨v, u, rfl, ho, ho2, hb⟩ := h
  obtain ⟨A, c, rfl, hc, hr⟩ := ho.shape
  obtain ⟨B, d, rfl, hd, hr2⟩ := ho2.shape
  exact ⟨A, c, B, d, rfl, hc, hd, ho, ho2, hr, hr2, hb⟩
theorem RetU2.shape {l : List Int} {n : Int} {w w' : World} {e : Ending} (h : RetU2 l n w e w') : ∃ A c, e = .returned (.tuple #[.slice A l.length c, .int .i64 n]) ∧ l.length ≤ c ∧ RdU w' A l ∧ Below w.heap.size w w' := by
  obtain ⟨v, rfl, ho, hb⟩ := h
  obtain ⟨A, c, rfl, hc, hr⟩ := ho.shape
  exact ⟨A, c, rfl, hc, hr, hb⟩

def sa : Sp := ⟨16, 2, 1⟩
def sb : Sp := ⟨32, 1, 2⟩
def sc : Sp := ⟨16, 2, 3⟩
def l0 : List Sp := [sa, sc, sb]
theorem v1 : addP [] [sa, sb, sc] = (l0, 0) := by decide
theorem v2 : ofP l0 16 = [sa, sc] := by decide
theorem v3 : addP l0 [sb] = (l0, 4) := by decide
theorem v4 : takeL l0 16 2 = [sb] ∧ takeO l0 16 2 = [sa, sc] := by decide
theorem v5 : addrsP l0 2 = [16] := by decide
theorem v6 : checkP l0 = 0 := by decide

theorem rdS_three (W : World) (s t u : Sp) : RdS (W.alloc (.cells #[.int .u64 s.a, .int .u8 s.k, .int .u64 s.t, .int .u64 t.a, .int .u8 t.k, .int .u64 t.t, .int .u64 u.a, .int .u8 u.k, .int .u64 u.t] 41)) (some ⟨W.heap.size, 0, none⟩) [s, t, u] :=
  ⟨rfl, by simp, fun _ => ⟨W.heap.size, 0, rfl, by simp, fun j x hx => by
    rw [cell_of_row _ _ _ _ 41 (0, 0) (heap_alloc_new W _), Nat.zero_add]
    simpa [fl, Sp.cs] using hx⟩⟩

set_option maxRecDepth 100000 in
set_option maxHeartbeats 8000000 in
theorem lives16 (w : World) : Calls Try.prog 16 #[] w (Ret (.bool true) w) := by
  have A10 : Hid (∀ W p, RdS W (some p) [sa, sb, sc] → Calls Try.prog 10 #[.slice none 0 0, .slice (some p) 3 3] W (fun e w' => ∃ A c, e = .returned (.tuple #[.slice A 3 c, .int .i64 0]) ∧ 3 ≤ c ∧ RdS w' A l0 ∧ Below W.heap.size W w')) := by
    intro W p h
    refine (add10 [] [sa, sb, sc] none (some p) 0 3 W (RdS.nil_ _ _) (Nat.le_refl _) h).mono fun e w' h => ?_
    rw [v1] at h
    obtain ⟨A, c, rfl, h1, _, h2, h3⟩ := h.shape
    exact ⟨A, c, rfl, h1, h2, h3⟩
  have A12 : Hid (∀ W A c, 3 ≤ c → RdS W A l0 → Calls Try.prog 12 #[.slice A 3 c, .int .u64 16] W (fun e w' => ∃ A c, e = .returned (.tuple #[.slice A 2 c, .int .i64 0]) ∧ Below W.heap.size W w')) := by
    intro W A c hc h
    refine (of12 l0 A c 16 W h hc).mono fun e w' h => ?_
    rw [v2, v6] at h
    obtain ⟨A, c, rfl, h1, _, h2, h3⟩ := h.shape
    exact ⟨A, c, rfl, h3⟩
  have A10b : Hid (∀ W A c p, 3 ≤ c → RdS W A l0 → RdS W (some p) [sb] → Calls Try.prog 10 #[.slice A 3 c, .slice (some p) 1 1] W (fun e w' => ∃ A c, e = .returned (.tuple #[.slice A 3 c, .int .i64 4]) ∧ Below W.heap.size W w')) := by
    intro W A c p hc h hs
    refine (add10 l0 [sb] A (some p) c 1 W h hc hs).mono fun e w' h => ?_
    rw [v3] at h
    obtain ⟨A, c, rfl, h1, _, h2, h3⟩ := h.shape
    exact ⟨A, c, rfl, h3⟩
  have A14 : Hid (∀ W A c, 3 ≤ c → RdS W A l0 → Calls Try.prog 14 #[.slice A 3 c, .int .u64 16, .int .u8 2] W (fun e w' => ∃ A c B d, e = .returned (.tuple #[.slice A 1 c, .slice B 2 d, .int .i64 0]) ∧ Below W.heap.size W w')) := by
    intro W A c hc h
    refine (take14 l0 A c 16 2 W h hc).mono fun e w' h => ?_
    rw [v4.1, v4.2, v6] at h
    obtain ⟨A, c, B, d, rfl, h1, _, _, _, _, _, h3⟩ := h.shape
    exact ⟨A, c, B, d, rfl, h3⟩
  have A18 : Hid (∀ W A c, 3 ≤ c → RdS W A l0 → Calls Try.prog 18 #[.slice A 3 c, .int .u8 2] W (fun e w' => ∃ b o c, e = .returned (.tuple #[.slice (some ⟨b, o, none⟩) 1 c, .int .i64 0]) ∧ w'.cell? ⟨b, o, none⟩ = some (.int .u64 16) ∧ Below W.heap.size W w')) := by
    intro W A c hc h
    refine (addrs18 l0 A c 2 W h hc).mono fun e w' h => ?_
    rw [v5, v6] at h
    obtain ⟨A, c, rfl, h1, h2, h3⟩ := h.shape
    obtain ⟨b, o, rfl, _, h4⟩ := h2.at_ (i := 0) (x := 16) rfl
    exact ⟨b, o, c, rfl, h4, h3⟩
  have A20 : Hid (∀ W A c, 3 ≤ c → RdS W A l0 → Calls Try.prog 20 #[.slice A 3 c] W (Ret (.int .i64 0) W)) := by
    intro W A c hc h
    have h' := check20 l0 A c W h hc
    rw [v6] at h'
    exact h'
  have HR3 : Hid (RdS ((((w.alloc (.cells #[.int .u64 16, .int .u8 2, .int .u64 1] 41)).alloc (.cells #[.int .u64 32, .int .u8 1, .int .u64 2] 41)).alloc (.cells #[.int .u64 16, .int .u8 2, .int .u64 3] 41)).alloc
      (.cells #[.int .u64 16, .int .u8 2, .int .u64 1, .int .u64 32, .int .u8 1, .int .u64 2, .int .u64 16, .int .u8 2, .int .u64 3] 41)) (some ⟨w.heap.size + 1 + 1 + 1, 0, none⟩) [sa, sb, sc]) := by
    show RdS _ _ _
    have h := rdS_three (((w.alloc (.cells #[.int .u64 16, .int .u8 2, .int .u64 1] 41)).alloc (.cells #[.int .u64 32, .int .u8 1, .int .u64 2] 41)).alloc (.cells #[.int .u64 16, .int .u8 2, .int .u64 3] 41)) sa sb sc
    have e : (((w.alloc (.cells #[.int .u64 16, .int .u8 2, .int .u64 1] 41)).alloc (.cells #[.int .u64 32, .int .u8 1, .int .u64 2] 41)).alloc (.cells #[.int .u64 16, .int .u8 2, .int .u64 3] 41)).heap.size = w.heap.size + 1 + 1 + 1 := by simp
    rw [e] at h
    exact h
  have hb0 : Below w.heap.size w ((((w.alloc (.cells #[.int .u64 16, .int .u8 2, .int .u64 1] 41)).alloc (.cells #[.int .u64 32, .int .u8 1, .int .u64 2] 41)).alloc (.cells #[.int .u64 16, .int .u8 2, .int .u64 3] 41)).alloc
      (.cells #[.int .u64 16, .int .u8 2, .int .u64 1, .int .u64 32, .int .u8 1, .int .u64 2, .int .u64 16, .int .u8 2, .int .u64 3] 41)) := balloc (balloc (balloc (balloc (Below.refl _ _) _) _) _) _
  have FB : Hid (((((w.alloc (.cells #[.int .u64 16, .int .u8 2, .int .u64 1] 41)).alloc (.cells #[.int .u64 32, .int .u8 1, .int .u64 2] 41)).alloc (.cells #[.int .u64 16, .int .u8 2, .int .u64 3] 41)).alloc
      (.cells #[.int .u64 16, .int .u8 2, .int .u64 1, .int .u64 32, .int .u8 1, .int .u64 2, .int .u64 16, .int .u8 2, .int .u64 3] 41)).cell? ⟨w.heap.size + 1, 0, none⟩ = some (.int .u64 32) ∧
      ((((w.alloc (.cells #[.int .u64 16, .int .u8 2, .int .u64 1] 41)).alloc (.cells #[.int .u64 32, .int .u8 1, .int .u64 2] 41)).alloc (.cells #[.int .u64 16, .int .u8 2, .int .u64 3] 41)).alloc
      (.cells #[.int .u64 16, .int .u8 2, .int .u64 1, .int .u64 32, .int .u8 1, .int .u64 2, .int .u64 16, .int .u8 2, .int .u64 3] 41)).cell? ⟨w.heap.size + 1, 1, none⟩ = some (.int .u8 1) ∧
      ((((w.alloc (.cells #[.int .u64 16, .int .u8 2, .int .u64 1] 41)).alloc (.cells #[.int .u64 32, .int .u8 1, .int .u64 2] 41)).alloc (.cells #[.int .u64 16, .int .u8 2, .int .u64 3] 41)).alloc
      (.cells #[.int .u64 16, .int .u8 2, .int .u64 1, .int .u64 32, .int .u8 1, .int .u64 2, .int .u64 16, .int .u8 2, .int .u64 3] 41)).cell? ⟨w.heap.size + 1, 2, none⟩ = some (.int .u64 2)) := by
    refine ⟨?_, ?_, ?_⟩ <;> go_simp
  have FC : Hid (((((w.alloc (.cells #[.int .u64 16, .int .u8 2, .int .u64 1] 41)).alloc (.cells #[.int .u64 32, .int .u8 1, .int .u64 2] 41)).alloc (.cells #[.int .u64 16, .int .u8 2, .int .u64 3] 41)).alloc
      (.cells #[.int .u64 16, .int .u8 2, .int .u64 1, .int .u64 32, .int .u8 1, .int .u64 2, .int .u64 16, .int .u8 2, .int .u64 3] 41)).cell? ⟨w.heap.size + 1 + 1, 0, none⟩ = some (.int .u64 16) ∧
      ((((w.alloc (.cells #[.int .u64 16, .int .u8 2, .int .u64 1] 41)).alloc (.cells #[.int .u64 32, .int .u8 1, .int .u64 2] 41)).alloc (.cells #[.int .u64 16, .int .u8 2, .int .u64 3] 41)).alloc
      (.cells #[.int .u64 16, .int .u8 2, .int .u64 1, .int .u64 32, .int .u8 1, .int .u64 2, .int .u64 16, .int .u8 2, .int .u64 3] 41)).cell? ⟨w.heap.size + 1 + 1, 1, none⟩ = some (.int .u8 2) ∧
      ((((w.alloc (.cells #[.int .u64 16, .int .u8 2, .int .u64 1] 41)).alloc (.cells #[.int .u64 32, .int .u8 1, .int .u64 2] 41)).alloc (.cells #[.int .u64 16, .int .u8 2, .int .u64 3] 41)).alloc
      (.cells #[.int .u64 16, .int .u8 2, .int .u64 1, .int .u64 32, .int .u8 1, .int .u64 2, .int .u64 16, .int .u8 2, .int .u64 3] 41)).cell? ⟨w.heap.size + 1 + 1, 2, none⟩ = some (.int .u64 3)) := by
    refine ⟨?_, ?_, ?_⟩ <;> go_simp
  go_enter Try.func16, Try.ntmps16
  go_wp2_with fail
  refine (A10.out _ _ HR3.out).mono ?_
  rintro e w1 ⟨A1, c1, rfl, hc1, hr1, hb1⟩
  have HB1 := Lib.hid (bthen hb0 hb1)
  have f1 := cell_later hb1 FB.out.1
  have f2 := cell_later hb1 FB.out.2.1
  have f3 := cell_later hb1 FB.out.2.2
  have F4 := Lib.hid (cell_later hb1 FC.out.1)
  have F5 := Lib.hid (cell_later hb1 FC.out.2.1)
  have F6 := Lib.hid (cell_later hb1 FC.out.2.2)
  have F1 := Lib.hid f1
  have F2 := Lib.hid f2
  have F3 := Lib.hid f3
  have HR1 := Lib.hid hr1
  clear f1 f2 f3 FB FC hb0 hb1 hr1 HR3 A10
  go_wp2_with fail
  refine (A12.out _ _ _ hc1 HR1.out).mono ?_
  rintro e w2 ⟨A2, c2, rfl, hb2⟩
  have g1 := cell_later hb2 F1.out
  have g2 := cell_later hb2 F2.out
  have g3 := cell_later hb2 F3.out
  have HB2 := Lib.hid hb2
  have hba : Below w1.heap.size w1 (w2.alloc (.cells #[.int .u64 32, .int .u8 1, .int .u64 2] 41)) := balloc hb2 _
  have HBA := Lib.hid hba
  clear hb2 hba
  go_wp2_with fail
  refine (A10b.out _ _ _ _ hc1 (HR1.out.below HBA.out) (rdS_new w2 sb)).mono ?_
  rintro e w3 ⟨A3, c3, rfl, hb3⟩
  have HB3 := Lib.hid (bthen HBA.out hb3)
  clear g1 g2 g3 hb3 HBA HB2
  go_wp2_with fail
  refine (A14.out _ _ _ hc1 (HR1.out.below HB3.out)).mono ?_
  rintro e w4 ⟨A4, c4, B4, d4, rfl, hb4⟩
  have HB4 := Lib.hid (bthen HB3.out hb4)
  clear hb4 HB3
  go_wp2_with fail
  refine (A18.out _ _ _ hc1 (HR1.out.below HB4.out)).mono ?_
  rintro e w5 ⟨b5, o5, c5, rfl, h5, hb5⟩
  have HB5 := Lib.hid (bthen HB4.out hb5)
  have H5 := Lib.hid h5
  clear hb5 HB4 h5
  obtain ⟨b, o, rfl, _, e1, e2, e3⟩ := (HR1.out.below HB5.out).at_ (i := 1) (s := sc) rfl
  obtain ⟨b', o', e', _, e4, e5, e6⟩ := (HR1.out.below HB5.out).at_ (i := 2) (s := sb) rfl
  simp only [Option.some.injEq, Addr.mk.injEq, and_true] at e'
  obtain ⟨rfl, rfl⟩ := e'
  have K1 : Hid (w5.cell? ⟨b, o + 3, none⟩ = some (.int .u64 16)) := e1
  have K2 : Hid (w5.cell? ⟨b, o + 3 + 1, none⟩ = some (.int .u8 2)) := e2
  have K3 : Hid (w5.cell? ⟨b, o + 3 + 2, none⟩ = some (.int .u64 3)) := e3
  have K4 : Hid (w5.cell? ⟨b, o + 6, none⟩ = some (.int .u64 32)) := e4
  have K5 : Hid (w5.cell? ⟨b, o + 6 + 1, none⟩ = some (.int .u8 1)) := e5
  have K6 : Hid (w5.cell? ⟨b, o + 6 + 2, none⟩ = some (.int .u64 2)) := e6
  have L1 := Lib.hid (cell_later HB5.out F1.out)
  have L2 := Lib.hid (cell_later HB5.out F2.out)
  have L3 := Lib.hid (cell_later HB5.out F3.out)
  have L4 := Lib.hid (cell_later HB5.out F4.out)
  have L5 := Lib.hid (cell_later HB5.out F5.out)
  have L6 := Lib.hid (cell_later HB5.out F6.out)
  clear e1 e2 e3 e4 e5 e6 F1 F2 F3 F4 F5 F6 A10b A12 A14 A18
  have q1 := fun W => eq41 W 16 2 3 16 2 3
  have q2 := fun W => eq41 W 32 1 2 32 1 2
  go_wp2
  have A20' : Hid (∀ W, Below w5.heap.size w5 W → Calls Try.prog 20 #[.slice (some ⟨b, o, none⟩) 3 c1] W (Ret (.int .i64 0) W)) := fun W hW => A20.out W _ _ hc1 ((HR1.out.below HB5.out).below hW)
  clear A20
  refine region_up (by kernel_rfl) (by kernel_rfl) ?_
  simp only [List.append_eq, List.cons_append, List.nil_append]
  go_big_quiet_want
  apply Exists.intro
  refine ⟨fun W hW => ?_, ?_⟩
  · have g0 := cell_later hW K1.out
    have g1 := cell_later hW K2.out
    have g2 := cell_later hW K3.out
    have g3 := cell_later hW K4.out
    have g4 := cell_later hW K5.out
    have g5 := cell_later hW K6.out
    have g6 := cell_later hW L1.out
    have g7 := cell_later hW L2.out
    have g8 := cell_later hW L3.out
    have g9 := cell_later hW L4.out
    have g10 := cell_later hW L5.out
    have g11 := cell_later hW L6.out
    have g12 := cell_later hW H5.out
    go_simp
    exact rfl
  simp only [Act.put, List.setIfInBounds_toArray, List.set_cons_succ, List.set_cons_zero]
  go_big_quiet_on
  go_big_quiet_want
  apply Exists.intro
  refine ⟨fun W hW => ?_, ?_⟩
  · have g0 := cell_later hW K1.out
    have g1 := cell_later hW K2.out
    have g2 := cell_later hW K3.out
    have g3 := cell_later hW K4.out
    have g4 := cell_later hW K5.out
    have g5 := cell_later hW K6.out
    have g6 := cell_later hW L1.out
    have g7 := cell_later hW L2.out
    have g8 := cell_later hW L3.out
    have g9 := cell_later hW L4.out
    have g10 := cell_later hW L5.out
    have g11 := cell_later hW L6.out
    have g12 := cell_later hW H5.out
    go_simp
    exact rfl
  simp only [Act.put, List.setIfInBounds_toArray, List.set_cons_succ, List.set_cons_zero]
  go_big_quiet_on
  go_big_quiet_want
  apply Exists.intro
  refine ⟨fun W hW => ?_, ?_⟩
  · have g0 := cell_later hW K1.out
    have g1 := cell_later hW K2.out
    have g2 := cell_later hW K3.out
    have g3 := cell_later hW K4.out
    have g4 := cell_later hW K5.out
    have g5 := cell_later hW K6.out
    have g6 := cell_later hW L1.out
    have g7 := cell_later hW L2.out
    have g8 := cell_later hW L3.out
    have g9 := cell_later hW L4.out
    have g10 := cell_later hW L5.out
    have g11 := cell_later hW L6.out
    have g12 := cell_later hW H5.out
    go_simp
    exact rfl
  simp only [Act.put, List.setIfInBounds_toArray, List.set_cons_succ, List.set_cons_zero]
  go_big_quiet_on
  go_big_quiet_want
  apply Exists.intro
  refine ⟨fun W hW => ?_, ?_⟩
  · have g0 := cell_later hW K1.out
    have g1 := cell_later hW K2.out
    have g2 := cell_later hW K3.out
    have g3 := cell_later hW K4.out
    have g4 := cell_later hW K5.out
    have g5 := cell_later hW K6.out
    have g6 := cell_later hW L1.out
    have g7 := cell_later hW L2.out
    have g8 := cell_later hW L3.out
    have g9 := cell_later hW L4.out
    have g10 := cell_later hW L5.out
    have g11 := cell_later hW L6.out
    have g12 := cell_later hW H5.out
    go_simp
    exact rfl
  simp only [Act.put, List.setIfInBounds_toArray, List.set_cons_succ, List.set_cons_zero]
  go_big_quiet_on
  go_big_quiet_want
  apply Exists.intro
  refine ⟨fun W hW => ?_, ?_⟩
  · have g0 := cell_later hW K1.out
    have g1 := cell_later hW K2.out
    have g2 := cell_later hW K3.out
    have g3 := cell_later hW K4.out
    have g4 := cell_later hW K5.out
    have g5 := cell_later hW K6.out
    have g6 := cell_later hW L1.out
    have g7 := cell_later hW L2.out
    have g8 := cell_later hW L3.out
    have g9 := cell_later hW L4.out
    have g10 := cell_later hW L5.out
    have g11 := cell_later hW L6.out
    have g12 := cell_later hW H5.out
    go_simp
    exact rfl
  simp only [Act.put, List.setIfInBounds_toArray, List.set_cons_succ, List.set_cons_zero]
  go_big_quiet_on
  go_big_quiet_want
  apply Exists.intro
  refine ⟨fun W hW => ?_, ?_⟩
  · have g0 := cell_later hW K1.out
    have g1 := cell_later hW K2.out
    have g2 := cell_later hW K3.out
    have g3 := cell_later hW K4.out
    have g4 := cell_later hW K5.out
    have g5 := cell_later hW K6.out
    have g6 := cell_later hW L1.out
    have g7 := cell_later hW L2.out
    have g8 := cell_later hW L3.out
    have g9 := cell_later hW L4.out
    have g10 := cell_later hW L5.out
    have g11 := cell_later hW L6.out
    have g12 := cell_later hW H5.out
    go_simp
    exact rfl
  simp only [Act.put, List.setIfInBounds_toArray, List.set_cons_succ, List.set_cons_zero]
  go_big_quiet_on
  go_big_quiet_want
  apply Exists.intro
  refine ⟨fun W hW => ?_, ?_⟩
  · have g0 := cell_later hW K1.out
    have g1 := cell_later hW K2.out
    have g2 := cell_later hW K3.out
    have g3 := cell_later hW K4.out
    have g4 := cell_later hW K5.out
    have g5 := cell_later hW K6.out
    have g6 := cell_later hW L1.out
    have g7 := cell_later hW L2.out
    have g8 := cell_later hW L3.out
    have g9 := cell_later hW L4.out
    have g10 := cell_later hW L5.out
    have g11 := cell_later hW L6.out
    have g12 := cell_later hW H5.out
    go_simp
    exact rfl
  simp only [Act.put, List.setIfInBounds_toArray, List.set_cons_succ, List.set_cons_zero]
  go_big_quiet_on
  go_big_quiet_want
  apply Exists.intro
  refine ⟨fun W hW => ?_, ?_⟩
  · have g0 := cell_later hW K1.out
    have g1 := cell_later hW K2.out
    have g2 := cell_later hW K3.out
    have g3 := cell_later hW K4.out
    have g4 := cell_later hW K5.out
    have g5 := cell_later hW K6.out
    have g6 := cell_later hW L1.out
    have g7 := cell_later hW L2.out
    have g8 := cell_later hW L3.out
    have g9 := cell_later hW L4.out
    have g10 := cell_later hW L5.out
    have g11 := cell_later hW L6.out
    have g12 := cell_later hW H5.out
    go_simp
    exact rfl
  simp only [Act.put, List.setIfInBounds_toArray, List.set_cons_succ, List.set_cons_zero]
  go_big_quiet_on
  go_big_quiet_want
  apply Exists.intro
  refine ⟨fun W hW => ?_, ?_⟩
  · have g0 := cell_later hW K1.out
    have g1 := cell_later hW K2.out
    have g2 := cell_later hW K3.out
    have g3 := cell_later hW K4.out
    have g4 := cell_later hW K5.out
    have g5 := cell_later hW K6.out
    have g6 := cell_later hW L1.out
    have g7 := cell_later hW L2.out
    have g8 := cell_later hW L3.out
    have g9 := cell_later hW L4.out
    have g10 := cell_later hW L5.out
    have g11 := cell_later hW L6.out
    have g12 := cell_later hW H5.out
    go_simp
    exact rfl
  simp only [Act.put, List.setIfInBounds_toArray, List.set_cons_succ, List.set_cons_zero]
  go_big_quiet_on
  go_big_quiet_want
  apply Exists.intro
  refine ⟨fun W hW => ?_, ?_⟩
  · have g0 := cell_later hW K1.out
    have g1 := cell_later hW K2.out
    have g2 := cell_later hW K3.out
    have g3 := cell_later hW K4.out
    have g4 := cell_later hW K5.out
    have g5 := cell_later hW K6.out
    have g6 := cell_later hW L1.out
    have g7 := cell_later hW L2.out
    have g8 := cell_later hW L3.out
    have g9 := cell_later hW L4.out
    have g10 := cell_later hW L5.out
    have g11 := cell_later hW L6.out
    have g12 := cell_later hW H5.out
    go_simp
    exact rfl
  simp only [Act.put, List.setIfInBounds_toArray, List.set_cons_succ, List.set_cons_zero]
  go_big_quiet_on
  go_big_quiet_want
  apply Exists.intro
  refine ⟨fun W hW => ?_, ?_⟩
  · have g0 := cell_later hW K1.out
    have g1 := cell_later hW K2.out
    have g2 := cell_later hW K3.out
    have g3 := cell_later hW K4.out
    have g4 := cell_later hW K5.out
    have g5 := cell_later hW K6.out
    have g6 := cell_later hW L1.out
    have g7 := cell_later hW L2.out
    have g8 := cell_later hW L3.out
    have g9 := cell_later hW L4.out
    have g10 := cell_later hW L5.out
    have g11 := cell_later hW L6.out
    have g12 := cell_later hW H5.out
    go_simp
    exact rfl
  simp only [Act.put, List.setIfInBounds_toArray, List.set_cons_succ, List.set_cons_zero]
  go_big_quiet_on
  go_big_quiet_want
  apply Exists.intro
  refine ⟨fun W hW => ?_, ?_⟩
  · have g0 := cell_later hW K1.out
    have g1 := cell_later hW K2.out
    have g2 := cell_later hW K3.out
    have g3 := cell_later hW K4.out
    have g4 := cell_later hW K5.out
    have g5 := cell_later hW K6.out
    have g6 := cell_later hW L1.out
    have g7 := cell_later hW L2.out
    have g8 := cell_later hW L3.out
    have g9 := cell_later hW L4.out
    have g10 := cell_later hW L5.out
    have g11 := cell_later hW L6.out
    have g12 := cell_later hW H5.out
    go_simp
    exact rfl
  simp only [Act.put, List.setIfInBounds_toArray, List.set_cons_succ, List.set_cons_zero]
  go_big_quiet_on
  go_big_quiet_want
  apply Exists.intro
  refine ⟨fun W hW => ?_, ?_⟩
  · have g0 := cell_later hW K1.out
    have g1 := cell_later hW K2.out
    have g2 := cell_later hW K3.out
    have g3 := cell_later hW K4.out
    have g4 := cell_later hW K5.out
    have g5 := cell_later hW K6.out
    have g6 := cell_later hW L1.out
    have g7 := cell_later hW L2.out
    have g8 := cell_later hW L3.out
    have g9 := cell_later hW L4.out
    have g10 := cell_later hW L5.out
    have g11 := cell_later hW L6.out
    have g12 := cell_later hW H5.out
    go_simp
    exact rfl
  simp only [Act.put, List.setIfInBounds_toArray, List.set_cons_succ, List.set_cons_zero]
  go_big_quiet_on
  go_big_quiet_want
  apply Exists.intro
  refine ⟨fun W hW => ?_, ?_⟩
  · have g0 := cell_later hW K1.out
    have g1 := cell_later hW K2.out
    have g2 := cell_later hW K3.out
    have g3 := cell_later hW K4.out
    have g4 := cell_later hW K5.out
    have g5 := cell_later hW K6.out
    have g6 := cell_later hW L1.out
    have g7 := cell_later hW L2.out
    have g8 := cell_later hW L3.out
    have g9 := cell_later hW L4.out
    have g10 := cell_later hW L5.out
    have g11 := cell_later hW L6.out
    have g12 := cell_later hW H5.out
    go_simp
    exact rfl
  simp only [Act.put, List.setIfInBounds_toArray, List.set_cons_succ, List.set_cons_zero]
  go_big_quiet_on
  go_big_quiet_want
  apply Exists.intro
  refine ⟨fun W hW => ?_, ?_⟩
  · have g0 := cell_later hW K1.out
    have g1 := cell_later hW K2.out
    have g2 := cell_later hW K3.out
    have g3 := cell_later hW K4.out
    have g4 := cell_later hW K5.out
    have g5 := cell_later hW K6.out
    have g6 := cell_later hW L1.out
    have g7 := cell_later hW L2.out
    have g8 := cell_later hW L3.out
    have g9 := cell_later hW L4.out
    have g10 := cell_later hW L5.out
    have g11 := cell_later hW L6.out
    have g12 := cell_later hW H5.out
    go_simp
    exact rfl
  simp only [Act.put, List.setIfInBounds_toArray, List.set_cons_succ, List.set_cons_zero]
  go_big_quiet_on
  go_big_quiet_want
  apply Exists.intro
  refine ⟨fun W hW => ?_, ?_⟩
  · have g0 := cell_later hW K1.out
    have g1 := cell_later hW K2.out
    have g2 := cell_later hW K3.out
    have g3 := cell_later hW K4.out
    have g4 := cell_later hW K5.out
    have g5 := cell_later hW K6.out
    have g6 := cell_later hW L1.out
    have g7 := cell_later hW L2.out
    have g8 := cell_later hW L3.out
    have g9 := cell_later hW L4.out
    have g10 := cell_later hW L5.out
    have g11 := cell_later hW L6.out
    have g12 := cell_later hW H5.out
    go_simp
    exact rfl
  simp only [Act.put, List.setIfInBounds_toArray, List.set_cons_succ, List.set_cons_zero]
  go_big_quiet_on
  go_big_quiet_want
  apply Exists.intro
  refine ⟨fun W hW => ?_, ?_⟩
  · have g0 := cell_later hW K1.out
    have g1 := cell_later hW K2.out
    have g2 := cell_later hW K3.out
    have g3 := cell_later hW K4.out
    have g4 := cell_later hW K5.out
    have g5 := cell_later hW K6.out
    have g6 := cell_later hW L1.out
    have g7 := cell_later hW L2.out
    have g8 := cell_later hW L3.out
    have g9 := cell_later hW L4.out
    have g10 := cell_later hW L5.out
    have g11 := cell_later hW L6.out
    have g12 := cell_later hW H5.out
    go_simp
    exact rfl
  simp only [Act.put, List.setIfInBounds_toArray, List.set_cons_succ, List.set_cons_zero]
  go_big_quiet_on
  go_big_quiet_want
  apply Exists.intro
  refine ⟨fun W hW => ?_, ?_⟩
  · have g0 := cell_later hW K1.out
    have g1 := cell_later hW K2.out
    have g2 := cell_later hW K3.out
    have g3 := cell_later hW K4.out
    have g4 := cell_later hW K5.out
    have g5 := cell_later hW K6.out
    have g6 := cell_later hW L1.out
    have g7 := cell_later hW L2.out
    have g8 := cell_later hW L3.out
    have g9 := cell_later hW L4.out
    have g10 := cell_later hW L5.out
    have g11 := cell_later hW L6.out
    have g12 := cell_later hW H5.out
    go_simp
    exact rfl
  simp only [Act.put, List.setIfInBounds_toArray, List.set_cons_succ, List.set_cons_zero]
  go_big_quiet_on
  go_big_quiet_want
  apply Exists.intro
  refine ⟨fun W hW => ?_, ?_⟩
  · have g0 := cell_later hW K1.out
    have g1 := cell_later hW K2.out
    have g2 := cell_later hW K3.out
    have g3 := cell_later hW K4.out
    have g4 := cell_later hW K5.out
    have g5 := cell_later hW K6.out
    have g6 := cell_later hW L1.out
    have g7 := cell_later hW L2.out
    have g8 := cell_later hW L3.out
    have g9 := cell_later hW L4.out
    have g10 := cell_later hW L5.out
    have g11 := cell_later hW L6.out
    have g12 := cell_later hW H5.out
    go_simp
    exact rfl
  simp only [Act.put, List.setIfInBounds_toArray, List.set_cons_succ, List.set_cons_zero]
  go_big_quiet_on
  go_big_quiet_want
  apply Exists.intro
  refine ⟨fun W hW => ?_, ?_⟩
  · have g0 := cell_later hW K1.out
    have g1 := cell_later hW K2.out
    have g2 := cell_later hW K3.out
    have g3 := cell_later hW K4.out
    have g4 := cell_later hW K5.out
    have g5 := cell_later hW K6.out
    have g6 := cell_later hW L1.out
    have g7 := cell_later hW L2.out
    have g8 := cell_later hW L3.out
    have g9 := cell_later hW L4.out
    have g10 := cell_later hW L5.out
    have g11 := cell_later hW L6.out
    have g12 := cell_later hW H5.out
    go_simp
    exact rfl
  simp only [Act.put, List.setIfInBounds_toArray, List.set_cons_succ, List.set_cons_zero]
  go_big_quiet_on
  go_big_quiet_want
  apply Exists.intro
  refine ⟨fun W hW => ?_, ?_⟩
  · have g0 := cell_later hW K1.out
    have g1 := cell_later hW K2.out
    have g2 := cell_later hW K3.out
    have g3 := cell_later hW K4.out
    have g4 := cell_later hW K5.out
    have g5 := cell_later hW K6.out
    have g6 := cell_later hW L1.out
    have g7 := cell_later hW L2.out
    have g8 := cell_later hW L3.out
    have g9 := cell_later hW L4.out
    have g10 := cell_later hW L5.out
    have g11 := cell_later hW L6.out
    have g12 := cell_later hW H5.out
    go_simp
    exact rfl
  simp only [Act.put, List.setIfInBounds_toArray, List.set_cons_succ, List.set_cons_zero]
  go_big_quiet_on
  go_big_quiet_want
  apply Exists.intro
  refine ⟨fun W hW => ?_, ?_⟩
  · have g0 := cell_later hW K1.out
    have g1 := cell_later hW K2.out
    have g2 := cell_later hW K3.out
    have g3 := cell_later hW K4.out
    have g4 := cell_later hW K5.out
    have g5 := cell_later hW K6.out
    have g6 := cell_later hW L1.out
    have g7 := cell_later hW L2.out
    have g8 := cell_later hW L3.out
    have g9 := cell_later hW L4.out
    have g10 := cell_later hW L5.out
    have g11 := cell_later hW L6.out
    have g12 := cell_later hW H5.out
    go_simp
    exact rfl
  simp only [Act.put, List.setIfInBounds_toArray, List.set_cons_succ, List.set_cons_zero]
  go_big_quiet_on
  go_big_quiet_want
  apply Exists.intro
  refine ⟨fun W hW => ?_, ?_⟩
  · have g0 := cell_later hW K1.out
    have g1 := cell_later hW K2.out
    have g2 := cell_later hW K3.out
    have g3 := cell_later hW K4.out
    have g4 := cell_later hW K5.out
    have g5 := cell_later hW K6.out
    have g6 := cell_later hW L1.out
    have g7 := cell_later hW L2.out
    have g8 := cell_later hW L3.out
    have g9 := cell_later hW L4.out
    have g10 := cell_later hW L5.out
    have g11 := cell_later hW L6.out
    have g12 := cell_later hW H5.out
    go_simp
    exact rfl
  simp only [Act.put, List.setIfInBounds_toArray, List.set_cons_succ, List.set_cons_zero]
  go_big_quiet_on
  go_big_quiet_want
  apply Exists.intro
  refine ⟨fun W hW => ?_, ?_⟩
  · have g0 := cell_later hW K1.out
    have g1 := cell_later hW K2.out
    have g2 := cell_later hW K3.out
    have g3 := cell_later hW K4.out
    have g4 := cell_later hW K5.out
    have g5 := cell_later hW K6.out
    have g6 := cell_later hW L1.out
    have g7 := cell_later hW L2.out
    have g8 := cell_later hW L3.out
    have g9 := cell_later hW L4.out
    have g10 := cell_later hW L5.out
    have g11 := cell_later hW L6.out
    have g12 := cell_later hW H5.out
    go_simp
    exact rfl
  simp only [Act.put, List.setIfInBounds_toArray, List.set_cons_succ, List.set_cons_zero]
  go_big_quiet_on
  go_big_quiet_want
  apply Exists.intro
  refine ⟨fun W hW => ?_, ?_⟩
  · have g0 := cell_later hW K1.out
    have g1 := cell_later hW K2.out
    have g2 := cell_later hW K3.out
    have g3 := cell_later hW K4.out
    have g4 := cell_later hW K5.out
    have g5 := cell_later hW K6.out
    have g6 := cell_later hW L1.out
    have g7 := cell_later hW L2.out
    have g8 := cell_later hW L3.out
    have g9 := cell_later hW L4.out
    have g10 := cell_later hW L5.out
    have g11 := cell_later hW L6.out
    have g12 := cell_later hW H5.out
    go_simp
    exact rfl
  simp only [Act.put, List.setIfInBounds_toArray, List.set_cons_succ, List.set_cons_zero]
  go_big_quiet_on
  go_big_quiet_want
  apply Exists.intro
  refine ⟨fun W hW => ?_, ?_⟩
  · have g0 := cell_later hW K1.out
    have g1 := cell_later hW K2.out
    have g2 := cell_later hW K3.out
    have g3 := cell_later hW K4.out
    have g4 := cell_later hW K5.out
    have g5 := cell_later hW K6.out
    have g6 := cell_later hW L1.out
    have g7 := cell_later hW L2.out
    have g8 := cell_later hW L3.out
    have g9 := cell_later hW L4.out
    have g10 := cell_later hW L5.out
    have g11 := cell_later hW L6.out
    have g12 := cell_later hW H5.out
    go_simp
    exact rfl
  simp only [Act.put, List.setIfInBounds_toArray, List.set_cons_succ, List.set_cons_zero]
  go_big_quiet_on
  go_big_quiet_want
  apply Exists.intro
  refine ⟨fun W hW => ?_, ?_⟩
  · have g0 := cell_later hW K1.out
    have g1 := cell_later hW K2.out
    have g2 := cell_later hW K3.out
    have g3 := cell_later hW K4.out
    have g4 := cell_later hW K5.out
    have g5 := cell_later hW K6.out
    have g6 := cell_later hW L1.out
    have g7 := cell_later hW L2.out
    have g8 := cell_later hW L3.out
    have g9 := cell_later hW L4.out
    have g10 := cell_later hW L5.out
    have g11 := cell_later hW L6.out
    have g12 := cell_later hW H5.out
    go_simp
    exact rfl
  simp only [Act.put, List.setIfInBounds_toArray, List.set_cons_succ, List.set_cons_zero]
  go_big_quiet_on
  go_big_quiet_want
  apply Exists.intro
  refine ⟨fun W hW => ?_, ?_⟩
  · have g0 := cell_later hW K1.out
    have g1 := cell_later hW K2.out
    have g2 := cell_later hW K3.out
    have g3 := cell_later hW K4.out
    have g4 := cell_later hW K5.out
    have g5 := cell_later hW K6.out
    have g6 := cell_later hW L1.out
    have g7 := cell_later hW L2.out
    have g8 := cell_later hW L3.out
    have g9 := cell_later hW L4.out
    have g10 := cell_later hW L5.out
    have g11 := cell_later hW L6.out
    have g12 := cell_later hW H5.out
    go_simp
    exact rfl
  simp only [Act.put, List.setIfInBounds_toArray, List.set_cons_succ, List.set_cons_zero]
  go_big_quiet_on
  go_big_quiet_want
  apply Exists.intro
  refine ⟨fun W hW => ?_, ?_⟩
  · have g0 := cell_later hW K1.out
    have g1 := cell_later hW K2.out
    have g2 := cell_later hW K3.out
    have g3 := cell_later hW K4.out
    have g4 := cell_later hW K5.out
    have g5 := cell_later hW K6.out
    have g6 := cell_later hW L1.out
    have g7 := cell_later hW L2.out
    have g8 := cell_later hW L3.out
    have g9 := cell_later hW L4.out
    have g10 := cell_later hW L5.out
    have g11 := cell_later hW L6.out
    have g12 := cell_later hW H5.out
    go_simp
    exact rfl
  simp only [Act.put, List.setIfInBounds_toArray, List.set_cons_succ, List.set_cons_zero]
  go_big_quiet_on
  go_big_quiet_want
  apply Exists.intro
  refine ⟨fun W hW => ?_, ?_⟩
  · have g0 := cell_later hW K1.out
    have g1 := cell_later hW K2.out
    have g2 := cell_later hW K3.out
    have g3 := cell_later hW K4.out
    have g4 := cell_later hW K5.out
    have g5 := cell_later hW K6.out
    have g6 := cell_later hW L1.out
    have g7 := cell_later hW L2.out
    have g8 := cell_later hW L3.out
    have g9 := cell_later hW L4.out
    have g10 := cell_later hW L5.out
    have g11 := cell_later hW L6.out
    have g12 := cell_later hW H5.out
    go_simp
    exact rfl
  simp only [Act.put, List.setIfInBounds_toArray, List.set_cons_succ, List.set_cons_zero]
  go_big_quiet_on
  go_big_quiet_want
  apply Exists.intro
  refine ⟨fun W hW => ?_, ?_⟩
  · have g0 := cell_later hW K1.out
    have g1 := cell_later hW K2.out
    have g2 := cell_later hW K3.out
    have g3 := cell_later hW K4.out
    have g4 := cell_later hW K5.out
    have g5 := cell_later hW K6.out
    have g6 := cell_later hW L1.out
    have g7 := cell_later hW L2.out
    have g8 := cell_later hW L3.out
    have g9 := cell_later hW L4.out
    have g10 := cell_later hW L5.out
    have g11 := cell_later hW L6.out
    have g12 := cell_later hW H5.out
    go_simp
    exact rfl
  simp only [Act.put, List.setIfInBounds_toArray, List.set_cons_succ, List.set_cons_zero]
  go_big_quiet_on
  go_big_quiet_want
  apply Exists.intro
  refine ⟨fun W hW => ?_, ?_⟩
  · have g0 := cell_later hW K1.out
    have g1 := cell_later hW K2.out
    have g2 := cell_later hW K3.out
    have g3 := cell_later hW K4.out
    have g4 := cell_later hW K5.out
    have g5 := cell_later hW K6.out
    have g6 := cell_later hW L1.out
    have g7 := cell_later hW L2.out
    have g8 := cell_later hW L3.out
    have g9 := cell_later hW L4.out
    have g10 := cell_later hW L5.out
    have g11 := cell_later hW L6.out
    have g12 := cell_later hW H5.out
    go_simp
    exact rfl
  simp only [Act.put, List.setIfInBounds_toArray, List.set_cons_succ, List.set_cons_zero]
  go_big_quiet_on
  go_big_quiet_want
  apply Exists.intro
  refine ⟨fun W hW => ?_, ?_⟩
  · have g0 := cell_later hW K1.out
    have g1 := cell_later hW K2.out
    have g2 := cell_later hW K3.out
    have g3 := cell_later hW K4.out
    have g4 := cell_later hW K5.out
    have g5 := cell_later hW K6.out
    have g6 := cell_later hW L1.out
    have g7 := cell_later hW L2.out
    have g8 := cell_later hW L3.out
    have g9 := cell_later hW L4.out
    have g10 := cell_later hW L5.out
    have g11 := cell_later hW L6.out
    have g12 := cell_later hW H5.out
    go_simp
    exact rfl
  simp only [Act.put, List.setIfInBounds_toArray, List.set_cons_succ, List.set_cons_zero]
  go_big_quiet_on
  go_big_quiet_want
  apply Exists.intro
  refine ⟨fun W hW => ?_, ?_⟩
  · have g0 := cell_later hW K1.out
    have g1 := cell_later hW K2.out
    have g2 := cell_later hW K3.out
    have g3 := cell_later hW K4.out
    have g4 := cell_later hW K5.out
    have g5 := cell_later hW K6.out
    have g6 := cell_later hW L1.out
    have g7 := cell_later hW L2.out
    have g8 := cell_later hW L3.out
    have g9 := cell_later hW L4.out
    have g10 := cell_later hW L5.out
    have g11 := cell_later hW L6.out
    have g12 := cell_later hW H5.out
    go_simp
    exact rfl
  simp only [Act.put, List.setIfInBounds_toArray, List.set_cons_succ, List.set_cons_zero]
  go_big_quiet_on
  go_big_quiet_want
  apply Exists.intro
  refine ⟨fun W hW => ?_, ?_⟩
  · have g0 := cell_later hW K1.out
    have g1 := cell_later hW K2.out
    have g2 := cell_later hW K3.out
    have g3 := cell_later hW K4.out
    have g4 := cell_later hW K5.out
    have g5 := cell_later hW K6.out
    have g6 := cell_later hW L1.out
    have g7 := cell_later hW L2.out
    have g8 := cell_later hW L3.out
    have g9 := cell_later hW L4.out
    have g10 := cell_later hW L5.out
    have g11 := cell_later hW L6.out
    have g12 := cell_later hW H5.out
    go_simp
    exact rfl
  simp only [Act.put, List.setIfInBounds_toArray, List.set_cons_succ, List.set_cons_zero]
  go_big_quiet_on
  go_big_quiet_want
  apply Exists.intro
  refine ⟨fun W hW => ?_, ?_⟩
  · have g0 := cell_later hW K1.out
    have g1 := cell_later hW K2.out
    have g2 := cell_later hW K3.out
    have g3 := cell_later hW K4.out
    have g4 := cell_later hW K5.out
    have g5 := cell_later hW K6.out
    have g6 := cell_later hW L1.out
    have g7 := cell_later hW L2.out
    have g8 := cell_later hW L3.out
    have g9 := cell_later hW L4.out
    have g10 := cell_later hW L5.out
    have g11 := cell_later hW L6.out
    have g12 := cell_later hW H5.out
    go_simp
    exact rfl
  simp only [Act.put, List.setIfInBounds_toArray, List.set_cons_succ, List.set_cons_zero]
  go_big_quiet_on
  go_big_quiet_want
  apply Exists.intro
  refine ⟨fun W hW => ?_, ?_⟩
  · have g0 := cell_later hW K1.out
    have g1 := cell_later hW K2.out
    have g2 := cell_later hW K3.out
    have g3 := cell_later hW K4.out
    have g4 := cell_later hW K5.out
    have g5 := cell_later hW K6.out
    have g6 := cell_later hW L1.out
    have g7 := cell_later hW L2.out
    have g8 := cell_later hW L3.out
    have g9 := cell_later hW L4.out
    have g10 := cell_later hW L5.out
    have g11 := cell_later hW L6.out
    have g12 := cell_later hW H5.out
    go_simp
    exact rfl
  simp only [Act.put, List.setIfInBounds_toArray, List.set_cons_succ, List.set_cons_zero]
  go_big_quiet_on
  go_big_quiet_want
  apply Exists.intro
  refine ⟨fun W hW => ?_, ?_⟩
  · have g0 := cell_later hW K1.out
    have g1 := cell_later hW K2.out
    have g2 := cell_later hW K3.out
    have g3 := cell_later hW K4.out
    have g4 := cell_later hW K5.out
    have g5 := cell_later hW K6.out
    have g6 := cell_later hW L1.out
    have g7 := cell_later hW L2.out
    have g8 := cell_later hW L3.out
    have g9 := cell_later hW L4.out
    have g10 := cell_later hW L5.out
    have g11 := cell_later hW L6.out
    have g12 := cell_later hW H5.out
    go_simp
    exact rfl
  simp only [Act.put, List.setIfInBounds_toArray, List.set_cons_succ, List.set_cons_zero]
  go_big_quiet_on
  go_big_quiet_want
  apply Exists.intro
  refine ⟨fun W hW => ?_, ?_⟩
  · have g0 := cell_later hW K1.out
    have g1 := cell_later hW K2.out
    have g2 := cell_later hW K3.out
    have g3 := cell_later hW K4.out
    have g4 := cell_later hW K5.out
    have g5 := cell_later hW K6.out
    have g6 := cell_later hW L1.out
    have g7 := cell_later hW L2.out
    have g8 := cell_later hW L3.out
    have g9 := cell_later hW L4.out
    have g10 := cell_later hW L5.out
    have g11 := cell_later hW L6.out
    have g12 := cell_later hW H5.out
    go_simp
    exact rfl
  simp only [Act.put, List.setIfInBounds_toArray, List.set_cons_succ, List.set_cons_zero]
  go_big_quiet_on
  go_big_quiet_want
  apply Exists.intro
  refine ⟨fun W hW => ?_, ?_⟩
  · have g0 := cell_later hW K1.out
    have g1 := cell_later hW K2.out
    have g2 := cell_later hW K3.out
    have g3 := cell_later hW K4.out
    have g4 := cell_later hW K5.out
    have g5 := cell_later hW K6.out
    have g6 := cell_later hW L1.out
    have g7 := cell_later hW L2.out
    have g8 := cell_later hW L3.out
    have g9 := cell_later hW L4.out
    have g10 := cell_later hW L5.out
    have g11 := cell_later hW L6.out
    have g12 := cell_later hW H5.out
    go_simp
    exact rfl
  simp only [Act.put, List.setIfInBounds_toArray, List.set_cons_succ, List.set_cons_zero]
  go_big_quiet_on
  go_big_quiet_want
  apply Exists.intro
  refine ⟨fun W hW => ?_, ?_⟩
  · have g0 := cell_later hW K1.out
    have g1 := cell_later hW K2.out
    have g2 := cell_later hW K3.out
    have g3 := cell_later hW K4.out
    have g4 := cell_later hW K5.out
    have g5 := cell_later hW K6.out
    have g6 := cell_later hW L1.out
    have g7 := cell_later hW L2.out
    have g8 := cell_later hW L3.out
    have g9 := cell_later hW L4.out
    have g10 := cell_later hW L5.out
    have g11 := cell_later hW L6.out
    have g12 := cell_later hW H5.out
    go_simp
    exact rfl
  simp only [Act.put, List.setIfInBounds_toArray, List.set_cons_succ, List.set_cons_zero]
  go_big_quiet_on
  go_big_quiet_want
  apply Exists.intro
  refine ⟨fun W hW => ?_, ?_⟩
  · have g0 := cell_later hW K1.out
    have g1 := cell_later hW K2.out
    have g2 := cell_later hW K3.out
    have g3 := cell_later hW K4.out
    have g4 := cell_later hW K5.out
    have g5 := cell_later hW K6.out
    have g6 := cell_later hW L1.out
    have g7 := cell_later hW L2.out
    have g8 := cell_later hW L3.out
    have g9 := cell_later hW L4.out
    have g10 := cell_later hW L5.out
    have g11 := cell_later hW L6.out
    have g12 := cell_later hW H5.out
    go_simp
    exact rfl
  simp only [Act.put, List.setIfInBounds_toArray, List.set_cons_succ, List.set_cons_zero]
  go_big_quiet_on
  go_big_quiet_want
  apply Exists.intro
  refine ⟨fun W hW => ?_, ?_⟩
  · have g0 := cell_later hW K1.out
    have g1 := cell_later hW K2.out
    have g2 := cell_later hW K3.out
    have g3 := cell_later hW K4.out
    have g4 := cell_later hW K5.out
    have g5 := cell_later hW K6.out
    have g6 := cell_later hW L1.out
    have g7 := cell_later hW L2.out
    have g8 := cell_later hW L3.out
    have g9 := cell_later hW L4.out
    have g10 := cell_later hW L5.out
    have g11 := cell_later hW L6.out
    have g12 := cell_later hW H5.out
    go_simp
    exact rfl
  simp only [Act.put, List.setIfInBounds_toArray, List.set_cons_succ, List.set_cons_zero]
  go_big_quiet_on
  go_big_quiet_want
  apply Exists.intro
  refine ⟨fun W hW => ?_, ?_⟩
  · have g0 := cell_later hW K1.out
    have g1 := cell_later hW K2.out
    have g2 := cell_later hW K3.out
    have g3 := cell_later hW K4.out
    have g4 := cell_later hW K5.out
    have g5 := cell_later hW K6.out
    have g6 := cell_later hW L1.out
    have g7 := cell_later hW L2.out
    have g8 := cell_later hW L3.out
    have g9 := cell_later hW L4.out
    have g10 := cell_later hW L5.out
    have g11 := cell_later hW L6.out
    have g12 := cell_later hW H5.out
    go_simp
    exact rfl
  simp only [Act.put, List.setIfInBounds_toArray, List.set_cons_succ, List.set_cons_zero]
  go_big_quiet_on
  go_big_quiet_want
  apply Exists.intro
  refine ⟨fun W hW => ?_, ?_⟩
  · have g0 := cell_later hW K1.out
    have g1 := cell_later hW K2.out
    have g2 := cell_later hW K3.out
    have g3 := cell_later hW K4.out
    have g4 := cell_later hW K5.out
    have g5 := cell_later hW K6.out
    have g6 := cell_later hW L1.out
    have g7 := cell_later hW L2.out
    have g8 := cell_later hW L3.out
    have g9 := cell_later hW L4.out
    have g10 := cell_later hW L5.out
    have g11 := cell_later hW L6.out
    have g12 := cell_later hW H5.out
    go_simp
    exact rfl
  simp only [Act.put, List.setIfInBounds_toArray, List.set_cons_succ, List.set_cons_zero]
  go_big_quiet_on
  go_big_quiet_want
  apply Exists.intro
  refine ⟨fun W hW => ?_, ?_⟩
  · have g0 := cell_later hW K1.out
    have g1 := cell_later hW K2.out
    have g2 := cell_later hW K3.out
    have g3 := cell_later hW K4.out
    have g4 := cell_later hW K5.out
    have g5 := cell_later hW K6.out
    have g6 := cell_later hW L1.out
    have g7 := cell_later hW L2.out
    have g8 := cell_later hW L3.out
    have g9 := cell_later hW L4.out
    have g10 := cell_later hW L5.out
    have g11 := cell_later hW L6.out
    have g12 := cell_later hW H5.out
    go_simp
    exact rfl
  simp only [Act.put, List.setIfInBounds_toArray, List.set_cons_succ, List.set_cons_zero]
  go_big_quiet_on
  go_big_quiet_want
  apply Exists.intro
  refine ⟨fun W hW => ?_, ?_⟩
  · have g0 := cell_later hW K1.out
    have g1 := cell_later hW K2.out
    have g2 := cell_later hW K3.out
    have g3 := cell_later hW K4.out
    have g4 := cell_later hW K5.out
    have g5 := cell_later hW K6.out
    have g6 := cell_later hW L1.out
    have g7 := cell_later hW L2.out
    have g8 := cell_later hW L3.out
    have g9 := cell_later hW L4.out
    have g10 := cell_later hW L5.out
    have g11 := cell_later hW L6.out
    have g12 := cell_later hW H5.out
    go_simp
    exact rfl
  simp only [Act.put, List.setIfInBounds_toArray, List.set_cons_succ, List.set_cons_zero]
  go_big_quiet_on
  go_big_quiet_want
  apply Exists.intro
  refine ⟨fun W hW => ?_, ?_⟩
  · have g0 := cell_later hW K1.out
    have g1 := cell_later hW K2.out
    have g2 := cell_later hW K3.out
    have g3 := cell_later hW K4.out
    have g4 := cell_later hW K5.out
    have g5 := cell_later hW K6.out
    have g6 := cell_later hW L1.out
    have g7 := cell_later hW L2.out
    have g8 := cell_later hW L3.out
    have g9 := cell_later hW L4.out
    have g10 := cell_later hW L5.out
    have g11 := cell_later hW L6.out
    have g12 := cell_later hW H5.out
    go_simp
    exact rfl
  simp only [Act.put, List.setIfInBounds_toArray, List.set_cons_succ, List.set_cons_zero]
  go_big_quiet_on
  go_big_quiet_want
  apply Exists.intro
  refine ⟨fun W hW => ?_, ?_⟩
  · have g0 := cell_later hW K1.out
    have g1 := cell_later hW K2.out
    have g2 := cell_later hW K3.out
    have g3 := cell_later hW K4.out
    have g4 := cell_later hW K5.out
    have g5 := cell_later hW K6.out
    have g6 := cell_later hW L1.out
    have g7 := cell_later hW L2.out
    have g8 := cell_later hW L3.out
    have g9 := cell_later hW L4.out
    have g10 := cell_later hW L5.out
    have g11 := cell_later hW L6.out
    have g12 := cell_later hW H5.out
    go_simp
    exact rfl
  simp only [Act.put, List.setIfInBounds_toArray, List.set_cons_succ, List.set_cons_zero]
  go_big_quiet_on
  go_big_quiet_want
  apply Exists.intro
  refine ⟨fun W hW => ?_, ?_⟩
  · have g0 := cell_later hW K1.out
    have g1 := cell_later hW K2.out
    have g2 := cell_later hW K3.out
    have g3 := cell_later hW K4.out
    have g4 := cell_later hW K5.out
    have g5 := cell_later hW K6.out
    have g6 := cell_later hW L1.out
    have g7 := cell_later hW L2.out
    have g8 := cell_later hW L3.out
    have g9 := cell_later hW L4.out
    have g10 := cell_later hW L5.out
    have g11 := cell_later hW L6.out
    have g12 := cell_later hW H5.out
    go_simp
    exact rfl
  simp only [Act.put, List.setIfInBounds_toArray, List.set_cons_succ, List.set_cons_zero]
  go_big_quiet_on
  go_big_quiet_want
  apply Exists.intro
  refine ⟨fun W hW => ?_, ?_⟩
  · have g0 := cell_later hW K1.out
    have g1 := cell_later hW K2.out
    have g2 := cell_later hW K3.out
    have g3 := cell_later hW K4.out
    have g4 := cell_later hW K5.out
    have g5 := cell_later hW K6.out
    have g6 := cell_later hW L1.out
    have g7 := cell_later hW L2.out
    have g8 := cell_later hW L3.out
    have g9 := cell_later hW L4.out
    have g10 := cell_later hW L5.out
    have g11 := cell_later hW L6.out
    have g12 := cell_later hW H5.out
    go_simp
    exact rfl
  simp only [Act.put, List.setIfInBounds_toArray, List.set_cons_succ, List.set_cons_zero]
  go_big_quiet_on
  go_big_quiet_want
  apply Exists.intro
  refine ⟨fun W hW => ?_, ?_⟩
  · have g0 := cell_later hW K1.out
    have g1 := cell_later hW K2.out
    have g2 := cell_later hW K3.out
    have g3 := cell_later hW K4.out
    have g4 := cell_later hW K5.out
    have g5 := cell_later hW K6.out
    have g6 := cell_later hW L1.out
    have g7 := cell_later hW L2.out
    have g8 := cell_later hW L3.out
    have g9 := cell_later hW L4.out
    have g10 := cell_later hW L5.out
    have g11 := cell_later hW L6.out
    have g12 := cell_later hW H5.out
    go_simp
    exact rfl
  simp only [Act.put, List.setIfInBounds_toArray, List.set_cons_succ, List.set_cons_zero]
  go_big_quiet_on
  go_big_quiet_want
  apply Exists.intro
  refine ⟨fun W hW => ?_, ?_⟩
  · have g0 := cell_later hW K1.out
    have g1 := cell_later hW K2.out
    have g2 := cell_later hW K3.out
    have g3 := cell_later hW K4.out
    have g4 := cell_later hW K5.out
    have g5 := cell_later hW K6.out
    have g6 := cell_later hW L1.out
    have g7 := cell_later hW L2.out
    have g8 := cell_later hW L3.out
    have g9 := cell_later hW L4.out
    have g10 := cell_later hW L5.out
    have g11 := cell_later hW L6.out
    have g12 := cell_later hW H5.out
    go_simp
    exact rfl
  simp only [Act.put, List.setIfInBounds_toArray, List.set_cons_succ, List.set_cons_zero]
  go_big_quiet_on
  go_big_quiet_want
  apply Exists.intro
  refine ⟨fun W hW => ?_, ?_⟩
  · have g0 := cell_later hW K1.out
    have g1 := cell_later hW K2.out
    have g2 := cell_later hW K3.out
    have g3 := cell_later hW K4.out
    have g4 := cell_later hW K5.out
    have g5 := cell_later hW K6.out
    have g6 := cell_later hW L1.out
    have g7 := cell_later hW L2.out
    have g8 := cell_later hW L3.out
    have g9 := cell_later hW L4.out
    have g10 := cell_later hW L5.out
    have g11 := cell_later hW L6.out
    have g12 := cell_later hW H5.out
    go_simp
    exact rfl
  simp only [Act.put, List.setIfInBounds_toArray, List.set_cons_succ, List.set_cons_zero]
  go_big_quiet_on
  go_big_quiet_want
  apply Exists.intro
  refine ⟨fun W hW => ?_, ?_⟩
  · have g0 := cell_later hW K1.out
    have g1 := cell_later hW K2.out
    have g2 := cell_later hW K3.out
    have g3 := cell_later hW K4.out
    have g4 := cell_later hW K5.out
    have g5 := cell_later hW K6.out
    have g6 := cell_later hW L1.out
    have g7 := cell_later hW L2.out
    have g8 := cell_later hW L3.out
    have g9 := cell_later hW L4.out
    have g10 := cell_later hW L5.out
    have g11 := cell_later hW L6.out
    have g12 := cell_later hW H5.out
    go_simp
    exact rfl
  simp only [Act.put, List.setIfInBounds_toArray, List.set_cons_succ, List.set_cons_zero]
  go_big_quiet_on
  go_big_quiet_want
  apply Exists.intro
  refine ⟨fun W hW => ?_, ?_⟩
  · have g0 := cell_later hW K1.out
    have g1 := cell_later hW K2.out
    have g2 := cell_later hW K3.out
    have g3 := cell_later hW K4.out
    have g4 := cell_later hW K5.out
    have g5 := cell_later hW K6.out
    have g6 := cell_later hW L1.out
    have g7 := cell_later hW L2.out
    have g8 := cell_later hW L3.out
    have g9 := cell_later hW L4.out
    have g10 := cell_later hW L5.out
    have g11 := cell_later hW L6.out
    have g12 := cell_later hW H5.out
    go_simp
    exact rfl
  simp only [Act.put, List.setIfInBounds_toArray, List.set_cons_succ, List.set_cons_zero]
  go_big_quiet_on
  go_big_quiet_want
  apply Exists.intro
  refine ⟨fun W hW => ?_, ?_⟩
  · have g0 := cell_later hW K1.out
    have g1 := cell_later hW K2.out
    have g2 := cell_later hW K3.out
    have g3 := cell_later hW K4.out
    have g4 := cell_later hW K5.out
    have g5 := cell_later hW K6.out
    have g6 := cell_later hW L1.out
    have g7 := cell_later hW L2.out
    have g8 := cell_later hW L3.out
    have g9 := cell_later hW L4.out
    have g10 := cell_later hW L5.out
    have g11 := cell_later hW L6.out
    have g12 := cell_later hW H5.out
    go_simp
    exact rfl
  simp only [Act.put, List.setIfInBounds_toArray, List.set_cons_succ, List.set_cons_zero]
  go_big_quiet_on
  go_big_quiet_want
  apply Exists.intro
  refine ⟨fun W hW => ?_, ?_⟩
  · have g0 := cell_later hW K1.out
    have g1 := cell_later hW K2.out
    have g2 := cell_later hW K3.out
    have g3 := cell_later hW K4.out
    have g4 := cell_later hW K5.out
    have g5 := cell_later hW K6.out
    have g6 := cell_later hW L1.out
    have g7 := cell_later hW L2.out
    have g8 := cell_later hW L3.out
    have g9 := cell_later hW L4.out
    have g10 := cell_later hW L5.out
    have g11 := cell_later hW L6.out
    have g12 := cell_later hW H5.out
    go_simp
    exact rfl
  simp only [Act.put, List.setIfInBounds_toArray, List.set_cons_succ, List.set_cons_zero]
  go_big_quiet_on
  go_big_quiet_want
  apply Exists.intro
  refine ⟨fun W hW => ?_, ?_⟩
  · have g0 := cell_later hW K1.out
    have g1 := cell_later hW K2.out
    have g2 := cell_later hW K3.out
    have g3 := cell_later hW K4.out
    have g4 := cell_later hW K5.out
    have g5 := cell_later hW K6.out
    have g6 := cell_later hW L1.out
    have g7 := cell_later hW L2.out
    have g8 := cell_later hW L3.out
    have g9 := cell_later hW L4.out
    have g10 := cell_later hW L5.out
    have g11 := cell_later hW L6.out
    have g12 := cell_later hW H5.out
    go_simp
    exact rfl
  simp only [Act.put, List.setIfInBounds_toArray, List.set_cons_succ, List.set_cons_zero]
  go_big_quiet_on
  go_big_quiet_want
  apply Exists.intro
  refine ⟨fun W hW => ?_, ?_⟩
  · have g0 := cell_later hW K1.out
    have g1 := cell_later hW K2.out
    have g2 := cell_later hW K3.out
    have g3 := cell_later hW K4.out
    have g4 := cell_later hW K5.out
    have g5 := cell_later hW K6.out
    have g6 := cell_later hW L1.out
    have g7 := cell_later hW L2.out
    have g8 := cell_later hW L3.out
    have g9 := cell_later hW L4.out
    have g10 := cell_later hW L5.out
    have g11 := cell_later hW L6.out
    have g12 := cell_later hW H5.out
    go_simp
    exact rfl
  simp only [Act.put, List.setIfInBounds_toArray, List.set_cons_succ, List.set_cons_zero]
  go_big_quiet_on
  go_big_quiet_want
  apply Exists.intro
  refine ⟨fun W hW => ?_, ?_⟩
  · have g0 := cell_later hW K1.out
    have g1 := cell_later hW K2.out
    have g2 := cell_later hW K3.out
    have g3 := cell_later hW K4.out
    have g4 := cell_later hW K5.out
    have g5 := cell_later hW K6.out
    have g6 := cell_later hW L1.out
    have g7 := cell_later hW L2.out
    have g8 := cell_later hW L3.out
    have g9 := cell_later hW L4.out
    have g10 := cell_later hW L5.out
    have g11 := cell_later hW L6.out
    have g12 := cell_later hW H5.out
    go_simp
    exact rfl
  simp only [Act.put, List.setIfInBounds_toArray, List.set_cons_succ, List.set_cons_zero]
  go_big_quiet_on
  go_big_quiet_want
  apply Exists.intro
  refine ⟨fun W hW => ?_, ?_⟩
  · have g0 := cell_later hW K1.out
    have g1 := cell_later hW K2.out
    have g2 := cell_later hW K3.out
    have g3 := cell_later hW K4.out
    have g4 := cell_later hW K5.out
    have g5 := cell_later hW K6.out
    have g6 := cell_later hW L1.out
    have g7 := cell_later hW L2.out
    have g8 := cell_later hW L3.out
    have g9 := cell_later hW L4.out
    have g10 := cell_later hW L5.out
    have g11 := cell_later hW L6.out
    have g12 := cell_later hW H5.out
    go_simp
    exact rfl
  simp only [Act.put, List.setIfInBounds_toArray, List.set_cons_succ, List.set_cons_zero]
  go_big_quiet_on
  go_big_quiet_want
  apply Exists.intro
  refine ⟨fun W hW => ?_, ?_⟩
  · have g0 := cell_later hW K1.out
    have g1 := cell_later hW K2.out
    have g2 := cell_later hW K3.out
    have g3 := cell_later hW K4.out
    have g4 := cell_later hW K5.out
    have g5 := cell_later hW K6.out
    have g6 := cell_later hW L1.out
    have g7 := cell_later hW L2.out
    have g8 := cell_later hW L3.out
    have g9 := cell_later hW L4.out
    have g10 := cell_later hW L5.out
    have g11 := cell_later hW L6.out
    have g12 := cell_later hW H5.out
    go_simp
    exact rfl
  simp only [Act.put, List.setIfInBounds_toArray, List.set_cons_succ, List.set_cons_zero]
  go_big_quiet_on
  go_big_quiet_want
  apply Exists.intro
  refine ⟨fun W hW => ?_, ?_⟩
  · have g0 := cell_later hW K1.out
    have g1 := cell_later hW K2.out
    have g2 := cell_later hW K3.out
    have g3 := cell_later hW K4.out
    have g4 := cell_later hW K5.out
    have g5 := cell_later hW K6.out
    have g6 := cell_later hW L1.out
    have g7 := cell_later hW L2.out
    have g8 := cell_later hW L3.out
    have g9 := cell_later hW L4.out
    have g10 := cell_later hW L5.out
    have g11 := cell_later hW L6.out
    have g12 := cell_later hW H5.out
    go_simp
    exact rfl
  simp only [Act.put, List.setIfInBounds_toArray, List.set_cons_succ, List.set_cons_zero]
  go_big_quiet_on
  go_big_quiet_want
  apply Exists.intro
  refine ⟨fun W hW => ?_, ?_⟩
  · have g0 := cell_later hW K1.out
    have g1 := cell_later hW K2.out
    have g2 := cell_later hW K3.out
    have g3 := cell_later hW K4.out
    have g4 := cell_later hW K5.out
    have g5 := cell_later hW K6.out
    have g6 := cell_later hW L1.out
    have g7 := cell_later hW L2.out
    have g8 := cell_later hW L3.out
    have g9 := cell_later hW L4.out
    have g10 := cell_later hW L5.out
    have g11 := cell_later hW L6.out
    have g12 := cell_later hW H5.out
    go_simp
    exact rfl
  simp only [Act.put, List.setIfInBounds_toArray, List.set_cons_succ, List.set_cons_zero]
  go_big_quiet_on
  go_big_quiet_want
  apply Exists.intro
  refine ⟨fun W hW => ?_, ?_⟩
  · have g0 := cell_later hW K1.out
    have g1 := cell_later hW K2.out
    have g2 := cell_later hW K3.out
    have g3 := cell_later hW K4.out
    have g4 := cell_later hW K5.out
    have g5 := cell_later hW K6.out
    have g6 := cell_later hW L1.out
    have g7 := cell_later hW L2.out
    have g8 := cell_later hW L3.out
    have g9 := cell_later hW L4.out
    have g10 := cell_later hW L5.out
    have g11 := cell_later hW L6.out
    have g12 := cell_later hW H5.out
    go_simp
    exact call_up hW (A20'.out W hW)
  simp only [Act.put, List.setIfInBounds_toArray, List.set_cons_succ, List.set_cons_zero]
  go_big_quiet_on
  go_big_quiet_want
  apply Exists.intro
  refine ⟨fun W hW => ?_, ?_⟩
  · have g0 := cell_later hW K1.out
    have g1 := cell_later hW K2.out
    have g2 := cell_later hW K3.out
    have g3 := cell_later hW K4.out
    have g4 := cell_later hW K5.out
    have g5 := cell_later hW K6.out
    have g6 := cell_later hW L1.out
    have g7 := cell_later hW L2.out
    have g8 := cell_later hW L3.out
    have g9 := cell_later hW L4.out
    have g10 := cell_later hW L5.out
    have g11 := cell_later hW L6.out
    have g12 := cell_later hW H5.out
    go_simp
    exact rfl
  simp only [Act.put, List.setIfInBounds_toArray, List.set_cons_succ, List.set_cons_zero]
  go_big_quiet_on
  go_big_quiet_want
  apply Exists.intro
  refine ⟨fun W hW => ?_, ?_⟩
  · have g0 := cell_later hW K1.out
    have g1 := cell_later hW K2.out
    have g2 := cell_later hW K3.out
    have g3 := cell_later hW K4.out
    have g4 := cell_later hW K5.out
    have g5 := cell_later hW K6.out
    have g6 := cell_later hW L1.out
    have g7 := cell_later hW L2.out
    have g8 := cell_later hW L3.out
    have g9 := cell_later hW L4.out
    have g10 := cell_later hW L5.out
    have g11 := cell_later hW L6.out
    have g12 := cell_later hW H5.out
    go_simp
    exact rfl
  simp only [Act.put, List.setIfInBounds_toArray, List.set_cons_succ, List.set_cons_zero]
  go_big_quiet_on
  go_big_quiet_want
  apply Exists.intro
  refine ⟨fun W hW => ?_, ?_⟩
  · have g0 := cell_later hW K1.out
    have g1 := cell_later hW K2.out
    have g2 := cell_later hW K3.out
    have g3 := cell_later hW K4.out
    have g4 := cell_later hW K5.out
    have g5 := cell_later hW K6.out
    have g6 := cell_later hW L1.out
    have g7 := cell_later hW L2.out
    have g8 := cell_later hW L3.out
    have g9 := cell_later hW L4.out
    have g10 := cell_later hW L5.out
    have g11 := cell_later hW L6.out
    have g12 := cell_later hW H5.out
    go_simp
    exact rfl
  simp only [Act.put, List.setIfInBounds_toArray, List.set_cons_succ, List.set_cons_zero]
  go_big_quiet_on
  refine wpQuiet_nil ?_
  intro W hW
  go_wp2
  go_ret
  exact ⟨rfl, bthen (bthen HB1.out HB5.out) hW⟩
end Go.Proofs.Ytiapiajldchnmaa
