/- The walk of bits.Get. -/
import Derived.Test.YtchbbldanmmpjaaDoorT7
namespace Go.Proofs.YtchbbldanmmpjaaDoor
open Go.RowKit
set_option linter.unusedVariables false
set_option linter.unusedSimpArgs false

def getP (b : BitB) (i : Int) : Bool := if okB b = true then (if putIn b i then bitP b i.toNat else false) else false
def getE (b : BitB) (i : Int) : Int := if okB b = true then (if putIn b i then 0 else 1) else 2
set_option maxRecDepth 100000 in
set_option maxHeartbeats 8000000 in
theorem get32 (v : BitV) (b : BitB) (i : Int) (w : World) (h : RdB w v b) : Calls Tryd.prog 32 #[v.v, .int .i64 i] w (Ret (.tuple #[.bool (getP b i), .int .i64 (getE b i)]) w) := by
  have CC : Hid (∀ W, Below w.heap.size w W → Calls Tryd.prog 62 #[v.v] W (Ret (.int .i64 (okE b)) W)) := fun W hW => check62 v b W (h.below hW)
  have CI : Hid (∀ k : Nat, i = (k : Int) → k / 64 < b.w.length → k ≤ 1000000 → ∀ W, Below w.heap.size w W → Calls Tryd.prog 50 #[v.v, .int .i64 i] W (Ret (.bool (bitP b k)) W)) := fun k hi hk h1 W hW => by
    subst hi
    exact is50 v b k W (h.below hW) hk h1
  have hbn := h.n
  obtain ⟨n, A, m, ca⟩ := v
  simp only at hbn
  subst hbn
  unfold BitV.v at CC CI ⊢
  simp only at CC CI ⊢
  clear h
  have HB0 : Hid (Below w.heap.size w (w.alloc (.cells #[.int .i64 b.n, .slice A m ca] 24))) := balloc (Below.refl _ _) _
  by_cases hok : okB b = true
  · rw [okE_0 hok] at CC
    have hparts := okB_parts hok
    by_cases hin : putIn b i
    · have E2 : Hid (getE b i = 0) := by show _ = _; unfold getE; rw [if_pos hok, if_pos hin]
      have hin' := hin
      obtain ⟨q0, q1⟩ := hin'
      obtain ⟨k, rfl⟩ := Int.eq_ofNat_of_zero_le q0
      have E1 : Hid (getP b k = bitP b k) := by show _ = _; unfold getP; rw [if_pos hok, if_pos hin]; rfl
      have CI := Lib.hid (CI.out k rfl (by omega) (by omega))
      have q2 : ¬ (k : Int) < 0 := by omega
      have q3 : ¬ b.n ≤ (k : Int) := by omega
      rw [E1.out, E2.out]
      clear hin hok hparts E1 E2 q0 q1
      go_enter Tryd.func32, Tryd.ntmps32
      go_wp2_with (go_at_call 62; refine (CC.out _ HB0.out).mono ?_)
      rintro e w1 ⟨rfl, hb1⟩
      obtain ⟨hc1, hf1, hs1⟩ := bcellB (B := w.heap.size + 1) hb1 (by simp)
      have HB1 := Lib.hid (bthen HB0.out hb1)
      clear hb1 CC
      go_wp2_with (go_at_call 50; refine (CI.out _ HB1.out).mono ?_)
      rintro e w2 ⟨rfl, hb2⟩
      have HB2 := Lib.hid (bthen HB1.out hb2)
      clear hb2 CI
      go_wp2
      go_ret2
      exact ⟨rfl, HB2.out⟩
    · have hc : i < 0 ∨ (¬ i < 0 ∧ b.n ≤ i) := by unfold putIn at hin; omega
      rw [show getP b i = false from by unfold getP; rw [if_pos hok, if_neg hin], show getE b i = 1 from by unfold getE; rw [if_pos hok, if_neg hin]]
      clear hin hok hparts CI
      rcases hc with h | ⟨h0, h⟩
      all_goals
        go_enter Tryd.func32, Tryd.ntmps32
        go_wp2_with (go_at_call 62; refine (CC.out _ HB0.out).mono ?_)
        rintro e w1 ⟨rfl, hb1⟩
        obtain ⟨hc1, hf1, hs1⟩ := bcellB (B := w.heap.size + 1) hb1 (by simp)
        have HB1 := Lib.hid (bthen HB0.out hb1)
        clear hb1 CC
        go_wp2
        go_ret2
        exact ⟨rfl, HB1.out⟩
  · have hne : okB b = false := by simpa using hok
    rw [show getP b i = false from by unfold getP; rw [if_neg hok], show getE b i = 2 from by unfold getE; rw [if_neg hok]]
    rw [show okE b = 2 from by unfold okE; rw [hne]; rfl] at CC
    clear hok hne CI
    go_enter Tryd.func32, Tryd.ntmps32
    go_wp2_with (go_at_call 62; refine (CC.out _ HB0.out).mono ?_)
    rintro e w1 ⟨rfl, hb1⟩
    obtain ⟨hc1, hf1, hs1⟩ := bcellB (B := w.heap.size + 1) hb1 (by simp)
    have HB1 := Lib.hid (bthen HB0.out hb1)
    clear hb1 CC
    go_wp2
    go_ret2
    exact ⟨rfl, HB1.out⟩
end Go.Proofs.YtchbbldanmmpjaaDoor
