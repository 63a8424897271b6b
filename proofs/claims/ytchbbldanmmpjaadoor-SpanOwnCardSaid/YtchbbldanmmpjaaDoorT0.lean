/- The walk of bits.First. -/
import Derived.Test.YtchbbldanmmpjaaDoorSY
namespace Go.Proofs.YtchbbldanmmpjaaDoor
open Go.RowKit
set_option linter.unusedVariables false
set_option linter.unusedSimpArgs false

def firstIn (b : BitB) (f : Int) : Prop := 0 ≤ f ∧ f ≤ b.n
instance (b : BitB) (f : Int) : Decidable (firstIn b f) := by unfold firstIn; infer_instance
def firstE (b : BitB) (f : Int) (t : Bool) : Int := if okB b = true then (if firstIn b f then (if (firstN b f.toNat t : Int) = b.n then 3 else 0) else 1) else 2
def firstI (b : BitB) (f : Int) (t : Bool) : Int := if firstE b f t = 0 then (firstN b f.toNat t : Int) else 0
set_option maxRecDepth 100000 in
set_option maxHeartbeats 8000000 in
theorem first52 (v : BitV) (b : BitB) (f : Int) (t : Bool) (w : World) (h : RdB w v b) (hT : Tab w) : Calls Tryd.prog 52 #[v.v, .int .i64 f, .bool t] w (Ret (.tuple #[.int .i64 (firstI b f t), .int .i64 (firstE b f t)]) w) := by
  have CC : Hid (∀ W, Below w.heap.size w W → Calls Tryd.prog 62 #[v.v] W (Ret (.int .i64 (okE b)) W)) := fun W hW => check62 v b W (h.below hW)
  have CF : Hid (okB b = true → ∀ k : Nat, f = (k : Int) → (k : Int) ≤ b.n → ∀ W c, Below w.heap.size w W → W.cell? ⟨c, 0, none⟩ = some (.int .i64 b.n) → W.cell? ⟨c, 1, none⟩ = some (.slice v.A v.m v.c) → Calls Tryd.prog 70 #[.pointer (some ⟨c, 0, none⟩), .int .i64 f, .bool t] W (Ret (.int .i64 (firstN b k t)) W)) := fun hok k hk hkn W c hW h0 h1 => by
    have hp := okB_parts hok
    rw [hk]
    exact first70 c v.m v.c k v.A b t W h0 h1 (h.row.below hW) h.m.symm (by omega) (by rw [h.m]; omega) (by rw [h.m]; omega) (hT.below hW) ⟨hp.1, hp.2.1⟩ h.words
  have hbn := h.n
  obtain ⟨n, A, m, ca⟩ := v
  simp only at hbn
  subst hbn
  unfold BitV.v at CC ⊢
  simp only at CC CF ⊢
  clear h hT
  have HB0 : Hid (Below w.heap.size w (w.alloc (.cells #[.int .i64 b.n, .slice A m ca] 24))) := balloc (Below.refl _ _) _
  by_cases hok : okB b = true
  · rw [okE_0 hok] at CC
    by_cases hin : firstIn b f
    · obtain ⟨k, rfl⟩ := Int.eq_ofNat_of_zero_le hin.1
      have CF := Lib.hid (CF.out hok k rfl hin.2)
      have q1 : ¬ (k : Int) < 0 := by omega
      have q2 : ¬ b.n < (k : Int) := by have := hin.2; omega
      by_cases he : (firstN b k t : Int) = b.n
      · have E2 : Hid (firstE b k t = 3) := by show _ = _; unfold firstE; rw [if_pos hok, if_pos hin, Int.toNat_natCast, if_pos he]
        have E1 : Hid (firstI b k t = 0) := by show _ = _; unfold firstI; rw [E2.out]; rfl
        have EB := Lib.hid he
        clear hok hin he
        go_enter Tryd.func52, Tryd.ntmps52
        go_wp2_with (go_at_call 62; refine (CC.out _ HB0.out).mono ?_)
        rintro e w1 ⟨rfl, hb1⟩
        obtain ⟨hc1, hf1, hs1⟩ := bcellB (B := w.heap.size + 1) hb1 (by simp)
        have z0 : w.heap.size < w1.heap.size := hs1
        have HB1 := Lib.hid (bthen HB0.out hb1)
        clear hb1
        have HB2 := Lib.hid (balloc HB1.out (.cells #[.int .i64 b.n, .slice A m ca] 88))
        have K0 : Hid ((w1.alloc (.cells #[.int .i64 b.n, .slice A m ca] 88)).cell? ⟨w1.heap.size, 0, none⟩ = some (.int .i64 b.n)) := by show _ = _; go_simp
        have K1 : Hid ((w1.alloc (.cells #[.int .i64 b.n, .slice A m ca] 88)).cell? ⟨w1.heap.size, 1, none⟩ = some (.slice A m ca)) := by show _ = _; go_simp
        have K2 : Hid ((w1.alloc (.cells #[.int .i64 b.n, .slice A m ca] 88)).cell? ⟨w.heap.size, 0, none⟩ = some (.int .i64 b.n)) := by show _ = _; go_simp
        go_wp2_with (go_at_call 70; refine (CF.out _ _ HB2.out K0.out K1.out).mono ?_)
        rintro e w3 ⟨rfl, hb3⟩
        have HB3 := Lib.hid (bthen HB2.out hb3)
        have k2 := cell_later hb3 K2.out
        rw [EB.out]
        clear hb3
        go_wp2
        go_ret2
        rw [E1.out, E2.out]
        exact ⟨rfl, HB3.out⟩
      · have E2 : Hid (firstE b k t = 0) := by show _ = _; unfold firstE; rw [if_pos hok, if_pos hin, Int.toNat_natCast, if_neg he]
        have E1 : Hid (firstI b k t = (firstN b k t : Int)) := by show _ = _; unfold firstI; rw [E2.out, if_pos rfl, Int.toNat_natCast]
        have hne : ((firstN b k t : Int) == b.n) = false := by rw [beq_eq_false_iff_ne]; exact he
        clear hok hin he
        generalize firstN b k t = r at *
        go_enter Tryd.func52, Tryd.ntmps52
        go_wp2_with (go_at_call 62; refine (CC.out _ HB0.out).mono ?_)
        rintro e w1 ⟨rfl, hb1⟩
        obtain ⟨hc1, hf1, hs1⟩ := bcellB (B := w.heap.size + 1) hb1 (by simp)
        have z0 : w.heap.size < w1.heap.size := hs1
        have HB1 := Lib.hid (bthen HB0.out hb1)
        clear hb1
        have HB2 := Lib.hid (balloc HB1.out (.cells #[.int .i64 b.n, .slice A m ca] 88))
        have K0 : Hid ((w1.alloc (.cells #[.int .i64 b.n, .slice A m ca] 88)).cell? ⟨w1.heap.size, 0, none⟩ = some (.int .i64 b.n)) := by show _ = _; go_simp
        have K1 : Hid ((w1.alloc (.cells #[.int .i64 b.n, .slice A m ca] 88)).cell? ⟨w1.heap.size, 1, none⟩ = some (.slice A m ca)) := by show _ = _; go_simp
        have K2 : Hid ((w1.alloc (.cells #[.int .i64 b.n, .slice A m ca] 88)).cell? ⟨w.heap.size, 0, none⟩ = some (.int .i64 b.n)) := by show _ = _; go_simp
        go_wp2_with (go_at_call 70; refine (CF.out _ _ HB2.out K0.out K1.out).mono ?_)
        rintro e w3 ⟨rfl, hb3⟩
        have HB3 := Lib.hid (bthen HB2.out hb3)
        have k2 := cell_later hb3 K2.out
        clear hb3
        go_wp2
        go_ret2
        rw [E1.out, E2.out]
        exact ⟨rfl, HB3.out⟩
    · have E2 : Hid (firstE b f t = 1) := by show _ = _; unfold firstE; rw [if_pos hok, if_neg hin]
      have E1 : Hid (firstI b f t = 0) := by show _ = _; unfold firstI; rw [E2.out]; rfl
      have hf' : f < 0 ∨ (¬ f < 0 ∧ b.n < f) := by unfold firstIn at hin; omega
      clear hok hin CF
      rcases hf' with hk | ⟨hk0, hk⟩
      all_goals
        go_enter Tryd.func52, Tryd.ntmps52
        go_wp2_with (go_at_call 62; refine (CC.out _ HB0.out).mono ?_)
        rintro e w1 ⟨rfl, hb1⟩
        obtain ⟨hc1, hf1, hs1⟩ := bcellB (B := w.heap.size + 1) hb1 (by simp)
        have HB1 := Lib.hid (bthen HB0.out hb1)
        clear hb1
        go_wp2
        go_ret2
        rw [E1.out, E2.out]
        exact ⟨rfl, HB1.out⟩
  · have hok' : okB b = false := by simpa using hok
    have E2 : Hid (firstE b f t = 2) := by show _ = _; unfold firstE; rw [if_neg hok]
    have E1 : Hid (firstI b f t = 0) := by show _ = _; unfold firstI; rw [E2.out]; rfl
    rw [okE_2 hok'] at CC
    clear hok hok' CF
    go_enter Tryd.func52, Tryd.ntmps52
    go_wp2_with (go_at_call 62; refine (CC.out _ HB0.out).mono ?_)
    rintro e w1 ⟨rfl, hb1⟩
    have HB1 := Lib.hid (bthen HB0.out hb1)
    clear hb1
    go_wp2
    go_ret2
    rw [E1.out, E2.out]
    exact ⟨rfl, HB1.out⟩
end Go.Proofs.YtchbbldanmmpjaaDoor
