/- The walks of what only looks: numbers, tests, and the library's searches. -/
import Derived.Test.YtiapiajldchnmaaProg
import Derived.Test.YtiapiajldchnmaaW1
namespace Go.Proofs.Ytiapiajldchnmaa
open Go.RowKit
set_option linter.unusedVariables false
set_option linter.unusedSimpArgs false

theorem isnan_any (x : Int) (w : World) : Calls Try.prog 39 #[.int .u64 x] w fun e w' => e = .returned (.bool false) ∧ w = w' := by
  go_enter Try.func39, Try.ntmps39
  go_wp2
  go_ret
  exact ⟨rfl, rfl⟩

theorem compare_any (x y : Int) (w : World) : Calls Try.prog 32 #[.int .u64 x, .int .u64 y] w fun e w' => e = .returned (.int .i64 (cmpI x y)) ∧ w = w' := by
  by_cases h1 : x < y
  · have : cmpI x y = -1 := by unfold cmpI; simp [h1]
    rw [this]
    go_enter Try.func32, Try.ntmps32
    go_wp2
    go_ret
    exact ⟨rfl, rfl⟩
  · by_cases h2 : y < x
    · have : cmpI x y = 1 := by unfold cmpI; simp [h1, h2]
      rw [this]
      go_enter Try.func32, Try.ntmps32
      go_wp2
      go_ret
      exact ⟨rfl, rfl⟩
    · have : cmpI x y = 0 := by unfold cmpI; simp [h1, h2]
      rw [this]
      go_enter Try.func32, Try.ntmps32
      go_wp2
      go_ret
      exact ⟨rfl, rfl⟩

theorem one33 (s : Sp) (w : World) : Calls Try.prog 33 #[s.v] w (Ret (.bool (oneP s)) w) := by
  obtain ⟨a, k, t⟩ := s
  unfold Sp.v
  by_cases h1 : 0 < a
  · by_cases h2 : 0 < k
    · have E : oneP ⟨a, k, t⟩ = decide (k < 3) := by simp [oneP, h1, h2]
      rw [E]
      go_enter Try.func33, Try.ntmps33
      go_wp2
      go_ret
      exact ⟨rfl, balloc (Below.refl _ _) _⟩
    · have E : oneP ⟨a, k, t⟩ = false := by simp [oneP, h1, h2]
      rw [E]
      go_enter Try.func33, Try.ntmps33
      go_wp2
      go_ret
      exact ⟨rfl, balloc (Below.refl _ _) _⟩
  · have E : oneP ⟨a, k, t⟩ = false := by simp [oneP, h1]
    rw [E]
    go_enter Try.func33, Try.ntmps33
    go_wp2
    go_ret
    exact ⟨rfl, balloc (Below.refl _ _) _⟩

theorem one35 (s : Sp) (w : World) : Calls Try.prog 35 #[s.v] w (Ret (.bool (oneP s)) w) := by
  obtain ⟨a, k, t⟩ := s
  unfold Sp.v
  by_cases h1 : 0 < a
  · by_cases h2 : 0 < k
    · have E : oneP ⟨a, k, t⟩ = decide (k < 3) := by simp [oneP, h1, h2]
      rw [E]
      go_enter Try.func35, Try.ntmps35
      go_wp2
      go_ret
      exact ⟨rfl, balloc (Below.refl _ _) _⟩
    · have E : oneP ⟨a, k, t⟩ = false := by simp [oneP, h1, h2]
      rw [E]
      go_enter Try.func35, Try.ntmps35
      go_wp2
      go_ret
      exact ⟨rfl, balloc (Below.refl _ _) _⟩
  · have E : oneP ⟨a, k, t⟩ = false := by simp [oneP, h1]
    rw [E]
    go_enter Try.func35, Try.ntmps35
    go_wp2
    go_ret
    exact ⟨rfl, balloc (Below.refl _ _) _⟩

/-- final's closure: it holds x at c. -/
theorem clo41 (s : Sp) (x : Int) (c : Addr) (w : World) (hc : w.cell? c = some (.int .u64 x)) : Calls Try.prog 41 #[s.v, .pointer (some c)] w (Ret (.bool (isP x 1 s)) w) := by
  obtain ⟨a, k, t⟩ := s
  unfold Sp.v
  have hlt := World.block_lt_of_cell? _ _ hc
  cases h1 : a == x with
  | true =>
    have E : isP x 1 ⟨a, k, t⟩ = (k == 1) := by simp [isP, h1]
    rw [E]
    go_enter Try.func41, Try.ntmps41
    go_wp2
    go_ret
    exact ⟨rfl, balloc (Below.refl _ _) _⟩
  | false =>
    have E : isP x 1 ⟨a, k, t⟩ = false := by simp [isP, h1]
    rw [E]
    go_enter Try.func41, Try.ntmps41
    go_wp2
    go_ret
    exact ⟨rfl, balloc (Below.refl _ _) _⟩

theorem clo37 (s : Sp) (x k' t' : Int) (g : Nat) (w : World) (hc : w.cell? ⟨g, 0, none⟩ = some (.int .u64 x)) : Calls Try.prog 37 #[s.v, .pointer (some ⟨g, 0, none⟩)] w (Ret (.bool (decide (x < s.a))) w) := by
  obtain ⟨a, k, t⟩ := s
  unfold Sp.v
  have hlt : g < w.heap.size := World.block_lt_of_cell? _ _ hc
  go_enter Try.func37, Try.ntmps37
  go_wp2
  go_ret
  exact ⟨rfl, balloc (Below.refl _ _) _⟩

theorem clo26 (s : Sp) (x : Int) (c : Addr) (w : World) (hc : w.cell? c = some (.int .u64 x)) : Calls Try.prog 26 #[s.v, .pointer (some c)] w (Ret (.bool (s.a != x)) w) := by
  obtain ⟨a, k, t⟩ := s
  unfold Sp.v
  have hlt := World.block_lt_of_cell? _ _ hc
  go_enter Try.func26, Try.ntmps26
  go_wp2
  go_ret
  exact ⟨rfl, balloc (Below.refl _ _) _⟩

theorem clo27 (s : Sp) (x y : Int) (c d : Addr) (w : World) (hc : w.cell? c = some (.int .u64 x)) (hd : w.cell? d = some (.int .u8 y)) :
    Calls Try.prog 27 #[s.v, .pointer (some c), .pointer (some d)] w (Ret (.bool (isP x y s)) w) := by
  obtain ⟨a, k, t⟩ := s
  unfold Sp.v
  have hlt := World.block_lt_of_cell? _ _ hc
  have hlt2 := World.block_lt_of_cell? _ _ hd
  cases h1 : a == x with
  | true =>
    have E : isP x y ⟨a, k, t⟩ = (k == y) := by simp [isP, h1]
    rw [E]
    go_enter Try.func27, Try.ntmps27
    go_wp2
    go_ret
    exact ⟨rfl, balloc (Below.refl _ _) _⟩
  | false =>
    have E : isP x y ⟨a, k, t⟩ = false := by simp [isP, h1]
    rw [E]
    go_enter Try.func27, Try.ntmps27
    go_wp2
    go_ret
    exact ⟨rfl, balloc (Below.refl _ _) _⟩
theorem clo28 (s : Sp) (x y : Int) (c d f : Addr) (w : World) (hc : w.cell? c = some (.int .u64 x)) (hd : w.cell? d = some (.int .u8 y))
    (hf : w.cell? f = some (.func (.func 27) #[] #[.pointer (some c), .pointer (some d)])) :
    Calls Try.prog 28 #[s.v, .pointer (some f)] w (Ret (.bool (!isP x y s)) w) := by
  have hlt := World.block_lt_of_cell? _ _ hc
  have hlt2 := World.block_lt_of_cell? _ _ hd
  have hlt3 := World.block_lt_of_cell? _ _ hf
  obtain ⟨a, k, t⟩ := s
  have C := Lib.hid (fun W h1 h2 => clo27 ⟨a, k, t⟩ x y c d W h1 h2)
  unfold Sp.v at C ⊢
  go_enter Try.func28, Try.ntmps28
  go_wp2_with fail
  refine (C.out _ ?_ ?_).mono ?_
  · go_simp
  · go_simp
  rintro e w' ⟨rfl, hb⟩
  go_wp2
  go_ret
  exact ⟨rfl, bthen (balloc (Below.refl _ _) _) hb⟩
theorem clo31 (s r : Sp) (w : World) : Calls Try.prog 31 #[s.v, r.v] w (Ret (.int .i64 (cmpI s.a r.a)) w) := by
  obtain ⟨a, k, t⟩ := s
  obtain ⟨a', k', t'⟩ := r
  unfold Sp.v
  go_enter Try.func31, Try.ntmps31
  go_wp2_with fail
  refine (compare_any _ _ _).mono ?_
  rintro e w' ⟨rfl, rfl⟩
  go_wp2
  go_ret
  exact ⟨rfl, balloc (balloc (Below.refl _ _) _) _⟩
end Go.Proofs.Ytiapiajldchnmaa
