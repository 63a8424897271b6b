/- The walks of what is told of a span's numbers alone. -/
import Derived.Test.YtchbbldanmmpjaaDoorS4
namespace Go.Proofs.YtchbbldanmmpjaaDoor
open Go.RowKit
set_option linter.unusedVariables false
set_option linter.unusedSimpArgs false

def shapedP (p z : Int) : Bool := if z = 0 then decide (2 ≤ p) && decide (p ≤ 4) else if z = 2 ∨ z = 4 ∨ z = 8 ∨ z = 16 then p == 1 else false
def manyP (z : Int) : Int := if z = 0 then 1 else wrap64 ((16 : Int).tdiv z)
theorem shaped34 (p z : Int) (w : World) : Calls Tryd.prog 34 #[.int .i64 p, .int .i64 z] w (Ret (.bool (shapedP p z)) w) := by
  have hcs : z = 0 ∨ z = 2 ∨ z = 4 ∨ z = 8 ∨ z = 16 ∨ (z ≠ 0 ∧ z ≠ 2 ∧ z ≠ 4 ∧ z ≠ 8 ∧ z ≠ 16) := by omega
  rcases hcs with rfl | rfl | rfl | rfl | rfl | ⟨h0, h2, h4, h8, h16⟩
  · by_cases h : 2 ≤ p
    · by_cases h' : p ≤ 4
      · have E : Hid (shapedP p 0 = true) := by show _ = _; simp [shapedP, h, h']
        go_enter Tryd.func34, Tryd.ntmps34
        go_wp2
        go_ret
        rw [E.out]
        exact ⟨rfl, Below.refl _ _⟩
      · have E : Hid (shapedP p 0 = false) := by show _ = _; simp [shapedP, h, h']
        have q : 4 < p := by omega
        go_enter Tryd.func34, Tryd.ntmps34
        go_wp2
        go_ret
        rw [E.out]
        exact ⟨rfl, Below.refl _ _⟩
    · have E : Hid (shapedP p 0 = false) := by show _ = _; simp [shapedP, h]
      have q : p < 2 := by omega
      go_enter Tryd.func34, Tryd.ntmps34
      go_wp2
      go_ret
      rw [E.out]
      exact ⟨rfl, Below.refl _ _⟩
  · have E : Hid (shapedP p 2 = (p == 1)) := by show _ = _; simp [shapedP]
    go_enter Tryd.func34, Tryd.ntmps34
    go_wp2
    go_ret
    rw [E.out]
    exact ⟨rfl, Below.refl _ _⟩
  · have E : Hid (shapedP p 4 = (p == 1)) := by show _ = _; simp [shapedP]
    go_enter Tryd.func34, Tryd.ntmps34
    go_wp2
    go_ret
    rw [E.out]
    exact ⟨rfl, Below.refl _ _⟩
  · have E : Hid (shapedP p 8 = (p == 1)) := by show _ = _; simp [shapedP]
    go_enter Tryd.func34, Tryd.ntmps34
    go_wp2
    go_ret
    rw [E.out]
    exact ⟨rfl, Below.refl _ _⟩
  · have E : Hid (shapedP p 16 = (p == 1)) := by show _ = _; simp [shapedP]
    go_enter Tryd.func34, Tryd.ntmps34
    go_wp2
    go_ret
    rw [E.out]
    exact ⟨rfl, Below.refl _ _⟩
  · have E : Hid (shapedP p z = false) := by show _ = _; simp [shapedP, h0, h2, h4, h8, h16]
    have e0 : (z == 0) = false := by simpa using h0
    have e2 : (z == 2) = false := by simpa using h2
    have e4 : (z == 4) = false := by simpa using h4
    have e8 : (z == 8) = false := by simpa using h8
    have e16 : (z == 16) = false := by simpa using h16
    clear h0 h2 h4 h8 h16
    go_enter Tryd.func34, Tryd.ntmps34
    go_wp2
    go_ret
    rw [E.out]
    exact ⟨rfl, Below.refl _ _⟩
theorem slots36 (z : Int) (w : World) : Calls Tryd.prog 36 #[.int .i64 z] w (Ret (.int .i64 (manyP z)) w) := by
  by_cases h0 : z = 0
  · subst h0
    go_enter Tryd.func36, Tryd.ntmps36
    go_wp2
    go_ret
    exact ⟨rfl, Below.refl _ _⟩
  · have E : Hid (manyP z = wrap64 ((16 : Int).tdiv z)) := by show _ = _; simp [manyP, h0]
    have e0 : (z == 0) = false := by simpa using h0
    go_enter Tryd.func36, Tryd.ntmps36
    go_wp2
    go_ret
    rw [E.out]
    exact ⟨rfl, Below.refl _ _⟩
theorem many39 (z : Int) (w : World) : Calls Tryd.prog 39 #[.int .i64 z] w (Ret (.int .i64 (manyP z)) w) := by
  by_cases h0 : z = 0
  · subst h0
    go_enter Tryd.func39, Tryd.ntmps39
    go_wp2
    go_ret
    exact ⟨rfl, Below.refl _ _⟩
  · have E : Hid (manyP z = wrap64 ((16 : Int).tdiv z)) := by show _ = _; simp [manyP, h0]
    have e0 : (z == 0) = false := by simpa using h0
    go_enter Tryd.func39, Tryd.ntmps39
    go_wp2
    go_ret
    rw [E.out]
    exact ⟨rfl, Below.refl _ _⟩
theorem end46 (s : SpanV) (w : World) : Calls Tryd.prog 46 #[s.v] w (Ret (.int .i64 (wrap64 (s.first + s.pages))) w) := by
  unfold SpanV.v
  go_enter Tryd.func46, Tryd.ntmps46
  go_wp2
  go_ret
  exact ⟨rfl, balloc (Below.refl _ _) _⟩
end Go.Proofs.YtchbbldanmmpjaaDoor
