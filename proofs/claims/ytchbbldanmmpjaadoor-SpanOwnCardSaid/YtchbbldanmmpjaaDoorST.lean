/- The walks of cmp.Compare and of the closures that compare. -/
import Derived.Test.YtchbbldanmmpjaaDoorSS
namespace Go.Proofs.YtchbbldanmmpjaaDoor
open Go.RowKit
set_option linter.unusedVariables false
set_option linter.unusedSimpArgs false

theorem nan69 (x : Int) (w : World) : Calls Tryd.prog 69 #[.int .u64 x] w (Ret (.bool false) w) := by
  go_enter Tryd.func69, Tryd.ntmps69
  go_wp2
  go_ret
  exact ⟨by simp, Below.refl _ _⟩
set_option maxRecDepth 100000 in
set_option maxHeartbeats 8000000 in
theorem cmp49 (x y : Int) (w : World) : Calls Tryd.prog 49 #[.int .u64 x, .int .u64 y] w (Ret (.int .i64 (cmpI x y)) w) := by
  have hcs : x < y ∨ (¬ x < y ∧ y < x) ∨ x = y := by omega
  rcases hcs with h | ⟨h0, h⟩ | rfl
  · have E : Hid (cmpI x y = -1) := by show _ = _; unfold cmpI; rw [if_pos h]
    go_enter Tryd.func49, Tryd.ntmps49
    go_wp2_with fail
    refine (nan69 _ _).mono ?_
    rintro e w1 ⟨rfl, hb1⟩
    have HB1 := Lib.hid hb1
    clear hb1
    go_wp2_with fail
    refine (nan69 _ _).mono ?_
    rintro e w2 ⟨rfl, hb2⟩
    have HB2 := Lib.hid (bthen HB1.out hb2)
    clear hb2
    go_wp2
    go_ret
    rw [E.out]
    exact ⟨rfl, HB2.out⟩
  · have E : Hid (cmpI x y = 1) := by show _ = _; unfold cmpI; rw [if_neg h0, if_pos h]
    go_enter Tryd.func49, Tryd.ntmps49
    go_wp2_with fail
    refine (nan69 _ _).mono ?_
    rintro e w1 ⟨rfl, hb1⟩
    have HB1 := Lib.hid hb1
    clear hb1
    go_wp2_with fail
    refine (nan69 _ _).mono ?_
    rintro e w2 ⟨rfl, hb2⟩
    have HB2 := Lib.hid (bthen HB1.out hb2)
    clear hb2
    go_wp2
    go_ret
    rw [E.out]
    exact ⟨rfl, HB2.out⟩
  · have E : Hid (cmpI x x = 0) := by show _ = _; unfold cmpI; rw [if_neg (by omega), if_neg (by omega)]
    go_enter Tryd.func49, Tryd.ntmps49
    go_wp2_with fail
    refine (nan69 _ _).mono ?_
    rintro e w1 ⟨rfl, hb1⟩
    have HB1 := Lib.hid hb1
    clear hb1
    go_wp2_with fail
    refine (nan69 _ _).mono ?_
    rintro e w2 ⟨rfl, hb2⟩
    have HB2 := Lib.hid (bthen HB1.out hb2)
    clear hb2
    go_wp2
    go_ret
    rw [E.out]
    exact ⟨rfl, HB2.out⟩
theorem nan72 (x : Int) (w : World) : Calls Tryd.prog 72 #[.int .i64 x] w (Ret (.bool false) w) := by
  go_enter Tryd.func72, Tryd.ntmps72
  go_wp2
  go_ret
  exact ⟨by simp, Below.refl _ _⟩
set_option maxRecDepth 100000 in
set_option maxHeartbeats 8000000 in
theorem cmp56 (x y : Int) (w : World) : Calls Tryd.prog 56 #[.int .i64 x, .int .i64 y] w (Ret (.int .i64 (cmpI x y)) w) := by
  have hcs : x < y ∨ (¬ x < y ∧ y < x) ∨ x = y := by omega
  rcases hcs with h | ⟨h0, h⟩ | rfl
  · have E : Hid (cmpI x y = -1) := by show _ = _; unfold cmpI; rw [if_pos h]
    go_enter Tryd.func56, Tryd.ntmps56
    go_wp2_with fail
    refine (nan72 _ _).mono ?_
    rintro e w1 ⟨rfl, hb1⟩
    have HB1 := Lib.hid hb1
    clear hb1
    go_wp2_with fail
    refine (nan72 _ _).mono ?_
    rintro e w2 ⟨rfl, hb2⟩
    have HB2 := Lib.hid (bthen HB1.out hb2)
    clear hb2
    go_wp2
    go_ret
    rw [E.out]
    exact ⟨rfl, HB2.out⟩
  · have E : Hid (cmpI x y = 1) := by show _ = _; unfold cmpI; rw [if_neg h0, if_pos h]
    go_enter Tryd.func56, Tryd.ntmps56
    go_wp2_with fail
    refine (nan72 _ _).mono ?_
    rintro e w1 ⟨rfl, hb1⟩
    have HB1 := Lib.hid hb1
    clear hb1
    go_wp2_with fail
    refine (nan72 _ _).mono ?_
    rintro e w2 ⟨rfl, hb2⟩
    have HB2 := Lib.hid (bthen HB1.out hb2)
    clear hb2
    go_wp2
    go_ret
    rw [E.out]
    exact ⟨rfl, HB2.out⟩
  · have E : Hid (cmpI x x = 0) := by show _ = _; unfold cmpI; rw [if_neg (by omega), if_neg (by omega)]
    go_enter Tryd.func56, Tryd.ntmps56
    go_wp2_with fail
    refine (nan72 _ _).mono ?_
    rintro e w1 ⟨rfl, hb1⟩
    have HB1 := Lib.hid hb1
    clear hb1
    go_wp2_with fail
    refine (nan72 _ _).mono ?_
    rintro e w2 ⟨rfl, hb2⟩
    have HB2 := Lib.hid (bthen HB1.out hb2)
    clear hb2
    go_wp2
    go_ret
    rw [E.out]
    exact ⟨rfl, HB2.out⟩
theorem findCmp (v : SpanV) (t : Int) (w : World) (h0 : 0 ≤ v.first) (h1 : v.first ≤ 1024) : Calls Tryd.prog 48 #[v.v, .int .u64 t] w (Ret (.int .i64 (cmpI (v.first * 16) t)) w) := by
  have C42 : Hid (∀ W, Calls Tryd.prog 42 #[v.v] W (Ret (.int .u64 (v.first * 16)) W)) := fun W => base42 v W h0 h1
  have C49 : Hid (∀ W, Calls Tryd.prog 49 #[.int .u64 (v.first * 16), .int .u64 t] W (Ret (.int .i64 (cmpI (v.first * 16) t)) W)) := fun W => cmp49 _ _ W
  obtain ⟨f, p, z, ⟨n, A1, m1, ca⟩, ⟨n', A2, m', cb⟩, sw⟩ := v
  unfold SpanV.v at C42 ⊢
  simp only at C42 C49 h0 h1 ⊢
  have HB0 : Hid (Below w.heap.size w (w.alloc (.cells #[.int .i64 f, .int .i64 p, .int .i64 z, .int .i64 n, .slice A1 m1 ca, .int .i64 n', .slice A2 m' cb, .bool sw] 26))) := balloc (Below.refl _ _) _
  go_enter Tryd.func48, Tryd.ntmps48
  go_wp2_with fail
  refine (C42.out _).mono ?_
  rintro e w1 ⟨rfl, hb1⟩
  have HB1 := Lib.hid (bthen HB0.out hb1)
  clear hb1
  go_wp2_with fail
  refine (C49.out _).mono ?_
  rintro e w2 ⟨rfl, hb2⟩
  have HB2 := Lib.hid (bthen HB1.out hb2)
  clear hb2
  go_wp2
  go_ret
  exact ⟨rfl, HB2.out⟩
theorem addCmp (v : SpanV) (t : Int) (w : World) : Calls Tryd.prog 55 #[v.v, .int .i64 t] w (Ret (.int .i64 (cmpI v.first t)) w) := by
  have C56 : Hid (∀ W, Calls Tryd.prog 56 #[.int .i64 v.first, .int .i64 t] W (Ret (.int .i64 (cmpI v.first t)) W)) := fun W => cmp56 _ _ W
  obtain ⟨f, p, z, ⟨n, A1, m1, ca⟩, ⟨n', A2, m', cb⟩, sw⟩ := v
  unfold SpanV.v
  simp only at C56 ⊢
  have HB0 : Hid (Below w.heap.size w (w.alloc (.cells #[.int .i64 f, .int .i64 p, .int .i64 z, .int .i64 n, .slice A1 m1 ca, .int .i64 n', .slice A2 m' cb, .bool sw] 26))) := balloc (Below.refl _ _) _
  go_enter Tryd.func55, Tryd.ntmps55
  go_wp2_with fail
  refine (C56.out _).mono ?_
  rintro e w1 ⟨rfl, hb1⟩
  have HB1 := Lib.hid (bthen HB0.out hb1)
  clear hb1
  go_wp2
  go_ret
  exact ⟨rfl, HB1.out⟩
theorem enters48 : Enters 48 := fun args w => by kernel_rfl
end Go.Proofs.YtchbbldanmmpjaaDoor
