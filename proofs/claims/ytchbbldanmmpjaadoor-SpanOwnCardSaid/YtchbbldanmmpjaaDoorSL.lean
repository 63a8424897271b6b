/- The walks of Base, At, Slots and Addr. -/
import Derived.Test.YtchbbldanmmpjaaDoorSK
namespace Go.Proofs.YtchbbldanmmpjaaDoor
open Go.RowKit
set_option linter.unusedVariables false
set_option linter.unusedSimpArgs false

theorem base42 (v : SpanV) (w : World) (h0 : 0 ≤ v.first) (h1 : v.first ≤ 1024) : Calls Tryd.prog 42 #[v.v] w (Ret (.int .u64 (v.first * 16)) w) := by
  unfold SpanV.v
  generalize v.first = f at *
  go_enter Tryd.func42, Tryd.ntmps42
  go_wp2
  go_ret
  exact ⟨rfl, balloc (Below.refl _ _) _⟩
theorem at43 (v : SpanV) (k : Nat) (w : World) (h0 : 0 ≤ v.first) (h1 : v.first ≤ 1024) (hk : k ≤ 16) (z0 : 0 ≤ v.size) (z1 : v.size ≤ 16) (hm : (k : Int) * v.size ≤ 16) : Calls Tryd.prog 43 #[v.v, .int .i64 k] w (Ret (.int .u64 (v.first * 16 + (k : Int) * v.size)) w) := by
  have hm0 : 0 ≤ (k : Int) * v.size := Int.mul_nonneg (by omega) z0
  unfold SpanV.v
  generalize v.first = f at *
  generalize v.size = z at *
  go_enter Tryd.func43, Tryd.ntmps43
  go_wp2
  go_ret
  exact ⟨rfl, balloc (Below.refl _ _) _⟩

def rightE (s : SpanB) : Int := if rightP s then 0 else 2
def slotsN (s : SpanB) : Int := if rightP s then manyP s.size else 0
def addrE (s : SpanB) (k : Int) : Int := if rightP s then (if 0 ≤ k ∧ k < manyP s.size then 0 else 1) else 2
def addrN (s : SpanB) (k : Int) : Int := if rightP s then (if 0 ≤ k ∧ k < manyP s.size then s.first * 16 + k * s.size else 0) else 0

set_option maxRecDepth 100000 in
set_option maxHeartbeats 8000000 in
theorem slots13 (v : SpanV) (s : SpanB) (w : World) (h : RdN w v s) : Calls Tryd.prog 13 #[v.v] w (Ret (.tuple #[.int .i64 (slotsN s), .int .i64 (rightE s)]) w) := by
  have CR : Hid (∀ W, Below w.heap.size w W → Calls Tryd.prog 38 #[v.v] W (Ret (.bool (rightP s)) W)) := fun W hW => right38 v s W (h.below hW)
  have CM : Hid (∀ W, Calls Tryd.prog 36 #[.int .i64 v.size] W (Ret (.int .i64 (manyP v.size)) W)) := fun W => slots36 _ W
  rw [h.size] at CM
  have hz := h.size
  obtain ⟨f, p, z, ⟨n, A1, m, ca⟩, ⟨n', A2, m', cb⟩, sw⟩ := v
  simp only at hz
  subst hz
  unfold SpanV.v at CR ⊢
  simp only at CR ⊢
  clear h
  have HB0 : Hid (Below w.heap.size w (w.alloc (.cells #[.int .i64 f, .int .i64 p, .int .i64 s.size, .int .i64 n, .slice A1 m ca, .int .i64 n', .slice A2 m' cb, .bool sw] 26))) := balloc (Below.refl _ _) _
  by_cases hr : rightP s = true
  · have E1 : Hid (slotsN s = manyP s.size) := by show _ = _; simp [slotsN, hr]
    have E2 : Hid (rightE s = 0) := by show _ = _; simp [rightE, hr]
    rw [hr] at CR
    clear hr
    go_enter Tryd.func13, Tryd.ntmps13
    go_wp2_with (go_at_call 38; refine (CR.out _ HB0.out).mono ?_)
    rintro e w1 ⟨rfl, hb1⟩
    obtain ⟨hc1, hf1, hs1⟩ := bcellB (B := w.heap.size + 1) hb1 (by simp)
    have HB1 := Lib.hid (bthen HB0.out hb1)
    clear hb1
    go_wp2_with (go_at_call 36; refine (CM.out _).mono ?_)
    rintro e w2 ⟨rfl, hb2⟩
    have HB2 := Lib.hid (bthen HB1.out hb2)
    clear hb2
    go_wp2
    go_ret2
    rw [E1.out, E2.out]
    exact ⟨rfl, HB2.out⟩
  · have E1 : Hid (slotsN s = 0) := by show _ = _; simp [slotsN, hr]
    have E2 : Hid (rightE s = 2) := by show _ = _; simp [rightE, hr]
    rw [show rightP s = false from by simpa using hr] at CR
    clear hr
    go_enter Tryd.func13, Tryd.ntmps13
    go_wp2_with (go_at_call 38; refine (CR.out _ HB0.out).mono ?_)
    rintro e w1 ⟨rfl, hb1⟩
    have HB1 := Lib.hid (bthen HB0.out hb1)
    clear hb1
    go_wp2
    go_ret2
    rw [E1.out, E2.out]
    exact ⟨rfl, HB1.out⟩
set_option maxRecDepth 100000 in
set_option maxHeartbeats 8000000 in
theorem slots14 (v : SpanV) (s : SpanB) (w : World) (h : RdN w v s) : Calls Tryd.prog 14 #[v.v] w (Ret (.tuple #[.int .i64 (slotsN s), .int .i64 (rightE s)]) w) := by
  have CR : Hid (∀ W, Below w.heap.size w W → Calls Tryd.prog 41 #[v.v] W (Ret (.bool (rightP s)) W)) := fun W hW => right41' v s W (h.below hW)
  have CM : Hid (∀ W, Calls Tryd.prog 39 #[.int .i64 v.size] W (Ret (.int .i64 (manyP v.size)) W)) := fun W => many39 _ W
  rw [h.size] at CM
  have hz := h.size
  obtain ⟨f, p, z, ⟨n, A1, m, ca⟩, ⟨n', A2, m', cb⟩, sw⟩ := v
  simp only at hz
  subst hz
  unfold SpanV.v at CR ⊢
  simp only at CR ⊢
  clear h
  have HB0 : Hid (Below w.heap.size w (w.alloc (.cells #[.int .i64 f, .int .i64 p, .int .i64 s.size, .int .i64 n, .slice A1 m ca, .int .i64 n', .slice A2 m' cb, .bool sw] 26))) := balloc (Below.refl _ _) _
  by_cases hr : rightP s = true
  · have E1 : Hid (slotsN s = manyP s.size) := by show _ = _; simp [slotsN, hr]
    have E2 : Hid (rightE s = 0) := by show _ = _; simp [rightE, hr]
    rw [hr] at CR
    clear hr
    go_enter Tryd.func14, Tryd.ntmps14
    go_wp2_with (go_at_call 41; refine (CR.out _ HB0.out).mono ?_)
    rintro e w1 ⟨rfl, hb1⟩
    obtain ⟨hc1, hf1, hs1⟩ := bcellB (B := w.heap.size + 1) hb1 (by simp)
    have HB1 := Lib.hid (bthen HB0.out hb1)
    clear hb1
    go_wp2_with (go_at_call 39; refine (CM.out _).mono ?_)
    rintro e w2 ⟨rfl, hb2⟩
    have HB2 := Lib.hid (bthen HB1.out hb2)
    clear hb2
    go_wp2
    go_ret2
    rw [E1.out, E2.out]
    exact ⟨rfl, HB2.out⟩
  · have E1 : Hid (slotsN s = 0) := by show _ = _; simp [slotsN, hr]
    have E2 : Hid (rightE s = 2) := by show _ = _; simp [rightE, hr]
    rw [show rightP s = false from by simpa using hr] at CR
    clear hr
    go_enter Tryd.func14, Tryd.ntmps14
    go_wp2_with (go_at_call 41; refine (CR.out _ HB0.out).mono ?_)
    rintro e w1 ⟨rfl, hb1⟩
    have HB1 := Lib.hid (bthen HB0.out hb1)
    clear hb1
    go_wp2
    go_ret2
    rw [E1.out, E2.out]
    exact ⟨rfl, HB1.out⟩
end Go.Proofs.YtchbbldanmmpjaaDoor
