/- Events, plain; how they lie. -/
import Derived.Test.YtfgeomdfgjefdaaDoorW0
import Derived.Test.YtfgeomdfgjefdaaDoorProg
namespace Go.Proofs.YtfgeomdfgjefdaaDoor
open Go.RowKit
set_option linter.unusedVariables false
set_option linter.unusedSimpArgs false

structure Ev where
  thr : Bool
  who : Int
  kind : Int
  tw : Int
  times : Int
deriving DecidableEq
def Ev.v (e : Ev) : Value := .agg #[.bool e.thr, .int .i64 e.who, .int .u8 e.kind, .int .i64 e.tw, .int .i64 e.times]
def okEv (e : Ev) : Prop := 1 ≤ e.times ∧ e.times ≤ 4096 ∧ (if e.thr = true then 0 ≤ e.who ∧ e.who < 4 ∧ e.kind = 0 ∧ e.tw = 0 else e.who = 0 ∧ (if e.kind = 2 ∨ e.kind = 3 then 0 ≤ e.tw ∧ e.tw < 4 else (e.kind = 1 ∨ e.kind = 4 ∨ e.kind = 5 ∨ e.kind = 6) ∧ e.tw = 0))
instance (e : Ev) : Decidable (okEv e) := by unfold okEv; infer_instance
set_option maxRecDepth 100000 in
set_option maxHeartbeats 8000000 in
theorem right35 (e : Ev) (w : World) : Calls Tryd.prog 35 #[e.v] w (Ret (.bool (decide (okEv e))) w) := by
  obtain ⟨thr, who, k, tw, n⟩ := e
  have HB0 : Hid (∀ o, Below w.heap.size w (w.alloc o)) := fun o => balloc (Below.refl w.heap.size w) o
  unfold Ev.v
  simp only
  go_enter Tryd.func35, Tryd.ntmps35
  go_wp2
  all_goals
    go_ret
    refine ⟨?_, HB0.out _⟩
    clear HB0
    simp_all [okEv]
    try first | rfl | omega | (split <;> omega) | (rw [Bool.eq_iff_iff]; simp; omega)
set_option maxRecDepth 100000 in
set_option maxHeartbeats 8000000 in
theorem right36 (e : Ev) (hk : 0 ≤ e.kind) (w : World) : Calls Tryd.prog 36 #[e.v] w (Ret (.bool (decide (okEv e))) w) := by
  obtain ⟨thr, who, k, tw, n⟩ := e
  have HB0 : Hid (∀ o, Below w.heap.size w (w.alloc o)) := fun o => balloc (Below.refl w.heap.size w) o
  unfold Ev.v
  simp only
  go_enter Tryd.func36, Tryd.ntmps36
  go_wp2
  all_goals
    go_ret
    refine ⟨?_, HB0.out _⟩
    clear HB0
    simp_all [okEv]
    try first | rfl | omega | (split <;> omega) | (rw [Bool.eq_iff_iff]; simp; omega)
end Go.Proofs.YtfgeomdfgjefdaaDoor
