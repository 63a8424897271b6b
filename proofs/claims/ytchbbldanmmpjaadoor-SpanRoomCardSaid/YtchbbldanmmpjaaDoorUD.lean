/- The walk of math/bits.OnesCount64. -/
import Derived.Test.YtchbbldanmmpjaaDoorT7
namespace Go.Proofs.YtchbbldanmmpjaaDoor
open Go.RowKit
set_option linter.unusedVariables false
set_option linter.unusedSimpArgs false

/-- A number that is told, and is so. -/
def RetI (P : Int → Prop) (w : World) (e : Ending) (w' : World) : Prop := ∃ n : Int, P n ∧ e = .returned (.int .i64 n) ∧ Below w.heap.size w w'
def RetIE (P : Int → Prop) (w : World) (e : Ending) (w' : World) : Prop := ∃ n : Int, P n ∧ e = .returned (.tuple #[.int .i64 n, .int .i64 0]) ∧ Below w.heap.size w w'
set_option maxRecDepth 100000 in
set_option maxHeartbeats 8000000 in
theorem ones63 (x : Int) (w : World) : Calls Tryd.prog 63 #[.int .u64 x] w (RetI (fun _ => True) w) := by
  go_enter Tryd.func63, Tryd.ntmps63
  go_wp2
  go_ret
  exact ⟨_, trivial, rfl, Below.refl _ _⟩
set_option maxRecDepth 100000 in
set_option maxHeartbeats 8000000 in
theorem ones63_1 (w : World) : Calls Tryd.prog 63 #[.int .u64 1] w (RetI (fun n => n = 1) w) := by
  go_enter Tryd.func63, Tryd.ntmps63
  go_wp2
  go_ret
  exact ⟨1, rfl, by kernel_rfl, Below.refl _ _⟩
set_option maxRecDepth 100000 in
set_option maxHeartbeats 8000000 in
theorem ones63_3 (w : World) : Calls Tryd.prog 63 #[.int .u64 3] w (RetI (fun n => n = 2) w) := by
  go_enter Tryd.func63, Tryd.ntmps63
  go_wp2
  go_ret
  exact ⟨2, rfl, by kernel_rfl, Below.refl _ _⟩
set_option maxRecDepth 100000 in
set_option maxHeartbeats 8000000 in
theorem ones63_15 (w : World) : Calls Tryd.prog 63 #[.int .u64 15] w (RetI (fun n => n = 4) w) := by
  go_enter Tryd.func63, Tryd.ntmps63
  go_wp2
  go_ret
  exact ⟨4, rfl, by kernel_rfl, Below.refl _ _⟩
set_option maxRecDepth 100000 in
set_option maxHeartbeats 8000000 in
theorem ones63_255 (w : World) : Calls Tryd.prog 63 #[.int .u64 255] w (RetI (fun n => n = 8) w) := by
  go_enter Tryd.func63, Tryd.ntmps63
  go_wp2
  go_ret
  exact ⟨8, rfl, by kernel_rfl, Below.refl _ _⟩
end Go.Proofs.YtchbbldanmmpjaaDoor
