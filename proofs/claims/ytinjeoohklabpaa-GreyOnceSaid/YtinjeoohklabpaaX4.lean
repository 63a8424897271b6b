/- The walk of reverseRangeOrdered. -/
import Derived.Test.YtinjeoohklabpaaX3
namespace Go.Proofs.Ytinjeoohklabpaa
open Go.RowKit Go.Sort
set_option linter.unusedVariables false
set_option linter.unusedSimpArgs false

set_option maxRecDepth 100000 in
set_option maxHeartbeats 8000000 in
theorem rev_u64 (g cap a b : Nat) (d : Array Int) (w : World) (hH : HU w g d) (hab : a < b) (hb : b ≤ d.size) (hsz : d.size ≤ 1000000) :
    Calls Try.prog 46 #[.slice (some ⟨g, 0, none⟩) d.size cap, .int .i64 a, .int .i64 b] w (Srt (fun d' => PermIn a b d d') (.tuple #[]) g w) := by
  have HH := Lib.hid hH
  clear hH
  obtain ⟨b1, hb1⟩ : ∃ b1, b1 = b - 1 := ⟨_, rfl⟩
  have hn1 : (b : Int) - 1 = (b1 : Int) := by omega
  have hbb : 1 ≤ (b : Int) := by omega
  have hbc : b ≤ 1000000 := by omega
  have HB : Hid (b1 < b) := by show _ < _; omega
  clear hb1
  go_enter Try.func46, Try.ntmps46
  go_wp2
  go_loopw [6, 7] (fun vi vj wr => ∃ (i j : Nat) (dk : Array Int), vi = .int .i64 i ∧ vj = .int .i64 j ∧ a ≤ i ∧ j < b ∧ i ≤ 1000000 ∧ Hid (PermIn a b d dk) ∧ Hid (HU wr g dk) ∧ Hid (w.grownBy wr (some g))) (fun vi vj _ => ((intOf vj) + 1 - (intOf vi)).toNat)
  case atStart => exact ⟨a, b1, d, rfl, rfl, Nat.le_refl _, HB.out, by omega, permIn_refl _ _ _, HH.out, World.grownBy.refl w _⟩
  case round =>
    obtain ⟨i, j, dk, rfl, rfl, hai, hjb, hi, HP, HHk, HGk⟩ := hrel
    by_cases hij : i < j
    · obtain ⟨G, hG, hcw, hfw⟩ := HHk.out.fam HP.out.1
      have HG := Lib.hid hG
      clear hG
      have hne : i ≠ j := by omega
      have hid : i < d.size := by omega
      have hjd : j < d.size := by omega
      have hid1 : (i : Int) < (d.size : Int) := by omega
      have hjd1 : (j : Int) < (d.size : Int) := by omega
      have hj1 : 1 ≤ (j : Int) := by omega
      go_wp2
      go_region
      all_goals go_wp2
      go_roundw
      case rel =>
        refine ⟨i + 1, j - 1, swp dk i j, by go_num, by congr 1; omega, by omega, by omega, by omega, permIn_trans _ _ _ _ _ HP.out (swp_permIn dk a b i j hai (by omega) (by omega) hjb (by rw [HP.out.1]; exact hb)), ?_, gswp HGk.out _ _ _ _ _⟩
        have e1 := HG.out i
        have e2 := HG.out j
        rw [e1, e2]
        exact HHk.out.swp (by rw [HP.out.1]; omega) (by rw [HP.out.1]; omega) _
      case measure => simp [intOf]; omega
    · go_wp2
      go_end0
      exact ⟨dk, HP.out, rfl, HHk.out, HGk.out⟩
end Go.Proofs.Ytinjeoohklabpaa
