/- The walk of insertionSortOrdered. -/
import Derived.Test.YtinjeoohklabpaaX0
namespace Go.Proofs.Ytinjeoohklabpaa
open Go.RowKit Go.Sort
set_option linter.unusedVariables false
set_option linter.unusedSimpArgs false

theorem inner_go (a j : Nat) (d : Array Int) (hj : a < j) (hl : ltInt d[j]! d[j - 1]! = true) : insInner ltInt a j d = insInner ltInt a (j - 1) (swp d j (j - 1)) := by
  obtain ⟨k, rfl⟩ : ∃ k, j = k + 1 := ⟨j - 1, by omega⟩
  rw [insInner]
  simp only [Nat.add_sub_cancel] at hl ⊢
  simp [hj, hl]
theorem inner_stop (a j : Nat) (d : Array Int) (h : j ≤ a ∨ ltInt d[j]! d[j - 1]! = false) : insInner ltInt a j d = d := by
  cases j with
  | zero => rw [insInner]
  | succ k =>
    rw [insInner]
    simp only [Nat.add_sub_cancel] at h
    rcases h with h | h
    · simp [show ¬ k + 1 > a by omega]
    · simp [h]

set_option maxHeartbeats 4000000 in
theorem ins_u64 (g cap a b : Nat) (d : Array Int) (w : World) (hH : HU w g d) (hab : a ≤ b) (hb : b ≤ d.size) (hsz : d.size ≤ 1000000) :
    Calls Try.prog 42 #[.slice (some ⟨g, 0, none⟩) d.size cap, .int .i64 a, .int .i64 b] w (Srt (fun d' => d'.size = d.size ∧ d' = insertionSort ltInt d a b) (.tuple #[]) g w) := by
  have HH := Lib.hid hH
  clear hH
  go_enter Try.func42, Try.ntmps42
  go_wp2
  go_loopw [6] (fun vi wr => ∃ (i : Nat) (dk : Array Int), vi = .int .i64 i ∧ a < i ∧ i ≤ b + 1 ∧ Hid (dk.size = d.size) ∧ Hid (HU wr g dk) ∧ Hid (w.grownBy wr (some g)) ∧ Hid (insOuter ltInt a b i dk = insertionSort ltInt d a b)) (fun vi _ => b + 1 - (intOf vi).toNat)
  case atStart => exact ⟨a + 1, d, by go_num, by omega, by omega, Eq.refl d.size, HH.out, World.grownBy.refl w _, Eq.refl (insertionSort ltInt d a b)⟩
  case round =>
    obtain ⟨i, dk, rfl, hai, hib, HSK, HHk, HGk, HO⟩ := hrel
    by_cases hlt : i < b
    · go_wp2
      go_loopw [7] (fun vj wr2 => ∃ (j : Nat) (dj : Array Int), vj = .int .i64 j ∧ a ≤ j ∧ j ≤ i ∧ Hid (dj.size = d.size) ∧ Hid (HU wr2 g dj) ∧ Hid (w.grownBy wr2 (some g)) ∧ Hid (insInner ltInt a j dj = insInner ltInt a i dk)) (fun vj _ => (intOf vj).toNat)
      case atStart => exact ⟨i, dk, rfl, by omega, Nat.le_refl _, HSK.out, HHk.out, HGk.out, Eq.refl (insInner ltInt a i dk)⟩
      case round =>
        obtain ⟨j, dj, rfl, haj, hji, HSJ, HHj, HGj, HI⟩ := hrel
        obtain ⟨G, hG, hcw, hfw⟩ := HHj.out.fam HSJ.out
        have HG := Lib.hid hG
        clear hG
        have OUT : Hid ((j ≤ a ∨ ltInt dj[j]! dj[j - 1]! = false) → insOuter ltInt a b (i + 1) dj = insertionSort ltInt d a b) := fun hs => by
          have e := HO.out
          rw [insOuter, if_pos hlt, ← HI.out, inner_stop _ _ _ hs] at e
          exact e
        go_wp2
        have hjd : j < d.size := by omega
        have hjd1 : (j : Int) < (d.size : Int) := by omega
        by_cases hja : a < j
        · have hd1 : decide ((a : Int) < (j : Int)) = true := decide_eq_true (by omega)
          have hd2 : decide (a < j) = true := decide_eq_true hja
          have hj0 : j - 1 < d.size := by omega
          have hj1 : (j : Int) - 1 < (d.size : Int) := by omega
          have hj2 : 0 ≤ (j : Int) - 1 := by omega
          have hj3 : ((j : Int) - 1).toNat = j - 1 := by omega
          have hj4 : 1 ≤ (j : Int) := by omega
          have hj5 := wrap_i64 (x := (j : Int) - 1) (by omega)
          go_quiet (first | (go_at_call 48; refine Calls.quiet_of_same (less_u64 _ _ _)))
          go_wp2
          · have hl : ltInt (G j) (G (j - 1)) = true := by assumption
            go_region
            all_goals go_wp2
            go_roundw
            case rel =>
              refine ⟨j - 1, swp dj j (j - 1), by congr 1; omega, by omega, by omega, (by show _ = _; rw [size_swp]; exact HSJ.out), ?_, ?_, ?_⟩
              · have e1 := HG.out j
                have e2 := HG.out (j - 1)
                rw [e1, e2]
                exact HHj.out.swp (by rw [HSJ.out]; omega) (by rw [HSJ.out]; omega) _
              · exact gswp HGj.out _ _ _ _ _
              · show _ = _
                rw [← HI.out, inner_go a j dj hja (by rw [← HG.out, ← HG.out]; exact hl)]
            case measure => simp [intOf]; omega
          · have hl : ltInt (G j) (G (j - 1)) = false := by assumption
            go_roundw
            case rel => exact ⟨i + 1, dj, by go_num, by omega, by omega, HSJ.out, HHj.out.drewN _, gdrewN HGj.out _, OUT.out (.inr (by rw [← HG.out, ← HG.out]; exact hl))⟩
            case measure => simp [intOf]; omega
        · have hd1 : decide ((a : Int) < (j : Int)) = false := decide_eq_false (by omega)
          have hd2 : decide (a < j) = false := decide_eq_false hja
          go_quiet (first | (go_at_call 48; refine Calls.quiet_of_same (less_u64 _ _ _)))
          go_wp2
          go_roundw
          case rel => exact ⟨i + 1, dj, by go_num, by omega, by omega, HSJ.out, HHj.out.drewN _, gdrewN HGj.out _, OUT.out (.inl (by omega))⟩
          case measure => simp [intOf]; omega
    · go_wp2
      go_end0
      exact ⟨dk, ⟨HSK.out, by rw [← HO.out, insOuter, if_neg hlt]⟩, rfl, HHk.out, HGk.out⟩
end Go.Proofs.Ytinjeoohklabpaa
