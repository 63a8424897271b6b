/- The walk of partialInsertionSortOrdered. -/
import Derived.Test.YtinjeoohklabpaaX8
namespace Go.Proofs.Ytinjeoohklabpaa
open Go.RowKit Go.Sort
set_option linter.unusedVariables false
set_option linter.unusedSimpArgs false

theorem scan_go {d : Array Int} {b i : Nat} (h : i < b) (hl : ltInt d[i]! d[i - 1]! = false) : scanSorted ltInt d b i = scanSorted ltInt d b (i + 1) := by rw [scanSorted, if_pos (by simp [h, hl])]
theorem scan_stop {d : Array Int} {b i : Nat} (h : ¬ i < b ∨ ltInt d[i]! d[i - 1]! = true) : scanSorted ltInt d b i = i := by
  rw [scanSorted]
  rcases h with h | h <;> simp [h]
theorem down_go {d : Array Int} {j : Nat} (hl : ltInt d[j + 1]! d[j]! = true) : shiftDown ltInt (j + 1) d = shiftDown ltInt j (swp d (j + 1) j) := by rw [shiftDown]; simp [hl]
theorem down_stop {d : Array Int} {j : Nat} (hl : ltInt d[j + 1]! d[j]! = false) : shiftDown ltInt (j + 1) d = d := by rw [shiftDown]; simp [hl]
theorem up_go {d : Array Int} {b j : Nat} (h : j < b) (hl : ltInt d[j]! d[j - 1]! = true) : shiftUp ltInt b j d = shiftUp ltInt b (j + 1) (swp d j (j - 1)) := by rw [shiftUp, if_pos h]; simp [hl]
theorem up_stop {d : Array Int} {b j : Nat} (h : ¬ j < b ∨ ltInt d[j]! d[j - 1]! = false) : shiftUp ltInt b j d = d := by
  rw [shiftUp]
  rcases h with h | h <;> simp [h]
def downK (a i : Nat) (d : Array Int) : Array Int := if i - a ≥ 2 then shiftDown ltInt (i - 1) d else d
def upK (b i : Nat) (d : Array Int) : Array Int := if b - i ≥ 2 then shiftUp ltInt b (i + 1) d else d
theorem ins_true {a b s i : Nat} {d : Array Int} (h : scanSorted ltInt d b i = b) : partialIns ltInt a b (s + 1) i d = (d, true) := by rw [partialIns]; simp [h]
theorem ins_false {a b s i i' : Nat} {d : Array Int} (h : scanSorted ltInt d b i = i') (hi : i' ≠ b) (h50 : b - a < 50) : partialIns ltInt a b (s + 1) i d = (d, false) := by rw [partialIns]; simp [h, hi, h50]
theorem ins_step {a b s i i' : Nat} {d : Array Int} (h : scanSorted ltInt d b i = i') (hi : i' ≠ b) (h50 : ¬ b - a < 50) : partialIns ltInt a b (s + 1) i d = partialIns ltInt a b s i' (upK b i' (downK a i' (swp d i' (i' - 1)))) := by
  rw [partialIns]
  simp only [h, hi, h50, if_false]
  rfl
def PIns (d : Array Int) (a b g : Nat) (w : World) (e : Ending) (w' : World) : Prop := ∃ d', d'.size = d.size ∧ d' = (partialInsertionSort ltInt d a b).1 ∧ e = .returned (.bool (partialInsertionSort ltInt d a b).2) ∧ HU w' g d' ∧ w.grownBy w' (some g)
/-- What the middle of a round leaves. -/
def CutP (a i g n : Nat) (d1 : Array Int) (w : World) (wx : World) : Prop := ∃ dj, dj = downK a i d1 ∧ dj.size = n ∧ HU wx g dj ∧ w.grownBy wx (some g)
set_option maxRecDepth 100000 in
set_option maxHeartbeats 16000000 in
theorem pins_u64 (g cap a b : Nat) (d : Array Int) (w : World) (hH : HU w g d) (hab : a + 12 < b) (hb : b ≤ d.size) (hsz : d.size ≤ 1000000) :
    Calls Try.prog 47 #[.slice (some ⟨g, 0, none⟩) d.size cap, .int .i64 a, .int .i64 b] w (PIns d a b g w) := by
  have HH := Lib.hid hH
  clear hH
  have g1 : a ≤ 1000000 := by omega
  have g2 : b ≤ 1000000 := by omega
  go_enter Try.func47, Try.ntmps47
  go_wp2
  go_loopw [7, 8] (fun vi vs wr => ∃ (i s : Nat) (dk : Array Int), vi = .int .i64 i ∧ vs = .int .i64 s ∧ s ≤ 5 ∧ a < i ∧ i ≤ b ∧ Hid (dk.size = d.size) ∧ Hid (HU wr g dk) ∧ Hid (w.grownBy wr (some g)) ∧ Hid (partialIns ltInt a b (5 - s) i dk = partialInsertionSort ltInt d a b)) (fun vi vs _ => 5 - (intOf vs).toNat)
  case atStart => exact ⟨a + 1, 0, d, by go_num, rfl, by omega, by omega, by omega, Eq.refl d.size, HH.out, World.grownBy.refl w _, Eq.refl (partialInsertionSort ltInt d a b)⟩
  case round =>
    obtain ⟨i, s, dk, rfl, rfl, hs, hai, hib, HSK, HHk, HGk, HO⟩ := hrel
    by_cases hs5 : s < 5
    · have HO1 : Hid (partialIns ltInt a b (5 - (s + 1) + 1) i dk = partialInsertionSort ltInt d a b) := by show _ = _; rw [show 5 - (s + 1) + 1 = 5 - s from by omega]; exact HO.out
      obtain ⟨G, hG, hcw, hfw⟩ := HHk.out.fam HSK.out
      have HG := Lib.hid hG
      clear hG HO
      go_wp2
      clear hcw hfw
      go_loopw [7] (fun vi wr2 => ∃ j : Nat, vi = .int .i64 j ∧ a < j ∧ j ≤ b ∧ Hid (HU wr2 g dk) ∧ Hid (w.grownBy wr2 (some g)) ∧ Hid (scanSorted ltInt dk b j = scanSorted ltInt dk b i)) (fun vi _ => b - (intOf vi).toNat)
      case atStart => exact ⟨i, rfl, hai, hib, HHk.out, HGk.out, Eq.refl (scanSorted ltInt dk b i)⟩
      case round =>
        obtain ⟨j, rfl, haj, hjb, HHj, HGj, HSc⟩ := hrel
        obtain ⟨G, hG, hcw, hfw⟩ := HHj.out.fam HSK.out
        have HG := Lib.hid hG
        clear hG
        by_cases hj : j < b
        · have hjd : j < d.size := by omega
          have hjd1 : (j : Int) < (d.size : Int) := by omega
          have hj0 : j - 1 < d.size := by omega
          have hj1 : (j : Int) - 1 < (d.size : Int) := by omega
          have hj2 : 0 ≤ (j : Int) - 1 := by omega
          have hj3 : ((j : Int) - 1).toNat = j - 1 := by omega
          have hj4 : 1 ≤ (j : Int) := by omega
          have hj5 := wrap_i64 (x := (j : Int) - 1) (by omega)
          have hd1 : decide ((j : Int) < (b : Int)) = true := decide_eq_true (by omega)
          have hd2 : decide (j < b) = true := decide_eq_true hj
          cases hl : ltInt (G j) (G (j - 1))
          · have HL : Hid (ltInt dk[j]! dk[j - 1]! = false) := by show _ = _; rw [← HG.out, ← HG.out]; exact hl
            go_wp2
            go_quiet (first | (go_at_call 48; refine Calls.quiet_of_same (less_u64 _ _ _)))
            clear hd1 hd2 hj5
            go_wp2
            clear hl
            go_roundw
            case rel => exact ⟨j + 1, by go_num, by omega, by omega, HHj.out.drewN _, gdrewN HGj.out _, (by show _ = _; rw [← HSc.out, scan_go hj HL.out])⟩
            case measure => simp [intOf]; omega
          · have HL : Hid (scanSorted ltInt dk b i = j) := by show _ = _; rw [← HSc.out]; exact scan_stop (.inr (by rw [← HG.out, ← HG.out]; exact hl))
            go_wp2
            go_quiet (first | (go_at_call 48; refine Calls.quiet_of_same (less_u64 _ _ _)))
            clear hd1 hd2 hj5
            have hjne : j ≠ b := by omega
            have hjn1 : ((j : Int) == (b : Int)) = false := by rw [beq_eq_false_iff_ne]; omega
            have hjn2 : (j == b) = false := by rw [beq_eq_false_iff_ne]; omega
            obtain ⟨l, hl1⟩ : ∃ l, l = b - a := ⟨_, rfl⟩
            have el : (b : Int) - (a : Int) = (l : Int) := by omega
            have gl : l ≤ 1000000 := by omega
            have HLL : Hid (l = b - a) := hl1
            clear hl1
            by_cases h50 : l < 50
            · have E : Hid ((dk, false) = partialInsertionSort ltInt d a b) := by show _ = _; rw [← HO1.out, ins_false HL.out hjne (by have := HLL.out; omega)]
              clear hl
              go_wp2
              go_ret
              exact ⟨dk, HSK.out, by rw [← E.out], by rw [← E.out]; rfl, by first | exact HHj.out.drewN _ | exact HHj.out, by first | exact gdrewN HGj.out _ | exact HGj.out⟩
            · have E : Hid (partialIns ltInt a b (5 - (s + 1)) j (upK b j (downK a j (swp dk j (j - 1)))) = partialInsertionSort ltInt d a b) := by show _ = _; rw [← HO1.out, ins_step HL.out hjne (by have := HLL.out; omega)]
              have hj5 := wrap_i64 (x := (j : Int) - 1) (by omega)
              go_upto_region 11 with fail
              go_cut [7] (fun v wx => v = .int .i64 j ∧ HU wx g (swp dk j (j - 1)) ∧ w.grownBy wx (some g))
              case first =>
                go_region
                all_goals
                  go_wp2_with fail
                  go_meet
                  refine ⟨rfl, ?_, gswp HGj.out _ _ _ _ _⟩
                  have e1 := HG.out j
                  have e2 := HG.out (j - 1)
                  rw [e1, e2]
                  exact HHj.out.swp (by rw [HSK.out]; omega) (by rw [HSK.out]; omega) _
              case rest =>
                obtain ⟨rfl, hh, hg⟩ := hcut
                have HHc := Lib.hid hh
                have HGc := Lib.hid hg
                have HS2 : Hid ((swp dk j (j - 1)).size = d.size) := by show _ = _; rw [size_swp]; exact HSK.out
                clear hh hg hcw hfw hj5 HG
                generalize swp dk j (j - 1) = d1 at *
                obtain ⟨n2, hn2⟩ : ∃ n2, n2 = j - a := ⟨_, rfl⟩
                have en2 : (j : Int) - (a : Int) = (n2 : Int) := by omega
                have gn2 : n2 ≤ 1000000 := by omega
                have HN2 := Lib.hid hn2
                clear hn2 el
                go_upto_if 61 with fail
                go_cut [7] (fun v wx => v = .int .i64 j ∧ CutP a j g d.size d1 w wx)
                case first =>
                  by_cases h2 : 2 ≤ n2
                  · have HD : Hid (downK a j d1 = shiftDown ltInt (j - 1) d1) := by show _ = _; unfold downK; rw [if_pos (by have := HN2.out; omega)]
                    obtain ⟨j', hj'⟩ : ∃ j', j' = j - 1 := ⟨_, rfl⟩
                    rw [← hj'] at HD
                    have ej : (j : Int) - 1 = (j' : Int) := by omega
                    have gj' : j' < d.size := by omega
                    clear hj'
                    go_wp2
                    go_loopw [9] (fun v9 wr9 => ∃ (k : Nat) (dj : Array Int), v9 = .int .i64 k ∧ k ≤ j' ∧ Hid (dj.size = d.size) ∧ Hid (HU wr9 g dj) ∧ Hid (w.grownBy wr9 (some g)) ∧ Hid (shiftDown ltInt k dj = downK a j d1)) (fun v9 _ => (intOf v9).toNat)
                    case atStart => exact ⟨j', d1, rfl, Nat.le_refl _, HS2.out, HHc.out, HGc.out, HD.out.symm⟩
                    case round =>
                      obtain ⟨k, dj, rfl, hk, HSJ, HHk9, HGk9, HO9⟩ := hrel
                      rcases k with _ | k
                      · go_wp2
                        go_meet
                        exact ⟨rfl, dj, HO9.out, HSJ.out, HHk9.out, HGk9.out⟩
                      · obtain ⟨m, hm⟩ : ∃ m, m = k + 1 := ⟨_, rfl⟩
                        have em : ((k + 1 : Nat) : Int) = (m : Int) := by omega
                        rw [em]
                        obtain ⟨G, hG, hcw, hfw⟩ := HHk9.out.fam HSJ.out
                        have HG := Lib.hid hG
                        clear hG
                        have hmd : m < d.size := by omega
                        have hmd1 : (m : Int) < (d.size : Int) := by omega
                        have hk0 : m - 1 < d.size := by omega
                        have hk1 : (m : Int) - 1 < (d.size : Int) := by omega
                        have hk2 : 0 ≤ (m : Int) - 1 := by omega
                        have hk3 : ((m : Int) - 1).toNat = m - 1 := by omega
                        have hk4 : 1 ≤ (m : Int) := by omega
                        have hk5 := wrap_i64 (x := (m : Int) - 1) (by omega)
                        have HM : Hid (m = k + 1) := hm
                        clear em
                        cases hl : ltInt (G m) (G (m - 1))
                        · have HL : Hid (dj = downK a j d1) := by
                            show _ = _
                            rw [← HO9.out]
                            exact (down_stop (by have e1 := HG.out m; have e2 := HG.out (m - 1); rw [e1, e2, HM.out] at hl; exact hl)).symm
                          clear hm
                          go_wp2
                          go_quiet (first | (go_at_call 48; refine Calls.quiet_of_same (less_u64 _ _ _)))
                          clear hk5
                          go_wp2
                          go_meet
                          exact ⟨rfl, dj, HL.out, HSJ.out, HHk9.out.drewN _, gdrewN HGk9.out _⟩
                        · have HL : Hid (shiftDown ltInt (m - 1) (swp dj m (m - 1)) = downK a j d1) := by
                            show _ = _
                            rw [← HO9.out, HM.out]
                            exact (down_go (by have e1 := HG.out m; have e2 := HG.out (m - 1); rw [e1, e2, HM.out] at hl; exact hl)).symm
                          clear hm
                          go_wp2
                          go_quiet (first | (go_at_call 48; refine Calls.quiet_of_same (less_u64 _ _ _)))
                          go_wp2
                          clear hl
                          go_region
                          all_goals go_wp2
                          clear hk5
                          go_roundw
                          case rel =>
                            refine ⟨m - 1, swp dj m (m - 1), by congr 1; omega, by have := HM.out; omega, (by show _ = _; rw [size_swp]; exact HSJ.out), ?_, gswp HGk9.out _ _ _ _ _, HL.out⟩
                            have e1 := HG.out m
                            have e2 := HG.out (m - 1)
                            rw [e1, e2]
                            exact HHk9.out.swp (by rw [HSJ.out]; omega) (by rw [HSJ.out]; omega) _
                          case measure => simp [intOf]; omega
                  · have HD : Hid (downK a j d1 = d1) := by show _ = _; unfold downK; rw [if_neg (by have := HN2.out; omega)]
                    go_wp2
                    go_meet
                    exact ⟨rfl, d1, HD.out.symm, HS2.out, HHc.out, HGc.out⟩
                case rest =>
                  obtain ⟨rfl, d2, hd2, hs2, hh2, hg2⟩ := hcut
                  have E2 : Hid (partialIns ltInt a b (5 - (s + 1)) j (upK b j d2) = partialInsertionSort ltInt d a b) := by show _ = _; rw [hd2]; exact E.out
                  have HSd := Lib.hid hs2
                  have HHd := Lib.hid hh2
                  have HGd := Lib.hid hg2
                  clear hd2 hs2 hh2 hg2 en2 gn2
                  obtain ⟨n3, hn3⟩ : ∃ n3, n3 = b - j := ⟨_, rfl⟩
                  have en3 : (b : Int) - (j : Int) = (n3 : Int) := by omega
                  have gn3 : n3 ≤ 1000000 := by omega
                  by_cases h3 : 2 ≤ n3
                  · have HD : Hid (upK b j d2 = shiftUp ltInt b (j + 1) d2) := by show _ = _; unfold upK; rw [if_pos (by omega)]
                    have hjb2 : j + 1 < b := by omega
                    clear hn3
                    go_wp2
                    go_loopw [10] (fun v9 wr9 => ∃ (k : Nat) (dj : Array Int), v9 = .int .i64 k ∧ j < k ∧ k ≤ b ∧ Hid (dj.size = d.size) ∧ Hid (HU wr9 g dj) ∧ Hid (w.grownBy wr9 (some g)) ∧ Hid (shiftUp ltInt b k dj = upK b j d2)) (fun v9 _ => b - (intOf v9).toNat)
                    case atStart => exact ⟨j + 1, d2, by go_num, by omega, by omega, HSd.out, HHd.out, HGd.out, HD.out.symm⟩
                    case round =>
                      obtain ⟨m, dj, rfl, hm, hmb, HSJ, HHk9, HGk9, HO9⟩ := hrel
                      by_cases hmb2 : m < b
                      · obtain ⟨G, hG, hcw, hfw⟩ := HHk9.out.fam HSJ.out
                        have HG := Lib.hid hG
                        clear hG
                        have hmd : m < d.size := by omega
                        have hmd1 : (m : Int) < (d.size : Int) := by omega
                        have hk0 : m - 1 < d.size := by omega
                        have hk1 : (m : Int) - 1 < (d.size : Int) := by omega
                        have hk2 : 0 ≤ (m : Int) - 1 := by omega
                        have hk3 : ((m : Int) - 1).toNat = m - 1 := by omega
                        have hk4 : 1 ≤ (m : Int) := by omega
                        have hk5 := wrap_i64 (x := (m : Int) - 1) (by omega)
                        cases hl : ltInt (G m) (G (m - 1))
                        · have HL : Hid (dj = upK b j d2) := by
                            show _ = _
                            rw [← HO9.out]
                            exact (up_stop (.inr (by have e1 := HG.out m; have e2 := HG.out (m - 1); rw [e1, e2] at hl; exact hl))).symm
                          go_wp2
                          go_quiet (first | (go_at_call 48; refine Calls.quiet_of_same (less_u64 _ _ _)))
                          clear hk5
                          go_wp2
                          go_roundw
                          case rel => exact ⟨j, s + 1, dj, rfl, by go_num, by omega, by omega, by omega, HSJ.out, HHk9.out.drewN _, gdrewN HGk9.out _, (by show _ = _; rw [← E2.out, HL.out])⟩
                          case measure => simp [intOf]; omega
                        · have HL : Hid (shiftUp ltInt b (m + 1) (swp dj m (m - 1)) = upK b j d2) := by
                            show _ = _
                            rw [← HO9.out]
                            exact (up_go hmb2 (by have e1 := HG.out m; have e2 := HG.out (m - 1); rw [e1, e2] at hl; exact hl)).symm
                          go_wp2
                          go_quiet (first | (go_at_call 48; refine Calls.quiet_of_same (less_u64 _ _ _)))
                          go_wp2
                          clear hl
                          go_region
                          all_goals go_wp2
                          clear hk5
                          go_roundw
                          case rel =>
                            refine ⟨m + 1, swp dj m (m - 1), by go_num, by omega, by omega, (by show _ = _; rw [size_swp]; exact HSJ.out), ?_, gswp HGk9.out _ _ _ _ _, HL.out⟩
                            have e1 := HG.out m
                            have e2 := HG.out (m - 1)
                            rw [e1, e2]
                            exact HHk9.out.swp (by rw [HSJ.out]; omega) (by rw [HSJ.out]; omega) _
                          case measure => simp [intOf]; omega
                      · have HL : Hid (dj = upK b j d2) := by show _ = _; rw [← HO9.out]; exact (up_stop (.inl hmb2)).symm
                        go_wp2
                        go_roundw
                        case rel => exact ⟨j, s + 1, dj, rfl, by go_num, by omega, by omega, by omega, HSJ.out, HHk9.out, HGk9.out, (by show _ = _; rw [← E2.out, HL.out])⟩
                        case measure => simp [intOf]; omega
                  · have HD : Hid (d2 = upK b j d2) := by show _ = _; unfold upK; rw [if_neg (by omega)]
                    clear hn3
                    go_wp2
                    go_roundw
                    case rel => exact ⟨j, s + 1, d2, rfl, by go_num, by omega, by omega, by omega, HSd.out, HHd.out, HGd.out, (by show _ = _; rw [← E2.out, HD.out.symm])⟩
                    case measure => simp [intOf]; omega
        · obtain rfl : j = b := by omega
          have E : Hid ((dk, true) = partialInsertionSort ltInt d a j) := by show _ = _; rw [← HO1.out, ins_true (by rw [← HSc.out, scan_stop (.inl (by omega))])]
          have hd1 : decide ((j : Int) < (j : Int)) = false := decide_eq_false (by omega)
          have hd2 : decide (j < j) = false := decide_eq_false (by omega)
          go_wp2
          go_quiet (first | (go_at_call 48; refine Calls.quiet_of_same (less_u64 _ _ _)))
          clear hd1 hd2
          go_wp2
          go_ret
          exact ⟨dk, HSK.out, by rw [← E.out], by rw [← E.out]; rfl, HHj.out.drewN _, gdrewN HGj.out _⟩
    · obtain rfl : s = 5 := by omega
      have E : Hid ((dk, false) = partialInsertionSort ltInt d a b) := HO.out
      go_wp2
      go_ret
      exact ⟨dk, HSK.out, by rw [← E.out], by rw [← E.out]; rfl, HHk.out, HGk.out⟩
end Go.Proofs.Ytinjeoohklabpaa
