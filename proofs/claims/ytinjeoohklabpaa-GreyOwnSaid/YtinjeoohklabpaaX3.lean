/- The walk of heapSortOrdered. -/
import Derived.Test.YtinjeoohklabpaaX2
namespace Go.Proofs.Ytinjeoohklabpaa
open Go.RowKit Go.Sort
set_option linter.unusedVariables false
set_option linter.unusedSimpArgs false

set_option maxRecDepth 100000 in
set_option maxHeartbeats 8000000 in
theorem heap_u64 (g cap a b : Nat) (d : Array Int) (w : World) (hH : HU w g d) (hab : a < b) (hb : b ≤ d.size) (hsz : d.size ≤ 1000000) :
    Calls Try.prog 43 #[.slice (some ⟨g, 0, none⟩) d.size cap, .int .i64 a, .int .i64 b] w (Srt (fun d' => d'.size = d.size ∧ d' = heapSort ltInt d a b) (.tuple #[]) g w) := by
  have HH := Lib.hid hH
  clear hH
  obtain ⟨n, hbn⟩ : ∃ n, b = a + n := ⟨b - a, by omega⟩
  obtain ⟨m, hm⟩ : ∃ m : Nat, m = (n - 1) / 2 := ⟨_, rfl⟩
  have HS : Hid (heapSort ltInt d a b = heapPop ltInt a n (heapBuild ltInt n a (m + 1) d)) := by show _ = _; unfold heapSort; rw [show b - a = n from by omega, hm]
  have CS : Hid (∀ (dk : Array Int) (lo hi : Nat) W, dk.size = d.size → HU W g dk → a + hi ≤ d.size → lo ≤ 1000000 → Calls Try.prog 53 #[.slice (some ⟨g, 0, none⟩) d.size cap, .int .i64 lo, .int .i64 hi, .int .i64 a] W (Srt (fun d' => d'.size = d.size ∧ d' = siftDown ltInt hi a lo dk) (.tuple #[]) g W)) := fun dk lo hi W hs hh h1 h2 => by
    have := sift_u64 g cap lo hi a dk W hh (by omega) (by omega) h2
    rwa [hs] at this
  have hn1 : (b : Int) - (a : Int) = (n : Int) := by omega
  have hn3 : ((n : Int) - 1) / 2 = (m : Int) := by omega
  have hn4 : ((n : Int) - 1).tdiv 2 = (m : Int) := by rw [Int.tdiv_eq_ediv_of_nonneg (by omega)]; exact hn3
  have hn5 : 1 ≤ n := by omega
  have hn6 : 1 ≤ (n : Int) := by omega
  have hnb : n ≤ 1000000 := by omega
  have hab2 : a ≤ 1000000 := by omega
  have hmb : m ≤ 1000000 := by omega
  have hand : a + n ≤ d.size := by omega
  have hbb : b ≤ 1000000 := by omega
  clear hm hab hbn
  go_enter Try.func43, Try.ntmps43
  go_wp2
  go_loopw [9] (fun vi wr => ∃ (k : Nat) (z : Int) (dk : Array Int), vi = .int .i64 z ∧ k ≤ m + 1 ∧ Hid (z = (k : Int) - 1) ∧ Hid (dk.size = d.size) ∧ Hid (HU wr g dk) ∧ Hid (w.grownBy wr (some g)) ∧ Hid (heapBuild ltInt n a k dk = heapBuild ltInt n a (m + 1) d)) (fun vi _ => ((intOf vi) + 1).toNat)
  case atStart => exact ⟨m + 1, m, d, rfl, Nat.le_refl _, (by show _ = _; omega), Eq.refl d.size, HH.out, World.grownBy.refl w _, Eq.refl (heapBuild ltInt n a (m + 1) d)⟩
  case round =>
    obtain ⟨k, z, dk, rfl, hk, HZ, HSK, HHk, HGk, HO⟩ := hrel
    rcases k with _ | k
    · obtain rfl : z = -1 := by have := HZ.out; omega
      have HB : Hid (dk = heapBuild ltInt n a (m + 1) d) := HO.out
      clear HZ HO hn3 hn4
      go_wp2
      go_loopw [10] (fun vi wr2 => ∃ (k : Nat) (z : Int) (dj : Array Int), vi = .int .i64 z ∧ k ≤ n ∧ Hid (z = (k : Int) - 1) ∧ Hid (dj.size = d.size) ∧ Hid (HU wr2 g dj) ∧ Hid (w.grownBy wr2 (some g)) ∧ Hid (heapPop ltInt a k dj = heapSort ltInt d a b)) (fun vi _ => ((intOf vi) + 1).toNat)
      case atStart => exact ⟨n, _, dk, rfl, Nat.le_refl _, (by show _ = _; omega), HSK.out, HHk.out, HGk.out, (by show _ = _; rw [HS.out, HB.out])⟩
      case round =>
        obtain ⟨k, z, dj, rfl, hk, HZ, HSJ, HHj, HGj, HO⟩ := hrel
        rcases k with _ | k
        · obtain rfl : z = -1 := by have := HZ.out; omega
          go_wp2
          go_end0
          exact ⟨dj, ⟨HSJ.out, HO.out⟩, rfl, HHj.out, HGj.out⟩
        · obtain rfl : z = (k : Int) := by have := HZ.out; omega
          obtain ⟨G, hG, hcw, hfw⟩ := HHj.out.fam HSJ.out
          have HG := Lib.hid hG
          clear hG
          obtain ⟨p, hp⟩ : ∃ p : Nat, p = a + k := ⟨_, rfl⟩
          have hs1 := (wrap_i64 (x := (a : Int) + (k : Int)) (by omega)).trans (show (a : Int) + (k : Int) = (p : Int) from by omega)
          have had : a < d.size := by omega
          have hpd : p < d.size := by omega
          have had1 : (a : Int) < (d.size : Int) := by omega
          have hpd1 : (p : Int) < (d.size : Int) := by omega
          have HP := Lib.hid hp
          clear hp
          have CT : Hid (∀ W, HU W g (swp dj a p) → Calls Try.prog 53 #[.slice (some ⟨g, 0, none⟩) d.size cap, .int .i64 0, .int .i64 k, .int .i64 a] W (Srt (fun d' => d'.size = d.size ∧ d' = siftDown ltInt k a 0 (swp dj a p)) (.tuple #[]) g W)) := fun W hW =>
            CS.out _ 0 k W (by rw [size_swp]; exact HSJ.out) hW (by omega) (by omega)
          have HE : Hid (∀ d2, d2 = siftDown ltInt k a 0 (swp dj a p) → heapPop ltInt a k d2 = heapSort ltInt d a b) := fun d2 h2 => by rw [h2, ← HO.out, HP.out]; rfl
          have HSM : Hid (∀ W, W = wr → True) := fun _ _ => trivial
          by_cases hk0 : p = a
          · have HW : Hid (∀ q, HU (((wr.drewN q).setCell ⟨g, a, none⟩ (.int .u64 (G a))).setCell ⟨g, a, none⟩ (.int .u64 (G a))) g (swp dj a p)) := fun q => by
              rw [hk0, HG.out a]
              exact HHj.out.swp (by rw [HSJ.out]; omega) (by rw [HSJ.out]; omega) q
            have HWG : Hid (∀ q, w.grownBy (((wr.drewN q).setCell ⟨g, a, none⟩ (.int .u64 (G a))).setCell ⟨g, a, none⟩ (.int .u64 (G a))) (some g)) := fun q => gswp HGj.out q a a _ _
            rw [hk0] at hs1
            clear hk0
            go_wp2
            go_region
            all_goals
              go_wp2_with (go_at_call 53; refine (CT.out _ ?hh).mono ?_)
              case hh => exact HW.out 1
              rintro e w2 ⟨d2, ⟨hs2, hd2⟩, rfl, hh2, hg2⟩
              have HS2 := Lib.hid hs2
              have HH2 := Lib.hid hh2
              have HG2 := Lib.hid (gtrans (HWG.out 1) hg2)
              have HO2 := Lib.hid (HE.out d2 hd2)
              clear hs2 hh2 hg2 hd2
              go_wp2
              clear hs1
              go_roundw
              case rel => exact ⟨k, _, d2, rfl, by omega, (by show _ = _; omega), HS2.out, HH2.out, HG2.out, HO2.out⟩
              case measure => simp [intOf]
          · have hne : a ≠ p := fun e => hk0 e.symm
            have HW : Hid (∀ q, HU (((wr.drewN q).setCell ⟨g, a, none⟩ (.int .u64 (G p))).setCell ⟨g, p, none⟩ (.int .u64 (G a))) g (swp dj a p)) := fun q => by
              rw [HG.out a, HG.out p]
              exact HHj.out.swp (by rw [HSJ.out]; omega) (by rw [HSJ.out]; omega) q
            have HWG : Hid (∀ q, w.grownBy (((wr.drewN q).setCell ⟨g, a, none⟩ (.int .u64 (G p))).setCell ⟨g, p, none⟩ (.int .u64 (G a))) (some g)) := fun q => gswp HGj.out q a p _ _
            go_wp2
            go_region
            all_goals
              go_wp2_with (go_at_call 53; refine (CT.out _ ?hh).mono ?_)
              case hh => exact HW.out 1
              rintro e w2 ⟨d2, ⟨hs2, hd2⟩, rfl, hh2, hg2⟩
              have HS2 := Lib.hid hs2
              have HH2 := Lib.hid hh2
              have HG2 := Lib.hid (gtrans (HWG.out 1) hg2)
              have HO2 := Lib.hid (HE.out d2 hd2)
              clear hs2 hh2 hg2 hd2
              go_wp2
              clear hs1
              go_roundw
              case rel => exact ⟨k, _, d2, rfl, by omega, (by show _ = _; omega), HS2.out, HH2.out, HG2.out, HO2.out⟩
              case measure => simp [intOf]
    · obtain rfl : z = (k : Int) := by have := HZ.out; omega
      go_wp2_with (go_at_call 53; refine (CS.out dk k n _ HSK.out HHk.out (by omega) (by omega)).mono ?_)
      rintro e w2 ⟨d2, ⟨hs2, hd2⟩, rfl, hh2, hg2⟩
      have HS2 := Lib.hid hs2
      have HH2 := Lib.hid hh2
      have HG2 := Lib.hid (gtrans HGk.out hg2)
      have HO2 : Hid (heapBuild ltInt n a k d2 = heapBuild ltInt n a (m + 1) d) := by show _ = _; rw [← HO.out, hd2]; rfl
      clear hs2 hh2 hg2 hd2
      go_wp2
      go_roundw
      case rel => exact ⟨k, _, d2, rfl, by omega, (by show _ = _; omega), HS2.out, HH2.out, HG2.out, HO2.out⟩
      case measure => simp [intOf]
end Go.Proofs.Ytinjeoohklabpaa
