/- The walk of siftDownOrdered. -/
import Derived.Test.YtinjeoohklabpaaX1
namespace Go.Proofs.Ytinjeoohklabpaa
open Go.RowKit Go.Sort
set_option linter.unusedVariables false
set_option linter.unusedSimpArgs false

theorem sd_stop {hi first r : Nat} {d : Array Int} (h : ¬ 2 * r + 1 < hi) : siftDown ltInt hi first r d = d := by rw [siftDown, dif_pos (by omega)]
theorem sd_right {hi first r : Nat} {d : Array Int} (h : 2 * r + 2 < hi) (hl : ltInt d[first + (2 * r + 1)]! d[first + (2 * r + 1) + 1]! = true) :
    siftDown ltInt hi first r d = if ltInt d[first + r]! d[first + (2 * r + 2)]! = true then siftDown ltInt hi first (2 * r + 2) (swp d (first + r) (first + (2 * r + 2))) else d := by
  rw [siftDown, dif_neg (by omega)]
  have e : decide (2 * r + 1 + 1 < hi) = true := decide_eq_true (by omega)
  rw [hl, e]
  cases hx : ltInt d[first + r]! d[first + (2 * r + 2)]! <;> simp [hx, h]
theorem sd_left {hi first r : Nat} {d : Array Int} (h : 2 * r + 1 < hi) (hl : ¬ 2 * r + 2 < hi ∨ ltInt d[first + (2 * r + 1)]! d[first + (2 * r + 1) + 1]! = false) :
    siftDown ltInt hi first r d = if ltInt d[first + r]! d[first + (2 * r + 1)]! = true then siftDown ltInt hi first (2 * r + 1) (swp d (first + r) (first + (2 * r + 1))) else d := by
  rw [siftDown, dif_neg (by omega)]
  have e : (decide (2 * r + 1 + 1 < hi) && ltInt d[first + (2 * r + 1)]! d[first + (2 * r + 1) + 1]!) = false := by
    rcases hl with h' | h'
    · rw [decide_eq_false (by omega)]; rfl
    · rw [h', Bool.and_false]
  rw [e]
  cases hx : ltInt d[first + r]! d[first + (2 * r + 1)]! <;> simp [hx]

set_option maxRecDepth 100000 in
set_option maxHeartbeats 8000000 in
theorem sift_u64 (g cap lo hi first : Nat) (d : Array Int) (w : World) (hH : HU w g d) (hf : first + hi ≤ d.size) (hsz : d.size ≤ 1000000) (hlo : lo ≤ 1000000) :
    Calls Try.prog 53 #[.slice (some ⟨g, 0, none⟩) d.size cap, .int .i64 lo, .int .i64 hi, .int .i64 first] w (Srt (fun d' => d'.size = d.size ∧ d' = siftDown ltInt hi first lo d) (.tuple #[]) g w) := by
  have HH := Lib.hid hH
  clear hH
  go_enter Try.func53, Try.ntmps53
  go_wp2
  go_loopw [8] (fun vi wr => ∃ (r : Nat) (dk : Array Int), vi = .int .i64 r ∧ r ≤ 1000000 ∧ Hid (dk.size = d.size) ∧ Hid (HU wr g dk) ∧ Hid (w.grownBy wr (some g)) ∧ Hid (siftDown ltInt hi first r dk = siftDown ltInt hi first lo d)) (fun vi _ => hi - (intOf vi).toNat)
  case atStart => exact ⟨lo, d, rfl, hlo, Eq.refl d.size, HH.out, World.grownBy.refl w _, Eq.refl (siftDown ltInt hi first lo d)⟩
  case round =>
    obtain ⟨r, dk, rfl, hr, HSK, HHk, HGk, HO⟩ := hrel
    obtain ⟨c, hc⟩ : ∃ c : Nat, c = 2 * r + 1 := ⟨_, rfl⟩
    have hcI : 2 * (r : Int) + 1 = (c : Int) := by omega
    by_cases hch : c < hi
    · obtain ⟨G, hG, hcw, hfw⟩ := HHk.out.fam HSK.out
      have HG := Lib.hid hG
      clear hG
      obtain ⟨q, hqN⟩ : ∃ q : Nat, q = first + r := ⟨_, rfl⟩
      obtain ⟨p, hpN⟩ : ∃ p : Nat, p = first + c := ⟨_, rfl⟩
      have hq : (first : Int) + (r : Int) = (q : Int) := by omega
      have hp : (first : Int) + (c : Int) = (p : Int) := by omega
      have hqd : q < d.size := by omega
      have hpd : p < d.size := by omega
      have hqd1 : (q : Int) < (d.size : Int) := by omega
      have hpd1 : (p : Int) < (d.size : Int) := by omega
      by_cases hc1h : c + 1 < hi
      · obtain ⟨c1, hc1⟩ : ∃ c1 : Nat, c1 = c + 1 := ⟨_, rfl⟩
        obtain ⟨p1, hp1⟩ : ∃ p1 : Nat, p1 = p + 1 := ⟨_, rfl⟩
        have hs0 := (wrap_i64 (x := (c : Int) + 1) (by omega)).trans (show (c : Int) + 1 = (c1 : Int) from by omega)
        have hs3 := (wrap_i64 (x := (first : Int) + (c : Int)) (by omega)).trans hp
        have hs4 := (wrap_i64 (x := (p : Int) + 1) (by omega)).trans (show (p : Int) + 1 = (p1 : Int) from by omega)
        have hcc : (c : Int) + 1 = (c1 : Int) := by omega
        have hpd2 : p1 < d.size := by omega
        have hpd3 : (p1 : Int) < (d.size : Int) := by omega
        have hdd : decide (c1 < hi) = true := decide_eq_true (by omega)
        have hpp : (first : Int) + (c1 : Int) = (p1 : Int) := by omega
        have Hc := Lib.hid hc
        have HqN := Lib.hid hqN
        have HpN := Lib.hid hpN
        have Hc1 := Lib.hid hc1
        have Hp1 := Lib.hid hp1
        have Hp := Lib.hid hp
        have Hpp := Lib.hid hpp
        have Hq := Lib.hid hq
        clear hc hqN hpN hc1 hp1 hp hpp hq
        go_wp2
        go_quiet (first | (go_at_call 48; refine Calls.quiet_of_same (less_u64 _ _ _)))
        clear hs0 hs3 hs4
        have hq := Hq.out
        go_wp2
        · have hl0 : ltInt (G p) (G p1) = true := by assumption
          have HSTEP : Hid (siftDown ltInt hi first r dk = if ltInt dk[q]! dk[p1]! = true then siftDown ltInt hi first c1 (swp dk q p1) else dk) := by
            show _ = _
            have e := sd_right (d := dk) (first := first) (show 2 * r + 2 < hi by have := Hc.out; omega) (by
              have e1 := HG.out p
              have e2 := HG.out p1
              rw [e1, e2] at hl0
              rw [show first + (2 * r + 1) = p by have := Hc.out; have := HpN.out; omega, show p + 1 = p1 from Hp1.out.symm]
              exact hl0)
            rw [e, show first + r = q from HqN.out.symm, show 2 * r + 2 = c1 by have := Hc.out; have := Hc1.out; omega, show first + c1 = p1 by have := Hc1.out; have := Hp1.out; have := HpN.out; omega]
          have hr2 := Hc.out
          have hr3 := Hc1.out
          have hr4 : r < c1 ∧ c1 < hi := by omega
          clear hr2 hr3 hl0 hcc
          have hpp := Hpp.out
          have hs1 := (wrap_i64 (x := (first : Int) + (r : Int)) (by omega)).trans hq
          have hs2 := (wrap_i64 (x := (first : Int) + (c1 : Int)) (by omega)).trans hpp
          have hne : q ≠ p1 := by have := HqN.out; have := HpN.out; have := Hp1.out; omega
          have hne2 : p1 ≠ q := fun e => hne e.symm
          clear hq hpp
          cases hl : ltInt (G q) (G p1)
          · go_wp2
            go_quiet (first | (go_at_call 48; exact quietB (fun W => less_u64 _ _ W)))
            go_wp2
            refine bodyPost_ret (results_none rfl _ _ _) rfl ?_
            refine ⟨dk, ⟨HSK.out, ?_⟩, rfl, by first | exact HHk.out.drewN _ | exact (HHk.out.drewN _).drewN _, by first | exact gdrewN HGk.out _ | exact gdrewN (gdrewN HGk.out _) _⟩
            rw [HG.out, HG.out] at hl
            rw [← HO.out, HSTEP.out, if_neg (by rw [hl]; simp)]
          · have HL := Lib.hid hl
            go_wp2
            go_quiet (first | (go_at_call 48; exact quietB (fun W => less_u64 _ _ W)))
            go_wp2
            clear hl
            go_region
            all_goals go_wp2
            clear hs1 hs2
            go_roundw
            case rel =>
              refine ⟨c1, swp dk q p1, rfl, by omega, (by show _ = _; rw [size_swp]; exact HSK.out), ?_, ?_, ?_⟩
              · have e1 := HG.out q
                have e2 := HG.out p1
                rw [e1, e2]
                exact HHk.out.swp (by rw [HSK.out]; omega) (by rw [HSK.out]; omega) _
              · exact gswp HGk.out _ _ _ _ _
              · show _ = _
                have hl := HL.out
                rw [HG.out, HG.out] at hl
                rw [← HO.out, HSTEP.out, if_pos hl]
            case measure => simp [intOf]; omega
        · have hl0 : ltInt (G p) (G p1) = false := by assumption
          have HSTEP : Hid (siftDown ltInt hi first r dk = if ltInt dk[q]! dk[p]! = true then siftDown ltInt hi first c (swp dk q p) else dk) := by
            show _ = _
            have e := sd_left (d := dk) (first := first) (r := r) (hi := hi) (by have := Hc.out; omega) (.inr (by
              have e1 := HG.out p
              have e2 := HG.out p1
              rw [e1, e2] at hl0
              rw [show first + (2 * r + 1) = p by have := Hc.out; have := HpN.out; omega, show p + 1 = p1 from Hp1.out.symm]
              exact hl0))
            rw [e, show first + r = q from HqN.out.symm, show 2 * r + 1 = c from Hc.out.symm, show first + c = p from HpN.out.symm]
          have hr2 := Hc.out
          have hr4 : r < c ∧ c < hi := by omega
          clear hr2 hl0 hcc
          have hp := Hp.out
          have hs1 := (wrap_i64 (x := (first : Int) + (r : Int)) (by omega)).trans hq
          have hs2 := (wrap_i64 (x := (first : Int) + (c : Int)) (by omega)).trans hp
          have hne : q ≠ p := by have := HqN.out; have := HpN.out; skip; omega
          have hne2 : p ≠ q := fun e => hne e.symm
          clear hq hp
          cases hl : ltInt (G q) (G p)
          · go_wp2
            go_quiet (first | (go_at_call 48; exact quietB (fun W => less_u64 _ _ W)))
            go_wp2
            refine bodyPost_ret (results_none rfl _ _ _) rfl ?_
            refine ⟨dk, ⟨HSK.out, ?_⟩, rfl, by first | exact HHk.out.drewN _ | exact (HHk.out.drewN _).drewN _, by first | exact gdrewN HGk.out _ | exact gdrewN (gdrewN HGk.out _) _⟩
            rw [HG.out, HG.out] at hl
            rw [← HO.out, HSTEP.out, if_neg (by rw [hl]; simp)]
          · have HL := Lib.hid hl
            go_wp2
            go_quiet (first | (go_at_call 48; exact quietB (fun W => less_u64 _ _ W)))
            go_wp2
            clear hl
            go_region
            all_goals go_wp2
            clear hs1 hs2
            go_roundw
            case rel =>
              refine ⟨c, swp dk q p, rfl, by omega, (by show _ = _; rw [size_swp]; exact HSK.out), ?_, ?_, ?_⟩
              · have e1 := HG.out q
                have e2 := HG.out p
                rw [e1, e2]
                exact HHk.out.swp (by rw [HSK.out]; omega) (by rw [HSK.out]; omega) _
              · exact gswp HGk.out _ _ _ _ _
              · show _ = _
                have hl := HL.out
                rw [HG.out, HG.out] at hl
                rw [← HO.out, HSTEP.out, if_pos hl]
            case measure => simp [intOf]; omega
      · have hs0 := wrap_i64 (x := (c : Int) + 1) (by omega)
        have hdd : decide ((c : Int) + 1 < (hi : Int)) = false := decide_eq_false (by omega)
        have HSTEP : Hid (siftDown ltInt hi first r dk = if ltInt dk[q]! dk[p]! = true then siftDown ltInt hi first c (swp dk q p) else dk) := by
          show _ = _
          have e := sd_left (d := dk) (first := first) (r := r) (hi := hi) (by omega) (.inl (by omega))
          rw [e, show first + r = q from hqN.symm, show 2 * r + 1 = c from hc.symm, show first + c = p from hpN.symm]
        have hr4 : r < c ∧ c < hi := by omega
        have Hp := Lib.hid hp
        have Hq := Lib.hid hq
        have HqN := Lib.hid hqN
        have HpN := Lib.hid hpN
        clear hc hqN hpN hp hq
        go_wp2
        go_quiet (first | (go_at_call 48; refine Calls.quiet_of_same (less_u64 _ _ _)))
        clear hs0
        have hp := Hp.out
        have hq := Hq.out
        have hs1 := (wrap_i64 (x := (first : Int) + (r : Int)) (by omega)).trans hq
        have hs2 := (wrap_i64 (x := (first : Int) + (c : Int)) (by omega)).trans hp
        have hne : q ≠ p := by have := HqN.out; have := HpN.out; skip; omega
        have hne2 : p ≠ q := fun e => hne e.symm
        clear hq hp
        cases hl : ltInt (G q) (G p)
        · go_wp2
          go_quiet (first | (go_at_call 48; exact quietB (fun W => less_u64 _ _ W)))
          go_wp2
          refine bodyPost_ret (results_none rfl _ _ _) rfl ?_
          refine ⟨dk, ⟨HSK.out, ?_⟩, rfl, by first | exact HHk.out.drewN _ | exact (HHk.out.drewN _).drewN _, by first | exact gdrewN HGk.out _ | exact gdrewN (gdrewN HGk.out _) _⟩
          rw [HG.out, HG.out] at hl
          rw [← HO.out, HSTEP.out, if_neg (by rw [hl]; simp)]
        · have HL := Lib.hid hl
          go_wp2
          go_quiet (first | (go_at_call 48; exact quietB (fun W => less_u64 _ _ W)))
          go_wp2
          clear hl
          go_region
          all_goals go_wp2
          clear hs1 hs2
          go_roundw
          case rel =>
            refine ⟨c, swp dk q p, rfl, by omega, (by show _ = _; rw [size_swp]; exact HSK.out), ?_, ?_, ?_⟩
            · have e1 := HG.out q
              have e2 := HG.out p
              rw [e1, e2]
              exact HHk.out.swp (by rw [HSK.out]; omega) (by rw [HSK.out]; omega) _
            · exact gswp HGk.out _ _ _ _ _
            · show _ = _
              have hl := HL.out
              rw [HG.out, HG.out] at hl
              rw [← HO.out, HSTEP.out, if_pos hl]
          case measure => simp [intOf]; omega
    · have HE : Hid (siftDown ltInt hi first lo d = dk) := by show _ = _; rw [← HO.out, sd_stop (by omega)]
      clear hc
      go_wp2
      go_end0
      exact ⟨dk, ⟨HSK.out, HE.out.symm⟩, rfl, HHk.out, HGk.out⟩
end Go.Proofs.Ytinjeoohklabpaa
