/- The walk of breakPatternsOrdered. -/
import Derived.Test.YtinjeoohklabpaaX7
namespace Go.Proofs.Ytinjeoohklabpaa
open Go.RowKit Go.Sort
set_option linter.unusedVariables false
set_option linter.unusedSimpArgs false

theorem and_range (y : Int) (m : Nat) (hy : 0 ≤ y ∧ y < 18446744073709551616) (h1 : 1 ≤ m) (hm : m ≤ 2000000) : ∃ t : Nat, Go.bits .and .u64 y ((m : Int) - 1) = (t : Int) ∧ t < m := by
  obtain ⟨a, rfl⟩ := Int.eq_ofNat_of_zero_le hy.1
  have e2 : (2 : Nat) ^ 64 = 18446744073709551616 := by decide
  have e : (m : Int) - 1 = ((m - 1 : Nat) : Int) := by omega
  rw [e]
  have h := (bits_nat .u64 64 (by decide) (fun n h0 h1 => by
    have e : ((2 : Int) ^ 64) = 18446744073709551616 := by decide
    rw [e] at h1
    rw [u64_wrap]
    omega) a (m - 1) (by rw [e2]; omega) (by rw [e2]; omega)).1
  refine ⟨a &&& (m - 1), h, ?_⟩
  have := @Nat.and_le_right a (m - 1)
  omega
theorem gnew {w W W' : World} {g r : Nat} (h : w.grownBy W (some g)) (h2 : W.grownBy W' (some r)) (hr : w.heap.size ≤ r) : w.grownBy W' (some g) :=
  ⟨h2.os.trans h.os, h2.tape.trans h.tape, h2.output.trans h.output, Nat.le_trans h.size h2.size, fun k hk hne => (h2.block k (Nat.lt_of_lt_of_le hk h.size) (fun e => by cases e; omega)).trans (h.block k hk hne)⟩
theorem Sx.grown {w w' : World} {s g : Nat} {x : Int} (h : Sx w s x) (hg : w.grownBy w' (some g)) (hne : s ≠ g) : Sx w' s x := by
  have hlt := World.block_lt_of_cell? w ⟨s, 0, none⟩ h.1
  have hb := hg.block s hlt (fun e => hne (Option.some.inj e))
  obtain ⟨h1, h2⟩ := h
  exact ⟨by unfold World.cell? at h1 ⊢; simp only at h1 ⊢; rw [hb]; exact h1, by unfold World.frozen? at h2 ⊢; simp only at h2 ⊢; rw [hb]; exact h2⟩

set_option maxRecDepth 100000 in
set_option maxHeartbeats 8000000 in
theorem break_u64 (g cap a b : Nat) (d : Array Int) (w : World) (hH : HU w g d) (hab : a + 12 < b) (hb : b ≤ d.size) (hsz : d.size ≤ 1000000) :
    Calls Try.prog 44 #[.slice (some ⟨g, 0, none⟩) d.size cap, .int .i64 a, .int .i64 b] w (Srt (fun d' => PermIn a b d d') (.tuple #[]) g w) := by
  have hg : g < w.heap.size := hH.lt (by omega)
  obtain ⟨l, hl⟩ : ∃ l, l = b - a := ⟨_, rfl⟩
  obtain ⟨q, hq⟩ : ∃ q, q = l / 4 := ⟨_, rfl⟩
  obtain ⟨i0, hi0⟩ : ∃ i0, i0 = a + q * 2 - 1 := ⟨_, rfl⟩
  obtain ⟨i2, hi2⟩ : ∃ i2, i2 = a + q * 2 + 1 := ⟨_, rfl⟩
  obtain ⟨im, him⟩ : ∃ im, im = a + q * 2 := ⟨_, rfl⟩
  have e1 : (b : Int) - (a : Int) = (l : Int) := by omega
  have e2 : (l : Int) / 4 = (q : Int) := by omega
  have e3 : (a : Int) + (q : Int) * 2 = (im : Int) := by omega
  have e4 : (im : Int) - 1 = (i0 : Int) := by omega
  have e5 : (im : Int) + 1 = (i2 : Int) := by omega
  have g1 : a ≤ 1000000 := by omega
  have g2 : b ≤ 1000000 := by omega
  have g3 : l ≤ 1000000 := by omega
  have g4 : q ≤ 1000000 := by omega
  have g5 : im ≤ 1000000 := by omega
  have g6 : i0 ≤ 1000000 := by omega
  have g7 : i2 ≤ 1000000 := by omega
  have g8 : 8 ≤ l := by omega
  have g9 : 1 ≤ (im : Int) := by omega
  have hB : Hid (a ≤ i0 ∧ i2 < b ∧ i2 = i0 + 2 ∧ b = a + l) := by show _ ∧ _; omega
  have gz : i2 = i0 + 2 := by omega
  have HSx : Hid (Sx (w.alloc (.cells #[.int .u64 l] 78)) w.heap.size l) := ⟨by go_simp, by go_simp⟩
  have HHa := Lib.hid (hH.below (balloc (Below.refl w.heap.size w) (.cells #[.int .u64 l] 78)))
  have HGa := Lib.hid (gbelow (balloc (Below.refl w.heap.size w) (.cells #[.int .u64 l] 78)) (some g))
  have CN : Hid (∀ W, Calls Try.prog 54 #[.int .i64 l] W fun e w' => (∃ m : Nat, e = .returned (.int .u64 m) ∧ 1 ≤ m ∧ m ≤ 2 * l) ∧ w' = W) := fun W => next_pow l W (by omega) g3
  clear hl hq hi0 hi2 him hH hab
  go_enter Try.func44, Try.ntmps44
  go_wp2_with (go_at_call 54; refine (CN.out _).mono ?_)
  rintro e w' ⟨⟨m, rfl, hm1, hm2⟩, rfl⟩
  have GZ := Lib.hid gz
  have HNG : Hid (w.heap.size ≠ g) := by show _ ≠ _; omega
  clear gz
  go_wp2
  generalize hWa : w.alloc (.cells #[.int .u64 l] 78) = Wa at *
  clear hWa
  go_loopw [9] (fun vi wr => ∃ (t : Nat) (x : Int) (i : Nat) (dk : Array Int), vi = .int .i64 i ∧ t ≤ 3 ∧ i ≤ 1000003 ∧ Hid (i = i0 + t) ∧ Hid (PermIn a b d dk) ∧ Hid (HU wr g dk) ∧ Hid (Sx wr w.heap.size x) ∧ Hid (w.grownBy wr (some g))) (fun vi _ => (i2 + 1 - (intOf vi)).toNat)
  case atStart => exact ⟨0, _, i0, d, rfl, by omega, by omega, Eq.refl i0, permIn_refl _ _ _, HHa.out, HSx.out, HGa.out⟩
  case round =>
    obtain ⟨t, x, i, dk, rfl, ht, hi, HI, HP, HHk, HSk, HGk⟩ := hrel
    by_cases h3 : i ≤ i2
    · have ht3 : t < 3 := by have := HI.out; have := GZ.out; omega
      have HIR : Hid (a ≤ i ∧ i < b) := by show _ ∧ _; have := HI.out; have := hB.out; omega
      have hid : i < d.size := by have := HIR.out; omega
      have hid1 : (i : Int) < (d.size : Int) := by omega
      go_wp2_with (go_at_call 55; refine (xor_next _ _ _ HSk.out).mono ?_)
      rintro e W1 ⟨y, hy, rfl, hs1, hg1⟩
      have HH1 := Lib.hid (HHk.out.grown hg1 (fun e => by injection e with e; omega))
      have HS1 := Lib.hid hs1
      have HG1 := Lib.hid (gnew HGk.out hg1 (Nat.le_refl _))
      clear hs1 hg1
      obtain ⟨G, hG, hcw, hfw⟩ := HH1.out.fam HP.out.1
      have HG := Lib.hid hG
      clear hG
      obtain ⟨o, ho, hom⟩ := and_range y m hy hm1 (by omega)
      have hom2 : o < 2 * l := by omega
      have hom3 : o ≤ 2000000 := by omega
      have hmI : 1 ≤ (m : Int) := by omega
      have hmI2 : m ≤ 2000000 := by omega
      have HOM := Lib.hid hom2
      clear hy hom hom2
      by_cases hol : l ≤ o
      · obtain ⟨o2, ho2⟩ : ∃ o2, o2 = o - l := ⟨_, rfl⟩
        have eo : (o : Int) - (l : Int) = (o2 : Int) := by omega
        have ho3 : o2 < l := by have := HOM.out; omega
        have HBL : Hid (b = a + l) := hB.out.2.2.2
        clear ho2
        obtain ⟨p, hp⟩ : ∃ p : Nat, p = a + o2 := ⟨_, rfl⟩
        have hs1 := (wrap_i64 (x := (a : Int) + (o2 : Int)) (by omega)).trans (show (a : Int) + (o2 : Int) = (p : Int) from by omega)
        have hpd : p < d.size := by have := HBL.out; omega
        have hpd1 : (p : Int) < (d.size : Int) := by omega
        have HPR : Hid (a ≤ p ∧ p < b) := by show _ ∧ _; have := HBL.out; omega
        clear hp
        by_cases hpi : p = i
        · rw [hpi] at hs1
          have HW : Hid (∀ q, HU (((W1.drewN q).setCell ⟨g, i, none⟩ (.int .u64 (G i))).setCell ⟨g, i, none⟩ (.int .u64 (G i))) g (swp dk i p)) := fun q => by
            rw [hpi, HG.out i]
            exact HH1.out.swp (by rw [HP.out.1]; omega) (by rw [HP.out.1]; omega) q
          clear hpi hpd hpd1
          go_wp2
          go_region
          all_goals go_wp2
          clear hs1
          go_roundw
          case rel => exact ⟨t + 1, _, i + 1, swp dk i p, by go_num, by omega, by omega, (by show _ = _; have := HI.out; omega), permIn_trans _ _ _ _ _ HP.out (swp_permIn dk a b i p HIR.out.1 HIR.out.2 HPR.out.1 HPR.out.2 (by rw [HP.out.1]; exact hb)), HW.out _, (HS1.out.grown (gswp (World.grownBy.refl W1 _) _ _ _ _ _) HNG.out), gswp HG1.out _ _ _ _ _⟩
          case measure => simp [intOf]; omega
        · have hne : i ≠ p := fun e => hpi e.symm
          have HW : Hid (∀ q, HU (((W1.drewN q).setCell ⟨g, i, none⟩ (.int .u64 (G p))).setCell ⟨g, p, none⟩ (.int .u64 (G i))) g (swp dk i p)) := fun q => by
            rw [HG.out i, HG.out p]
            exact HH1.out.swp (by rw [HP.out.1]; omega) (by rw [HP.out.1]; omega) q
          clear hpi
          go_wp2
          go_region
          all_goals go_wp2
          clear hs1
          go_roundw
          case rel => exact ⟨t + 1, _, i + 1, swp dk i p, by go_num, by omega, by omega, (by show _ = _; have := HI.out; omega), permIn_trans _ _ _ _ _ HP.out (swp_permIn dk a b i p HIR.out.1 HIR.out.2 HPR.out.1 HPR.out.2 (by rw [HP.out.1]; exact hb)), HW.out _, (HS1.out.grown (gswp (World.grownBy.refl W1 _) _ _ _ _ _) HNG.out), gswp HG1.out _ _ _ _ _⟩
          case measure => simp [intOf]; omega
      · have ho3 : o < l := by omega
        have HBL : Hid (b = a + l) := hB.out.2.2.2
        obtain ⟨p, hp⟩ : ∃ p : Nat, p = a + o := ⟨_, rfl⟩
        have hs1 := (wrap_i64 (x := (a : Int) + (o : Int)) (by omega)).trans (show (a : Int) + (o : Int) = (p : Int) from by omega)
        have hpd : p < d.size := by have := HBL.out; omega
        have hpd1 : (p : Int) < (d.size : Int) := by omega
        have HPR : Hid (a ≤ p ∧ p < b) := by show _ ∧ _; have := HBL.out; omega
        clear hp
        by_cases hpi : p = i
        · rw [hpi] at hs1
          have HW : Hid (∀ q, HU (((W1.drewN q).setCell ⟨g, i, none⟩ (.int .u64 (G i))).setCell ⟨g, i, none⟩ (.int .u64 (G i))) g (swp dk i p)) := fun q => by
            rw [hpi, HG.out i]
            exact HH1.out.swp (by rw [HP.out.1]; omega) (by rw [HP.out.1]; omega) q
          clear hpi hpd hpd1
          go_wp2
          go_region
          all_goals go_wp2
          clear hs1
          go_roundw
          case rel => exact ⟨t + 1, _, i + 1, swp dk i p, by go_num, by omega, by omega, (by show _ = _; have := HI.out; omega), permIn_trans _ _ _ _ _ HP.out (swp_permIn dk a b i p HIR.out.1 HIR.out.2 HPR.out.1 HPR.out.2 (by rw [HP.out.1]; exact hb)), HW.out _, (HS1.out.grown (gswp (World.grownBy.refl W1 _) _ _ _ _ _) HNG.out), gswp HG1.out _ _ _ _ _⟩
          case measure => simp [intOf]; omega
        · have hne : i ≠ p := fun e => hpi e.symm
          have HW : Hid (∀ q, HU (((W1.drewN q).setCell ⟨g, i, none⟩ (.int .u64 (G p))).setCell ⟨g, p, none⟩ (.int .u64 (G i))) g (swp dk i p)) := fun q => by
            rw [HG.out i, HG.out p]
            exact HH1.out.swp (by rw [HP.out.1]; omega) (by rw [HP.out.1]; omega) q
          clear hpi
          go_wp2
          go_region
          all_goals go_wp2
          clear hs1
          go_roundw
          case rel => exact ⟨t + 1, _, i + 1, swp dk i p, by go_num, by omega, by omega, (by show _ = _; have := HI.out; omega), permIn_trans _ _ _ _ _ HP.out (swp_permIn dk a b i p HIR.out.1 HIR.out.2 HPR.out.1 HPR.out.2 (by rw [HP.out.1]; exact hb)), HW.out _, (HS1.out.grown (gswp (World.grownBy.refl W1 _) _ _ _ _ _) HNG.out), gswp HG1.out _ _ _ _ _⟩
          case measure => simp [intOf]; omega
    · go_wp2
      go_end0
      exact ⟨dk, HP.out, rfl, HHk.out, HGk.out⟩
end Go.Proofs.Ytinjeoohklabpaa
