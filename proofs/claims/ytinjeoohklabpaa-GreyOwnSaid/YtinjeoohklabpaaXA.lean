/- The walk of partitionOrdered. -/
import Derived.Test.YtinjeoohklabpaaX9
namespace Go.Proofs.Ytinjeoohklabpaa
open Go.RowKit Go.Sort
set_option linter.unusedVariables false
set_option linter.unusedSimpArgs false

theorem up_goS {p : Int → Bool} {d : Array Int} {j k : Nat} (h : k ≤ j) (hp : p d[k]! = true) : scanUp p d j k = scanUp p d j (k + 1) := by rw [scanUp, if_pos (by simp [h, hp])]
theorem up_stopS {p : Int → Bool} {d : Array Int} {j k : Nat} (h : ¬ k ≤ j ∨ p d[k]! = false) : scanUp p d j k = k := by
  rw [scanUp]
  rcases h with h | h <;> simp [h]
theorem down_goS {p : Int → Bool} {d : Array Int} {i k : Nat} (h : i ≤ k) (h0 : 1 ≤ k) (hp : p d[k]! = true) : scanDown p d i k = scanDown p d i (k - 1) := by
  obtain ⟨m, rfl⟩ : ∃ m, k = m + 1 := ⟨k - 1, by omega⟩
  rw [scanDown, if_pos (by simp [h, hp])]
  rfl
theorem down_stopS {p : Int → Bool} {d : Array Int} {i k : Nat} (h : ¬ i ≤ k ∨ p d[k]! = false) : scanDown p d i k = k := by
  cases k with
  | zero => rw [scanDown]
  | succ m =>
    rw [scanDown]
    rcases h with h | h <;> simp [h]
def PartP (d : Array Int) (a b p g : Nat) (w : World) (e : Ending) (w' : World) : Prop := ∃ (d' : Array Int) (r : Bool), d'.size = d.size ∧ d' = (partition ltInt d a b p).2.2 ∧ e = .returned (.tuple #[.int .i64 (partition ltInt d a b p).1, .bool r]) ∧ HU w' g d' ∧ w.grownBy w' (some g)

set_option maxRecDepth 100000 in
set_option maxHeartbeats 16000000 in
theorem part_u64 (g cap a b p : Nat) (d : Array Int) (w : World) (hH : HU w g d) (hap : a ≤ p) (hpb : p < b) (hb : b ≤ d.size) (hsz : d.size ≤ 1000000) :
    Calls Try.prog 50 #[.slice (some ⟨g, 0, none⟩) d.size cap, .int .i64 a, .int .i64 b, .int .i64 p] w (PartP d a b p g w) := by
  have HH0 := Lib.hid hH
  have HG0 := Lib.hid (World.grownBy.refl w (some g))
  have HSD : Hid (d.size = d.size) := Eq.refl d.size
  clear hH
  have had : a < d.size := by omega
  have had1 : (a : Int) < (d.size : Int) := by omega
  have hpd : p < d.size := by omega
  have hpd1 : (p : Int) < (d.size : Int) := by omega
  obtain ⟨i, hi⟩ : ∃ i, i = a + 1 := ⟨_, rfl⟩
  obtain ⟨j, hj⟩ : ∃ j, j = b - 1 := ⟨_, rfl⟩
  have ei : (a : Int) + 1 = (i : Int) := by omega
  have ej : (b : Int) - 1 = (j : Int) := by omega
  have g1 : a ≤ 1000000 := by omega
  have g2 : b ≤ 1000000 := by omega
  have g3 : 1 ≤ (b : Int) := by omega
  have g4 : i ≤ 1000000 := by omega
  have g5 : j ≤ 1000000 := by omega
  have hij : i ≤ j + 1 := by omega
  have hai : a < i := by omega
  have hjd : j < d.size := by omega
  have EF : Hid ((partition ltInt d a b p).1 = (partLoop ltInt a i j (swp d a p)).1) := by show _ = _; rw [hi, hj]; exact partition_fst ltInt d a b p
  have EA : Hid ((partition ltInt d a b p).2.2 = swp (partLoop ltInt a i j (swp d a p)).2 (partLoop ltInt a i j (swp d a p)).1 a) := by show _ = _; rw [hi, hj]; exact partition_arr ltInt d a b p
  have hjb0 : j < b := by omega
  clear hi hj hap hpb
  go_enter Try.func50, Try.ntmps50
  go_upto_region 1 with fail
  go_cut [3] (fun v wx => v = .int .i64 p ∧ HU wx g (swp d a p) ∧ w.grownBy wx (some g))
  case first =>
    obtain ⟨G, hG, hcw, hfw⟩ := HH0.out.fam HSD.out
    have HG := Lib.hid hG
    clear hG
    by_cases heq : a = p
    · subst heq
      go_region
      all_goals
        go_wp2_with fail
        go_meet
        refine ⟨rfl, ?_, gswp HG0.out _ _ _ _ _⟩
        rw [HG.out]
        exact HH0.out.swp (by have := HSD.out; omega) (by have := HSD.out; omega) _
    · have heq2 : ¬ p = a := fun e => heq e.symm
      go_region
      all_goals
        go_wp2_with fail
        go_meet
        refine ⟨rfl, ?_, gswp HG0.out _ _ _ _ _⟩
        have e1 := HG.out (a)
        have e2 := HG.out (p)
        rw [e1, e2]
        exact HH0.out.swp (by have := HSD.out; omega) (by have := HSD.out; omega) _
  case rest =>
    obtain ⟨rfl, hh, hg⟩ := hcut
    have HHs := Lib.hid hh
    have HGs := Lib.hid hg
    clear hh hg
    have HSK : Hid ((swp d a p).size = d.size) := by show _ = _; rw [size_swp]
    have HHk := HHs
    have HGk := HGs
    generalize swp d a p = dk at *
    obtain ⟨R, hR⟩ : ∃ R, R = partLoop ltInt a i j dk := ⟨_, rfl⟩
    rw [← hR] at EF EA
    have HR := Lib.hid hR
    clear hR HHs HGs
    go_upto_block 0 with fail
    go_cut [10] (fun v wx => v = .int .i64 (scanUp (fun x => ltInt x dk[a]!) dk j i : Nat) ∧ HU wx g dk ∧ w.grownBy wx (some g))
    case first =>
      go_wp2
      go_loopw [10] (fun v wr3 => ∃ k : Nat, v = .int .i64 k ∧ i ≤ k ∧ k ≤ j + 1 ∧ Hid (HU wr3 g dk) ∧ Hid (w.grownBy wr3 (some g)) ∧ Hid (scanUp (fun x => ltInt x dk[a]!) dk j k = scanUp (fun x => ltInt x dk[a]!) dk j i)) (fun v _ => (j + 1) - (intOf v).toNat)
      case atStart => exact ⟨i, rfl, Nat.le_refl _, by omega, HHk.out, HGk.out, Eq.refl (scanUp (fun x => ltInt x dk[a]!) dk j i)⟩
      case round =>
        obtain ⟨k, rfl, hik, hkj, HHl, HGl, HSl⟩ := hrel
        obtain ⟨G, hG, hcw, hfw⟩ := HHl.out.fam HSK.out
        have HG := Lib.hid hG
        clear hG
        by_cases hk : k ≤ j
        · have hkd : k < d.size := by omega
          have hkd1 : (k : Int) < (d.size : Int) := by omega
          have hd1 : decide ((k : Int) ≤ (j : Int)) = true := decide_eq_true (by omega)
          have hd2 : decide (k ≤ j) = true := decide_eq_true hk
          cases hl : ltInt (G k) (G a)
          · have HL : Hid ((fun x => ltInt x dk[a]!) dk[k]! = false) := by have e1 := HG.out k; have e2 := HG.out a; rw [e1, e2] at hl; show _ = _; simp [hl]
            go_wp2
            go_quiet (first | (go_at_call 48; first | refine Calls.quiet_of_same (less_u64 _ _ _) | exact quietB (fun W => less_u64 _ _ W)))
            clear hd1 hd2
            go_wp2
            have HST : Hid (scanUp (fun x => ltInt x dk[a]!) dk j i = k) := HSl.out.symm.trans (up_stopS (p := (fun x => ltInt x dk[a]!)) (.inr HL.out))
            go_meet
            exact ⟨by rw [HST.out], HHl.out.drewN _, gdrewN HGl.out _⟩
          · have HL : Hid ((fun x => ltInt x dk[a]!) dk[k]! = true) := by have e1 := HG.out k; have e2 := HG.out a; rw [e1, e2] at hl; show _ = _; simp [hl]
            go_wp2
            go_quiet (first | (go_at_call 48; first | refine Calls.quiet_of_same (less_u64 _ _ _) | exact quietB (fun W => less_u64 _ _ W)))
            clear hd1 hd2
            go_wp2
            have HSt : Hid (scanUp (fun x => ltInt x dk[a]!) dk j (k + 1) = scanUp (fun x => ltInt x dk[a]!) dk j i) := (up_goS (p := (fun x => ltInt x dk[a]!)) hk HL.out).symm.trans HSl.out
            go_roundw
            case rel => exact ⟨k + 1, by go_num, by omega, by omega, HHl.out.drewN _, gdrewN HGl.out _, HSt.out⟩
            case measure => simp [intOf]; omega
        · have HST : Hid (scanUp (fun x => ltInt x dk[a]!) dk j i = k) := HSl.out.symm.trans (up_stopS (p := (fun x => ltInt x dk[a]!)) (.inl hk))
          have hd1 : decide ((k : Int) ≤ (j : Int)) = false := decide_eq_false (by omega)
          have hd2 : decide (k ≤ j) = false := decide_eq_false hk
          go_wp2
          go_quiet (first | (go_at_call 48; first | refine Calls.quiet_of_same (less_u64 _ _ _) | exact quietB (fun W => less_u64 _ _ W)))
          clear hd1 hd2
          go_wp2
          go_meet
          exact ⟨by rw [HST.out], HHl.out.drewN _, gdrewN HGl.out _⟩
    case rest =>
      obtain ⟨rfl, hh, hg⟩ := hcut
      have HHu := Lib.hid hh
      have HGu := Lib.hid hg
      clear hh hg
      have hui := scanUp_ge (fun x => ltInt x dk[a]!) dk j i
      have hus := scanUp_spec (fun x => ltInt x dk[a]!) dk j _ i rfl
      have huj : scanUp (fun x => ltInt x dk[a]!) dk j i ≤ j + 1 := hus.2.1 (by omega)
      have huf := hus.2.2.2
      clear hus
      generalize hgu : scanUp (fun x => ltInt x dk[a]!) dk j i = i2 at *
      have HU2 : Hid (scanUp (fun x => ltInt x dk[a]!) dk j i = i2) := hgu
      clear hgu
      go_upto_block 2 with fail
      go_cut [11] (fun v wx => v = .int .i64 (scanDown (fun x => !ltInt x dk[a]!) dk i2 j : Nat) ∧ HU wx g dk ∧ w.grownBy wx (some g))
      case first =>
        go_wp2
        go_loopw [11] (fun v wr3 => ∃ k : Nat, v = .int .i64 k ∧ k ≤ j ∧ i2 ≤ k + 1 ∧ Hid (HU wr3 g dk) ∧ Hid (w.grownBy wr3 (some g)) ∧ Hid (scanDown (fun x => !ltInt x dk[a]!) dk i2 k = scanDown (fun x => !ltInt x dk[a]!) dk i2 j)) (fun v _ => (intOf v).toNat)
        case atStart => exact ⟨j, rfl, Nat.le_refl _, by omega, HHu.out, HGu.out, Eq.refl (scanDown (fun x => !ltInt x dk[a]!) dk i2 j)⟩
        case round =>
          obtain ⟨k, rfl, hkj, hik, HHl, HGl, HSl⟩ := hrel
          obtain ⟨G, hG, hcw, hfw⟩ := HHl.out.fam HSK.out
          have HG := Lib.hid hG
          clear hG
          by_cases hk : i2 ≤ k
          · have hkd : k < d.size := by omega
            have hkd1 : (k : Int) < (d.size : Int) := by omega
            have hk1 : 1 ≤ (k : Int) := by omega
            have hd1 : decide ((i2 : Int) ≤ (k : Int)) = true := decide_eq_true (by omega)
            have hd2 : decide (i2 ≤ k) = true := decide_eq_true hk
            cases hl : ltInt (G k) (G a)
            · have HL : Hid ((fun x => !ltInt x dk[a]!) dk[k]! = true) := by have e1 := HG.out k; have e2 := HG.out a; rw [e1, e2] at hl; show _ = _; simp [hl]
              go_wp2
              go_quiet (first | (go_at_call 48; first | refine Calls.quiet_of_same (less_u64 _ _ _) | exact quietB (fun W => less_u64 _ _ W)))
              clear hd1 hd2
              go_wp2
              have HSt : Hid (scanDown (fun x => !ltInt x dk[a]!) dk i2 (k - 1) = scanDown (fun x => !ltInt x dk[a]!) dk i2 j) := (down_goS (p := (fun x => !ltInt x dk[a]!)) hk (by omega) HL.out).symm.trans HSl.out
              go_roundw
              case rel => exact ⟨k - 1, by congr 1; omega, by omega, by omega, HHl.out.drewN _, gdrewN HGl.out _, HSt.out⟩
              case measure => simp [intOf]; omega
            · have HL : Hid ((fun x => !ltInt x dk[a]!) dk[k]! = false) := by have e1 := HG.out k; have e2 := HG.out a; rw [e1, e2] at hl; show _ = _; simp [hl]
              go_wp2
              go_quiet (first | (go_at_call 48; first | refine Calls.quiet_of_same (less_u64 _ _ _) | exact quietB (fun W => less_u64 _ _ W)))
              clear hd1 hd2
              go_wp2
              have HST : Hid (scanDown (fun x => !ltInt x dk[a]!) dk i2 j = k) := HSl.out.symm.trans (down_stopS (p := (fun x => !ltInt x dk[a]!)) (.inr HL.out))
              go_meet
              exact ⟨by rw [HST.out], HHl.out.drewN _, gdrewN HGl.out _⟩
          · have HST : Hid (scanDown (fun x => !ltInt x dk[a]!) dk i2 j = k) := HSl.out.symm.trans (down_stopS (p := (fun x => !ltInt x dk[a]!)) (.inl hk))
            have hd1 : decide ((i2 : Int) ≤ (k : Int)) = false := decide_eq_false (by omega)
            have hd2 : decide (i2 ≤ k) = false := decide_eq_false hk
            go_wp2
            go_quiet (first | (go_at_call 48; first | refine Calls.quiet_of_same (less_u64 _ _ _) | exact quietB (fun W => less_u64 _ _ W)))
            clear hd1 hd2
            go_wp2
            go_meet
            exact ⟨by rw [HST.out], HHl.out.drewN _, gdrewN HGl.out _⟩
      case rest =>
        obtain ⟨rfl, hh, hg⟩ := hcut
        have HHv := Lib.hid hh
        have HGv := Lib.hid hg
        clear hh hg
        have hvj := scanDown_le (fun x => !ltInt x dk[a]!) dk i2 j
        have hvs := scanDown_spec (fun x => !ltInt x dk[a]!) dk i2 j
        have hvi : i2 ≤ scanDown (fun x => !ltInt x dk[a]!) dk i2 j + 1 := hvs.2.1 (by omega)
        have hvf := hvs.2.2.2
        clear hvs
        generalize hgv : scanDown (fun x => !ltInt x dk[a]!) dk i2 j = j2 at *
        have HV2 : Hid (scanDown (fun x => !ltInt x dk[a]!) dk i2 j = j2) := hgv
        have hlt : i2 ≤ j2 → i2 < j2 := fun h => by
          rcases Nat.lt_or_ge i2 j2 with h' | h'
          · exact h'
          · exfalso
            have e : i2 = j2 := by omega
            have h1 := huf (by omega)
            have h2 := hvf h (by omega)
            rw [← e] at h2
            simp [h1] at h2
        clear hgv huf hvf
        by_cases hex : j2 < i2
        · have hR2 : Hid (R = (j2, dk)) := by show _ = _; rw [HR.out, partLoop_eq, HU2.out, HV2.out, if_pos hex]
          have hjd2 : j2 < d.size := by omega
          have hjd3 : (j2 : Int) < (d.size : Int) := by omega
          go_upto_region 8 with fail
          go_cut [11] (fun v wx => v = .int .i64 j2 ∧ HU wx g (swp dk j2 a) ∧ w.grownBy wx (some g))
          case first =>
            obtain ⟨G, hG, hcw, hfw⟩ := HHv.out.fam HSK.out
            have HG := Lib.hid hG
            clear hG
            by_cases heq : j2 = a
            · subst heq
              go_region
              all_goals
                go_wp2_with fail
                go_meet
                refine ⟨rfl, ?_, gswp HGv.out _ _ _ _ _⟩
                rw [HG.out]
                exact HHv.out.swp (by have := HSK.out; omega) (by have := HSK.out; omega) _
            · have heq2 : ¬ a = j2 := fun e => heq e.symm
              go_region
              all_goals
                go_wp2_with fail
                go_meet
                refine ⟨rfl, ?_, gswp HGv.out _ _ _ _ _⟩
                have e1 := HG.out (j2)
                have e2 := HG.out (a)
                rw [e1, e2]
                exact HHv.out.swp (by have := HSK.out; omega) (by have := HSK.out; omega) _
          case rest =>
            obtain ⟨rfl, hh, hg⟩ := hcut
            have HHs := Lib.hid hh
            have HGs := Lib.hid hg
            clear hh hg
            go_wp2
            go_ret2
            exact ⟨swp dk j2 a, true, by rw [size_swp]; exact HSK.out, by rw [EA.out, hR2.out], by rw [EF.out, hR2.out]; rfl, HHs.out, HGs.out⟩
        · have hR2 : Hid (R = partLoop ltInt a (i2 + 1) (j2 - 1) (swp dk i2 j2)) := by show _ = _; rw [HR.out, partLoop_eq, HU2.out, HV2.out, if_neg hex]
          have hij2 := hlt (by omega)
          have hjd2 : j2 < d.size := by omega
          have hjd3 : (j2 : Int) < (d.size : Int) := by omega
          have hid2 : i2 < d.size := by omega
          have hid3 : (i2 : Int) < (d.size : Int) := by omega
          have hj1 : 1 ≤ (j2 : Int) := by omega
          have gi2 : i2 ≤ 1000000 := by omega
          have gj2 : j2 ≤ 1000000 := by omega
          go_upto_region 10 with fail
          go_cut [10] (fun v wx => v = .int .i64 i2 ∧ HU wx g (swp dk i2 j2) ∧ w.grownBy wx (some g))
          case first =>
            obtain ⟨G, hG, hcw, hfw⟩ := HHv.out.fam HSK.out
            have HG := Lib.hid hG
            clear hG
            by_cases heq : i2 = j2
            · subst heq
              go_region
              all_goals
                go_wp2_with fail
                go_meet
                refine ⟨rfl, ?_, gswp HGv.out _ _ _ _ _⟩
                rw [HG.out]
                exact HHv.out.swp (by have := HSK.out; omega) (by have := HSK.out; omega) _
            · have heq2 : ¬ j2 = i2 := fun e => heq e.symm
              go_region
              all_goals
                go_wp2_with fail
                go_meet
                refine ⟨rfl, ?_, gswp HGv.out _ _ _ _ _⟩
                have e1 := HG.out (i2)
                have e2 := HG.out (j2)
                rw [e1, e2]
                exact HHv.out.swp (by have := HSK.out; omega) (by have := HSK.out; omega) _
          case rest =>
            obtain ⟨rfl, hh, hg⟩ := hcut
            have HHs := Lib.hid hh
            have HGs := Lib.hid hg
            clear hh hg
            have HSS : Hid ((swp dk i2 j2).size = d.size) := by show _ = _; rw [size_swp]; exact HSK.out
            go_wp2
            clear ei ej
            go_loopw [10, 11] (fun vi vj wr => ∃ (i j : Nat) (dk : Array Int), vi = .int .i64 i ∧ vj = .int .i64 j ∧ a < i ∧ i ≤ j + 1 ∧ j < b ∧ Hid (dk.size = d.size) ∧ Hid (HU wr g dk) ∧ Hid (w.grownBy wr (some g)) ∧ Hid (R = partLoop ltInt a i j dk)) (fun vi vj _ => ((intOf vj) + 1 - (intOf vi)).toNat)
            case atStart => exact ⟨i2 + 1, j2 - 1, swp dk i2 j2, by go_num, by congr 1; omega, by omega, by omega, by omega, HSS.out, HHs.out, HGs.out, hR2.out⟩
            case round =>
              clear HHs HGs HHv HGv HHu HGu HHk HGk HSK HU2 HV2 HR hR2 HSS
              clear hvj hvi hui huj hij hai hjd g4 g5 hex hjd2 hjd3 hid2 hid3 hj1 gi2 gj2 hlt hij2 hjb0
              obtain ⟨i, j, dk, rfl, rfl, hai, hij, hjb, HSK, HHk, HGk, HR⟩ := hrel
              have g4 : i ≤ 1000001 := by omega
              have g5 : j ≤ 1000000 := by omega
              have hjd : j < d.size := by omega
              go_upto_block 6 with fail
              go_cut [10] (fun v wx => v = .int .i64 (scanUp (fun x => ltInt x dk[a]!) dk j i : Nat) ∧ HU wx g dk ∧ w.grownBy wx (some g))
              case first =>
                go_wp2
                go_loopw [10] (fun v wr3 => ∃ k : Nat, v = .int .i64 k ∧ i ≤ k ∧ k ≤ j + 1 ∧ Hid (HU wr3 g dk) ∧ Hid (w.grownBy wr3 (some g)) ∧ Hid (scanUp (fun x => ltInt x dk[a]!) dk j k = scanUp (fun x => ltInt x dk[a]!) dk j i)) (fun v _ => (j + 1) - (intOf v).toNat)
                case atStart => exact ⟨i, rfl, Nat.le_refl _, by omega, HHk.out, HGk.out, Eq.refl (scanUp (fun x => ltInt x dk[a]!) dk j i)⟩
                case round =>
                  obtain ⟨k, rfl, hik, hkj, HHl, HGl, HSl⟩ := hrel
                  obtain ⟨G, hG, hcw, hfw⟩ := HHl.out.fam HSK.out
                  have HG := Lib.hid hG
                  clear hG
                  by_cases hk : k ≤ j
                  · have hkd : k < d.size := by omega
                    have hkd1 : (k : Int) < (d.size : Int) := by omega
                    have hd1 : decide ((k : Int) ≤ (j : Int)) = true := decide_eq_true (by omega)
                    have hd2 : decide (k ≤ j) = true := decide_eq_true hk
                    cases hl : ltInt (G k) (G a)
                    · have HL : Hid ((fun x => ltInt x dk[a]!) dk[k]! = false) := by have e1 := HG.out k; have e2 := HG.out a; rw [e1, e2] at hl; show _ = _; simp [hl]
                      go_wp2
                      go_quiet (first | (go_at_call 48; first | refine Calls.quiet_of_same (less_u64 _ _ _) | exact quietB (fun W => less_u64 _ _ W)))
                      clear hd1 hd2
                      go_wp2
                      have HST : Hid (scanUp (fun x => ltInt x dk[a]!) dk j i = k) := HSl.out.symm.trans (up_stopS (p := (fun x => ltInt x dk[a]!)) (.inr HL.out))
                      go_meet
                      exact ⟨by rw [HST.out], HHl.out.drewN _, gdrewN HGl.out _⟩
                    · have HL : Hid ((fun x => ltInt x dk[a]!) dk[k]! = true) := by have e1 := HG.out k; have e2 := HG.out a; rw [e1, e2] at hl; show _ = _; simp [hl]
                      go_wp2
                      go_quiet (first | (go_at_call 48; first | refine Calls.quiet_of_same (less_u64 _ _ _) | exact quietB (fun W => less_u64 _ _ W)))
                      clear hd1 hd2
                      go_wp2
                      have HSt : Hid (scanUp (fun x => ltInt x dk[a]!) dk j (k + 1) = scanUp (fun x => ltInt x dk[a]!) dk j i) := (up_goS (p := (fun x => ltInt x dk[a]!)) hk HL.out).symm.trans HSl.out
                      go_roundw
                      case rel => exact ⟨k + 1, by go_num, by omega, by omega, HHl.out.drewN _, gdrewN HGl.out _, HSt.out⟩
                      case measure => simp [intOf]; omega
                  · have HST : Hid (scanUp (fun x => ltInt x dk[a]!) dk j i = k) := HSl.out.symm.trans (up_stopS (p := (fun x => ltInt x dk[a]!)) (.inl hk))
                    have hd1 : decide ((k : Int) ≤ (j : Int)) = false := decide_eq_false (by omega)
                    have hd2 : decide (k ≤ j) = false := decide_eq_false hk
                    go_wp2
                    go_quiet (first | (go_at_call 48; first | refine Calls.quiet_of_same (less_u64 _ _ _) | exact quietB (fun W => less_u64 _ _ W)))
                    clear hd1 hd2
                    go_wp2
                    go_meet
                    exact ⟨by rw [HST.out], HHl.out.drewN _, gdrewN HGl.out _⟩
              case rest =>
                obtain ⟨rfl, hh, hg⟩ := hcut
                have HHu := Lib.hid hh
                have HGu := Lib.hid hg
                clear hh hg
                have hui := scanUp_ge (fun x => ltInt x dk[a]!) dk j i
                have hus := scanUp_spec (fun x => ltInt x dk[a]!) dk j _ i rfl
                have huj : scanUp (fun x => ltInt x dk[a]!) dk j i ≤ j + 1 := hus.2.1 (by omega)
                have huf := hus.2.2.2
                clear hus
                generalize hgu : scanUp (fun x => ltInt x dk[a]!) dk j i = i2 at *
                have HU2 : Hid (scanUp (fun x => ltInt x dk[a]!) dk j i = i2) := hgu
                clear hgu
                go_upto_block 8 with fail
                go_cut [11] (fun v wx => v = .int .i64 (scanDown (fun x => !ltInt x dk[a]!) dk i2 j : Nat) ∧ HU wx g dk ∧ w.grownBy wx (some g))
                case first =>
                  go_wp2
                  go_loopw [11] (fun v wr3 => ∃ k : Nat, v = .int .i64 k ∧ k ≤ j ∧ i2 ≤ k + 1 ∧ Hid (HU wr3 g dk) ∧ Hid (w.grownBy wr3 (some g)) ∧ Hid (scanDown (fun x => !ltInt x dk[a]!) dk i2 k = scanDown (fun x => !ltInt x dk[a]!) dk i2 j)) (fun v _ => (intOf v).toNat)
                  case atStart => exact ⟨j, rfl, Nat.le_refl _, by omega, HHu.out, HGu.out, Eq.refl (scanDown (fun x => !ltInt x dk[a]!) dk i2 j)⟩
                  case round =>
                    obtain ⟨k, rfl, hkj, hik, HHl, HGl, HSl⟩ := hrel
                    obtain ⟨G, hG, hcw, hfw⟩ := HHl.out.fam HSK.out
                    have HG := Lib.hid hG
                    clear hG
                    by_cases hk : i2 ≤ k
                    · have hkd : k < d.size := by omega
                      have hkd1 : (k : Int) < (d.size : Int) := by omega
                      have hk1 : 1 ≤ (k : Int) := by omega
                      have hd1 : decide ((i2 : Int) ≤ (k : Int)) = true := decide_eq_true (by omega)
                      have hd2 : decide (i2 ≤ k) = true := decide_eq_true hk
                      cases hl : ltInt (G k) (G a)
                      · have HL : Hid ((fun x => !ltInt x dk[a]!) dk[k]! = true) := by have e1 := HG.out k; have e2 := HG.out a; rw [e1, e2] at hl; show _ = _; simp [hl]
                        go_wp2
                        go_quiet (first | (go_at_call 48; first | refine Calls.quiet_of_same (less_u64 _ _ _) | exact quietB (fun W => less_u64 _ _ W)))
                        clear hd1 hd2
                        go_wp2
                        have HSt : Hid (scanDown (fun x => !ltInt x dk[a]!) dk i2 (k - 1) = scanDown (fun x => !ltInt x dk[a]!) dk i2 j) := (down_goS (p := (fun x => !ltInt x dk[a]!)) hk (by omega) HL.out).symm.trans HSl.out
                        go_roundw
                        case rel => exact ⟨k - 1, by congr 1; omega, by omega, by omega, HHl.out.drewN _, gdrewN HGl.out _, HSt.out⟩
                        case measure => simp [intOf]; omega
                      · have HL : Hid ((fun x => !ltInt x dk[a]!) dk[k]! = false) := by have e1 := HG.out k; have e2 := HG.out a; rw [e1, e2] at hl; show _ = _; simp [hl]
                        go_wp2
                        go_quiet (first | (go_at_call 48; first | refine Calls.quiet_of_same (less_u64 _ _ _) | exact quietB (fun W => less_u64 _ _ W)))
                        clear hd1 hd2
                        go_wp2
                        have HST : Hid (scanDown (fun x => !ltInt x dk[a]!) dk i2 j = k) := HSl.out.symm.trans (down_stopS (p := (fun x => !ltInt x dk[a]!)) (.inr HL.out))
                        go_meet
                        exact ⟨by rw [HST.out], HHl.out.drewN _, gdrewN HGl.out _⟩
                    · have HST : Hid (scanDown (fun x => !ltInt x dk[a]!) dk i2 j = k) := HSl.out.symm.trans (down_stopS (p := (fun x => !ltInt x dk[a]!)) (.inl hk))
                      have hd1 : decide ((i2 : Int) ≤ (k : Int)) = false := decide_eq_false (by omega)
                      have hd2 : decide (i2 ≤ k) = false := decide_eq_false hk
                      go_wp2
                      go_quiet (first | (go_at_call 48; first | refine Calls.quiet_of_same (less_u64 _ _ _) | exact quietB (fun W => less_u64 _ _ W)))
                      clear hd1 hd2
                      go_wp2
                      go_meet
                      exact ⟨by rw [HST.out], HHl.out.drewN _, gdrewN HGl.out _⟩
                case rest =>
                  obtain ⟨rfl, hh, hg⟩ := hcut
                  have HHv := Lib.hid hh
                  have HGv := Lib.hid hg
                  clear hh hg
                  have hvj := scanDown_le (fun x => !ltInt x dk[a]!) dk i2 j
                  have hvs := scanDown_spec (fun x => !ltInt x dk[a]!) dk i2 j
                  have hvi : i2 ≤ scanDown (fun x => !ltInt x dk[a]!) dk i2 j + 1 := hvs.2.1 (by omega)
                  have hvf := hvs.2.2.2
                  clear hvs
                  generalize hgv : scanDown (fun x => !ltInt x dk[a]!) dk i2 j = j2 at *
                  have HV2 : Hid (scanDown (fun x => !ltInt x dk[a]!) dk i2 j = j2) := hgv
                  have hlt : i2 ≤ j2 → i2 < j2 := fun h => by
                    rcases Nat.lt_or_ge i2 j2 with h' | h'
                    · exact h'
                    · exfalso
                      have e : i2 = j2 := by omega
                      have h1 := huf (by omega)
                      have h2 := hvf h (by omega)
                      rw [← e] at h2
                      simp [h1] at h2
                  clear hgv huf hvf
                  by_cases hex : j2 < i2
                  · have hR2 : Hid (R = (j2, dk)) := by show _ = _; rw [HR.out, partLoop_eq, HU2.out, HV2.out, if_pos hex]
                    have hjd2 : j2 < d.size := by omega
                    have hjd3 : (j2 : Int) < (d.size : Int) := by omega
                    go_upto_region 21 with fail
                    go_cut [11] (fun v wx => v = .int .i64 j2 ∧ HU wx g (swp dk j2 a) ∧ w.grownBy wx (some g))
                    case first =>
                      obtain ⟨G, hG, hcw, hfw⟩ := HHv.out.fam HSK.out
                      have HG := Lib.hid hG
                      clear hG
                      by_cases heq : j2 = a
                      · subst heq
                        go_region
                        all_goals
                          go_wp2_with fail
                          go_meet
                          refine ⟨rfl, ?_, gswp HGv.out _ _ _ _ _⟩
                          rw [HG.out]
                          exact HHv.out.swp (by have := HSK.out; omega) (by have := HSK.out; omega) _
                      · have heq2 : ¬ a = j2 := fun e => heq e.symm
                        go_region
                        all_goals
                          go_wp2_with fail
                          go_meet
                          refine ⟨rfl, ?_, gswp HGv.out _ _ _ _ _⟩
                          have e1 := HG.out (j2)
                          have e2 := HG.out (a)
                          rw [e1, e2]
                          exact HHv.out.swp (by have := HSK.out; omega) (by have := HSK.out; omega) _
                    case rest =>
                      obtain ⟨rfl, hh, hg⟩ := hcut
                      have HHs := Lib.hid hh
                      have HGs := Lib.hid hg
                      clear hh hg
                      go_wp2
                      go_ret2
                      exact ⟨swp dk j2 a, false, by rw [size_swp]; exact HSK.out, by rw [EA.out, hR2.out], by rw [EF.out, hR2.out]; rfl, HHs.out, HGs.out⟩
                  · have hR2 : Hid (R = partLoop ltInt a (i2 + 1) (j2 - 1) (swp dk i2 j2)) := by show _ = _; rw [HR.out, partLoop_eq, HU2.out, HV2.out, if_neg hex]
                    have hij2 := hlt (by omega)
                    have hjb2 : j2 - 1 < b := by omega
                    have hjd2 : j2 < d.size := by omega
                    have hjd3 : (j2 : Int) < (d.size : Int) := by omega
                    have hid2 : i2 < d.size := by omega
                    have hid3 : (i2 : Int) < (d.size : Int) := by omega
                    have hj1 : 1 ≤ (j2 : Int) := by omega
                    have gi2 : i2 ≤ 1000000 := by omega
                    have gj2 : j2 ≤ 1000000 := by omega
                    go_upto_region 18 with fail
                    go_cut [10] (fun v wx => v = .int .i64 i2 ∧ HU wx g (swp dk i2 j2) ∧ w.grownBy wx (some g))
                    case first =>
                      obtain ⟨G, hG, hcw, hfw⟩ := HHv.out.fam HSK.out
                      have HG := Lib.hid hG
                      clear hG
                      by_cases heq : i2 = j2
                      · subst heq
                        go_region
                        all_goals
                          go_wp2_with fail
                          go_meet
                          refine ⟨rfl, ?_, gswp HGv.out _ _ _ _ _⟩
                          rw [HG.out]
                          exact HHv.out.swp (by have := HSK.out; omega) (by have := HSK.out; omega) _
                      · have heq2 : ¬ j2 = i2 := fun e => heq e.symm
                        go_region
                        all_goals
                          go_wp2_with fail
                          go_meet
                          refine ⟨rfl, ?_, gswp HGv.out _ _ _ _ _⟩
                          have e1 := HG.out (i2)
                          have e2 := HG.out (j2)
                          rw [e1, e2]
                          exact HHv.out.swp (by have := HSK.out; omega) (by have := HSK.out; omega) _
                    case rest =>
                      obtain ⟨rfl, hh, hg⟩ := hcut
                      have HHs := Lib.hid hh
                      have HGs := Lib.hid hg
                      clear hh hg
                      have HSS : Hid ((swp dk i2 j2).size = d.size) := by show _ = _; rw [size_swp]; exact HSK.out
                      go_wp2
                      go_roundw
                      case rel => exact ⟨i2 + 1, j2 - 1, swp dk i2 j2, by go_num, by congr 1; omega, by omega, by omega, hjb2, HSS.out, HHs.out, HGs.out, hR2.out⟩
                      case measure => simp [intOf]; omega
end Go.Proofs.Ytinjeoohklabpaa
