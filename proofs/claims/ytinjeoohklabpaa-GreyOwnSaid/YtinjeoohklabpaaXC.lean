/- The walk of pdqsortOrdered, by induction on the length of the part. -/
import Derived.Test.YtinjeoohklabpaaXB
namespace Go.Proofs.Ytinjeoohklabpaa
open Go.RowKit Go.Sort
set_option linter.unusedVariables false
set_option linter.unusedSimpArgs false

abbrev Blw (a b : Nat) (d : Array Int) : Prop := Go.Sort.Below ltInt a b d
abbrev PS (a b : Nat) (d R : Array Int) : Prop := PermIn a b d R ∧ SortedIn ltInt a b R
abbrev Sl (g n cap : Nat) : Value := .slice (some ⟨g, 0, none⟩) n cap

theorem insR (g cap n a b : Nat) (d : Array Int) (w : World) (hn : d.size = n) (hH : HU w g d) (hab : a ≤ b) (hb : b ≤ n) (hsz : n ≤ 1000000) :
    Calls Try.prog 42 #[.slice (some ⟨g, 0, none⟩) n cap, .int .i64 a, .int .i64 b] w (Srt (fun R => PS a b d R) (.tuple #[]) g w) := by
  subst hn
  refine (ins_u64 g cap a b d w hH hab hb hsz).mono ?_
  rintro e w' ⟨d', ⟨hs, rfl⟩, rfl, hh, hg⟩
  exact ⟨_, insertionSort_holds swo_ltInt d a b hab hb, rfl, hh, hg⟩
theorem heapR (g cap n a b : Nat) (d : Array Int) (w : World) (hn : d.size = n) (hH : HU w g d) (hab : a < b) (hb : b ≤ n) (hsz : n ≤ 1000000) :
    Calls Try.prog 43 #[.slice (some ⟨g, 0, none⟩) n cap, .int .i64 a, .int .i64 b] w (Srt (fun R => PS a b d R) (.tuple #[]) g w) := by
  subst hn
  refine (heap_u64 g cap a b d w hH hab hb hsz).mono ?_
  rintro e w' ⟨d', ⟨hs, rfl⟩, rfl, hh, hg⟩
  exact ⟨_, heapSort_holds swo_ltInt d a b (by omega) hb, rfl, hh, hg⟩
theorem pinsR (g cap n a b : Nat) (d : Array Int) (w : World) (hn : d.size = n) (hH : HU w g d) (hab : a + 12 < b) (hb : b ≤ n) (hsz : n ≤ 1000000) (hB : Blw a b d) :
    Calls Try.prog 47 #[.slice (some ⟨g, 0, none⟩) n cap, .int .i64 a, .int .i64 b] w
      (fun e w' => ∃ (d' : Array Int) (r : Bool), e = .returned (.bool r) ∧ PermIn a b d d' ∧ (r = true → SortedIn ltInt a b d') ∧ HU w' g d' ∧ w.grownBy w' (some g)) := by
  subst hn
  refine (pins_u64 g cap a b d w hH hab hb hsz).mono ?_
  rintro e w' ⟨d', hs, rfl, rfl, hh, hg⟩
  have h := partialInsertionSort_holds swo_ltInt d a b (by omega) hb hB
  exact ⟨_, _, rfl, h.1, h.2, hh, hg⟩
theorem peqR (g cap n a b p : Nat) (d : Array Int) (w : World) (hn : d.size = n) (hH : HU w g d) (ha0 : 0 < a) (hap : a ≤ p) (hpb : p < b) (hb : b ≤ n) (hsz : n ≤ 1000000) (hB : Blw a b d)
    (hl : ltInt d[a - 1]! d[p]! = false) :
    Calls Try.prog 49 #[.slice (some ⟨g, 0, none⟩) n cap, .int .i64 a, .int .i64 b, .int .i64 p] w
      (fun e w' => ∃ (m : Nat) (d4 : Array Int), e = .returned (.int .i64 m) ∧ a < m ∧ m ≤ b ∧ d4.size = n ∧ HU w' g d4 ∧ w.grownBy w' (some g) ∧ Blw m b d4 ∧ (∀ R, PS m b d4 R → PS a b d R)) := by
  subst hn
  refine (peq_u64 g cap a b p d w hH hap hpb hb hsz).mono ?_
  rintro e w' ⟨d', hs, rfl, rfl, hh, hg⟩
  obtain ⟨h1, h2, h3, h4, h5⟩ := round_eq swo_ltInt (partitionEqual_holds ltInt) ha0 hap hpb hb hB hl (Prod.ext rfl rfl : partitionEqual ltInt d a b p = (_, _))
  exact ⟨_, _, rfl, h1, h2, hs, hh, hg, h4, fun R hR => h5 R hR.1 hR.2⟩
theorem partR (g cap n a b p : Nat) (d : Array Int) (w : World) (hn : d.size = n) (hH : HU w g d) (hap : a ≤ p) (hpb : p < b) (hb : b ≤ n) (hsz : n ≤ 1000000) (hB : Blw a b d) :
    Calls Try.prog 50 #[.slice (some ⟨g, 0, none⟩) n cap, .int .i64 a, .int .i64 b, .int .i64 p] w
      (fun e w' => ∃ (m : Nat) (r : Bool) (d4 : Array Int), e = .returned (.tuple #[.int .i64 m, .bool r]) ∧ a ≤ m ∧ m < b ∧ d4.size = n ∧ HU w' g d4 ∧ w.grownBy w' (some g) ∧ Blw a m d4 ∧ Blw (m + 1) b d4 ∧
        (∀ L, PS a m d4 L → Blw (m + 1) b L ∧ ∀ R, PS (m + 1) b L R → PS a b d R) ∧ (∀ L, PS (m + 1) b d4 L → Blw a m L ∧ ∀ R, PS a m L R → PS a b d R)) := by
  subst hn
  refine (part_u64 g cap a b p d w hH hap hpb hb hsz).mono ?_
  rintro e w' ⟨d', r, hs, rfl, rfl, hh, hg⟩
  obtain ⟨h1, h2, h3, h4, h5, h6, h7⟩ := round_part swo_ltInt (partition_holds ltInt) hap hpb hb hB (Prod.ext rfl (Prod.ext rfl rfl) : partition ltInt d a b p = (_, _, _))
  exact ⟨_, r, _, rfl, h1, h2, hs, hh, hg, h4, h5, fun L hL => ⟨(h6 L hL.1 hL.2).1, fun R hR => (h6 L hL.1 hL.2).2 R hR.1 hR.2⟩, fun L hL => ⟨(h7 L hL.1 hL.2).1, fun R hR => (h7 L hL.1 hL.2).2 R hR.1 hR.2⟩⟩
theorem brkR (g cap n a b : Nat) (d : Array Int) (w : World) (hn : d.size = n) (hH : HU w g d) (hab : a + 12 < b) (hb : b ≤ n) (hsz : n ≤ 1000000) :
    Calls Try.prog 44 #[.slice (some ⟨g, 0, none⟩) n cap, .int .i64 a, .int .i64 b] w (Srt (fun d' => PermIn a b d d') (.tuple #[]) g w) := by
  subst hn; exact break_u64 g cap a b d w hH hab hb hsz
theorem revR (g cap n a b : Nat) (d : Array Int) (w : World) (hn : d.size = n) (hH : HU w g d) (hab : a < b) (hb : b ≤ n) (hsz : n ≤ 1000000) :
    Calls Try.prog 46 #[.slice (some ⟨g, 0, none⟩) n cap, .int .i64 a, .int .i64 b] w (Srt (fun d' => PermIn a b d d') (.tuple #[]) g w) := by
  subst hn; exact rev_u64 g cap a b d w hH hab hb hsz
theorem pivR (g cap n a b : Nat) (d : Array Int) (w : World) (hn : d.size = n) (hH : HU w g d) (hab : a + 12 < b) (hb : b ≤ n) (hsz : n ≤ 1000000) :
    Calls Try.prog 45 #[.slice (some ⟨g, 0, none⟩) n cap, .int .i64 a, .int .i64 b] w (Piv a b w) := by
  subst hn; exact pivot_u64 g cap a b d w hH hab hb hsz
set_option maxRecDepth 100000 in
set_option maxHeartbeats 16000000 in
theorem pdq_u64 (g cap n : Nat) (hsz : n ≤ 1000000) (k : Nat) : ∀ (lo hi l : Nat) (d : Array Int) (w : World), hi - lo = k → d.size = n → HU w g d → lo ≤ hi → hi ≤ n → l ≤ 1000 → Blw lo hi d →
    Calls Try.prog 38 #[.slice (some ⟨g, 0, none⟩) n cap, .int .i64 lo, .int .i64 hi, .int .i64 l] w (Srt (fun R => PS lo hi d R) (.tuple #[]) g w) := by
  induction k using Nat.strongRecOn with
  | ind k ih =>
  intro lo hi l d w hk hds hH hlh hhn hl hB
  have IH : Hid (∀ (lo hi l : Nat) (d : Array Int) (w : World), hi - lo < k → d.size = n → HU w g d → lo ≤ hi → hi ≤ n → l ≤ 1000 → Blw lo hi d →
    Calls Try.prog 38 #[.slice (some ⟨g, 0, none⟩) n cap, .int .i64 lo, .int .i64 hi, .int .i64 l] w (Srt (fun R => PS lo hi d R) (.tuple #[]) g w)) := fun lo hi l d w h => ih (hi - lo) h lo hi l d w rfl
  have HH := Lib.hid hH
  have HS := Lib.hid hds
  have HB := Lib.hid hB
  have hkk : hi - lo ≤ k := by omega
  clear ih hH hds hB hk
  go_enter Try.func38, Try.ntmps38
  go_wp2
  go_loopw [1, 2, 3, 8, 9] (fun va vb vl v8 v9 wr => ∃ (a b l : Nat) (wb wp : Bool) (dk : Array Int), va = .int .i64 a ∧ vb = .int .i64 b ∧ vl = .int .i64 l ∧ v8 = .bool wb ∧ v9 = .bool wp ∧ a ≤ b ∧ b ≤ n ∧ b - a ≤ k ∧ l ≤ 1000 ∧ Hid (dk.size = n) ∧ Hid (HU wr g dk) ∧ Hid (w.grownBy wr (some g)) ∧ Hid (Blw a b dk) ∧ Hid (∀ R, PS a b dk R → PS lo hi d R)) (fun va vb vl v8 v9 _ => ((intOf vb) - (intOf va)).toNat)
  case atStart => exact ⟨lo, hi, l, true, true, d, rfl, rfl, rfl, rfl, rfl, hlh, hhn, hkk, hl, HS.out, HH.out, World.grownBy.refl w _, HB.out, (fun R h => h)⟩
  case round =>
    clear hlh hhn hkk hl HS HH HB
    obtain ⟨a, b, l, wb, wp, dk, rfl, rfl, rfl, rfl, rfl, hab, hbn, hkb, hl, HSk, HHk, HGk, HBk, HC⟩ := hrel
    obtain ⟨q, hq⟩ : ∃ q, q = b - a := ⟨_, rfl⟩
    have eq1 : (b : Int) - (a : Int) = (q : Int) := by omega
    have ga : a ≤ 1000000 := by omega
    have gb : b ≤ 1000000 := by omega
    have gq : q ≤ 1000000 := by omega
    have HQ := Lib.hid hq
    clear hq
    by_cases h12 : q ≤ 12
    · go_wp2_with (go_at_call 42; refine (insR g cap n a b dk _ HSk.out HHk.out hab hbn hsz).mono ?_)
      rintro e w2 ⟨d2, hps, rfl, hh2, hg2⟩
      have HE := Lib.hid (HC.out d2 hps)
      have HH2 := Lib.hid hh2
      have HG2 := Lib.hid (gtrans HGk.out hg2)
      clear hps hh2 hg2
      go_wp2
      refine bodyPost_ret (results_none rfl _ _ _) rfl ?_
      exact ⟨d2, HE.out, rfl, HH2.out, HG2.out⟩
    · have hab12 : a + 12 < b := by have := HQ.out; omega
      rcases Nat.eq_zero_or_pos l with hl0 | hl0
      · subst hl0
        go_wp2_with (go_at_call 43; refine (heapR g cap n a b dk _ HSk.out HHk.out (by omega) hbn hsz).mono ?_)
        rintro e w2 ⟨d2, hps, rfl, hh2, hg2⟩
        have HE := Lib.hid (HC.out d2 hps)
        have HH2 := Lib.hid hh2
        have HG2 := Lib.hid (gtrans HGk.out hg2)
        clear hps hh2 hg2
        go_wp2
        refine bodyPost_ret (results_none rfl _ _ _) rfl ?_
        exact ⟨d2, HE.out, rfl, HH2.out, HG2.out⟩
      · have hl1 : ((l : Int) == 0) = false := by rw [beq_eq_false_iff_ne]; omega
        have hl2 : (l == 0) = false := by rw [beq_eq_false_iff_ne]; omega
        have hl3 : l ≠ 0 := by omega
        have hl4 : 1 ≤ (l : Int) := by omega
        go_upto_if 35 with fail
        go_cut [3] (fun v wx => ∃ (l2 : Nat) (d1 : Array Int), v = .int .i64 l2 ∧ l2 ≤ 1000 ∧ PermIn a b dk d1 ∧ HU wx g d1 ∧ w.grownBy wx (some g))
        case first =>
          cases wb
          · go_wp2_with (go_at_call 44; refine (brkR g cap n a b dk _ HSk.out HHk.out hab12 hbn hsz).mono ?_)
            rintro e w2 ⟨d2, hps, rfl, hh2, hg2⟩
            have HP2 := Lib.hid hps
            have HH2 := Lib.hid hh2
            have HG2 := Lib.hid (gtrans HGk.out hg2)
            clear hps hh2 hg2
            go_wp2
            go_meet
            exact ⟨l - 1, d2, by congr 1; omega, by omega, HP2.out, HH2.out, HG2.out⟩
          · go_wp2
            go_meet
            exact ⟨l, dk, rfl, hl, permIn_refl _ _ _, HHk.out, HGk.out⟩
        case rest =>
          obtain ⟨l2, d1, rfl, gl2, hp1, hh1, hg1⟩ := hcut
          clear hl hl0 hl1 hl2 hl3 hl4
          have HP1 := Lib.hid hp1
          have HH1 := Lib.hid hh1
          have HG1 := Lib.hid hg1
          have HS1 := Lib.hid (hp1.1.trans HSk.out)
          clear hp1 hh1 hg1
          go_wp2_with (go_at_call 45; refine (pivR g cap n a b d1 _ HS1.out HH1.out hab12 hbn hsz).mono ?_)
          rintro e w2 ⟨p, h, ⟨hap, hpb⟩, hh, rfl, hb2⟩
          have HH2 := Lib.hid (HH1.out.below hb2)
          have HG2 := Lib.hid (gtrans HG1.out (gbelow hb2 _))
          clear hb2
          go_upto_if 50 with fail
          go_cut [11, 12] (fun v v2 wx => ∃ (p : Nat) (h : Int) (d2 : Array Int), v = .int .i64 p ∧ v2 = .int .i64 h ∧ a ≤ p ∧ p < b ∧ (h = 0 ∨ h = 1) ∧ PermIn a b d1 d2 ∧ HU wx g d2 ∧ w.grownBy wx (some g))
          case first =>
            rcases hh with rfl | rfl | rfl
            · go_wp2
              go_meet
              exact ⟨p, 0, d1, rfl, rfl, hap, hpb, .inl rfl, permIn_refl _ _ _, HH2.out, HG2.out⟩
            · go_wp2
              go_meet
              exact ⟨p, 1, d1, rfl, rfl, hap, hpb, .inr rfl, permIn_refl _ _ _, HH2.out, HG2.out⟩
            · have gp : p ≤ 1000000 := by omega
              go_wp2_with (go_at_call 46; refine (revR g cap n a b d1 _ HS1.out HH2.out (by omega) hbn hsz).mono ?_)
              rintro e w3 ⟨d3, hps, rfl, hh3, hg3⟩
              have HP3 := Lib.hid hps
              have HH3 := Lib.hid hh3
              have HG3 := Lib.hid (gtrans HG2.out hg3)
              clear hps hh3 hg3
              obtain ⟨p2, hp2⟩ : ∃ p2, p2 = (b - 1) - (p - a) := ⟨_, rfl⟩
              have ep : (b : Int) - 1 - ((p : Int) - (a : Int)) = (p2 : Int) := by omega
              have hap2 : a ≤ p2 ∧ p2 < b := by omega
              clear hp2
              go_wp2
              go_meet
              exact ⟨p2, 1, d3, rfl, rfl, hap2.1, hap2.2, .inr rfl, HP3.out, HH3.out, HG3.out⟩
          case rest =>
            clear HH2 HG2 hh hap hpb
            clear p h
            obtain ⟨p, h, d2, rfl, rfl, hap, hpb, hh, hp2, hh2, hg2⟩ := hcut
            have HP2 := Lib.hid (permIn_trans _ _ _ a b HP1.out hp2)
            have HS2 := Lib.hid (hp2.1.trans HS1.out)
            have HH2 := Lib.hid hh2
            have HG2 := Lib.hid hg2
            have HB2 : Hid (Blw a b d2) := HBk.out.perm (by rw [HSk.out]; exact hbn) HP2.out
            clear hp2 hh2 hg2 HP1 HH1 HG1 HS1
            obtain ⟨c, hcd⟩ : ∃ c, c = (wb && wp && decide (h = 1)) := ⟨_, rfl⟩
            have HCD := Lib.hid hcd
            clear hcd
            go_upto_region 15 with fail
            go_cut [11, 68] (fun v v2 wx => v = .int .i64 p ∧ v2 = .bool c ∧ HU wx g d2 ∧ w.grownBy wx (some g))
            case first =>
              have e := HCD.out
              clear HCD
              rcases hh with rfl | rfl <;> cases wb <;> cases wp <;> (simp at e; subst e)
              all_goals go_wp2
              all_goals go_meet
              all_goals exact ⟨rfl, rfl, HH2.out, HG2.out⟩
            case rest =>
            obtain ⟨rfl, rfl, hh2, hg2⟩ := hcut
            clear HH2 HG2
            have HH2 := Lib.hid hh2
            have HG2 := Lib.hid hg2
            clear hh2 hg2
            go_upto_if 68 with fail
            go_cut [11] (fun v wx => ∃ (d3 : Array Int), v = .int .i64 p ∧ PermIn a b d2 d3 ∧ HU wx g d3 ∧ w.grownBy wx (some g))
            case first =>
              cases c
              · go_wp2
                go_meet
                exact ⟨d2, rfl, permIn_refl _ _ _, HH2.out, HG2.out⟩
              · go_wp2_with (go_at_call 47; refine (pinsR g cap n a b d2 _ HS2.out HH2.out hab12 hbn hsz HB2.out).mono ?_)
                rintro e w3 ⟨d3, r, rfl, hps, hrs, hh3, hg3⟩
                have HP3 := Lib.hid hps
                have HR3 := Lib.hid hrs
                have HH3 := Lib.hid hh3
                have HG3 := Lib.hid (gtrans HG2.out hg3)
                clear hps hrs hh3 hg3
                cases r
                · go_wp2
                  go_meet
                  exact ⟨d3, rfl, HP3.out, HH3.out, HG3.out⟩
                · go_wp2
                  refine bodyPost_ret (results_none rfl _ _ _) rfl ?_
                  exact ⟨d3, HC.out d3 ⟨permIn_trans _ _ _ a b HP2.out HP3.out, (by first | exact HR3.out rfl | exact HR3.out trivial | exact HR3.out)⟩, rfl, HH3.out, HG3.out⟩
            case rest =>
              obtain ⟨d3, rfl, hp3, hh3, hg3⟩ := hcut
              have HP3 := Lib.hid (permIn_trans _ _ _ a b HP2.out hp3)
              have HS3 := Lib.hid (hp3.1.trans HS2.out)
              have HH3 := Lib.hid hh3
              have HG3 := Lib.hid hg3
              have HB3 : Hid (Blw a b d3) := HB2.out.perm (by rw [HS2.out]; exact hbn) hp3
              have HC3 : Hid (∀ R, PS a b d3 R → PS lo hi d R) := fun R hR => HC.out R ⟨permIn_trans _ _ _ a b HP3.out hR.1, hR.2⟩
              clear hp3 hh3 hg3 HP2 HH2 HG2 HS2 HB2 HP3 HC HBk HSk HHk HGk hh
              obtain ⟨G, hG, hcw, hfw⟩ := HH3.out.fam HS3.out
              have HG := Lib.hid hG
              clear hG
              have gp : p ≤ 1000000 := by omega
              have hpn : p < n := by omega
              have hpn1 : (p : Int) < (n : Int) := by omega
              have han : a < n := by omega
              rcases Nat.eq_zero_or_pos a with ha0 | ha0
              · have hd1 : decide ((a : Int) > 0) = false := decide_eq_false (by omega)
                have hd2 : decide (0 < (a : Int)) = false := decide_eq_false (by omega)
                have hd3 : decide (0 < a) = false := decide_eq_false (by omega)
                clear ha0
                go_wp2
                go_quiet (first | (go_at_call 48; first | refine Calls.quiet_of_same (less_u64 _ _ _) | exact quietB (fun W => less_u64 _ _ W)))
                clear hd1 hd2 hd3
                go_wp2_with (go_at_call 50; refine (partR g cap n a b p d3 _ HS3.out (HH3.out.drewN _) hap hpb hbn hsz HB3.out).mono ?_)
                rintro e w4 ⟨m, r, d4, rfl, ham, hmb, hs4, hh4, hg4, hb4, hb5, hc4, hc5⟩
                have HS4 := Lib.hid hs4
                have HH4 := Lib.hid hh4
                have HG4 := Lib.hid (gtrans (gdrewN HG3.out _) hg4)
                have HB4 := Lib.hid hb4
                have HB5 := Lib.hid hb5
                have HC4 := Lib.hid hc4
                have HC5 := Lib.hid hc5
                clear hs4 hh4 hg4 hb4 hb5 hc4 hc5 hcw hfw
                obtain ⟨q1, hq1⟩ : ∃ q1, q1 = m - a := ⟨_, rfl⟩
                obtain ⟨q2, hq2⟩ : ∃ q2, q2 = b - m := ⟨_, rfl⟩
                have e1 : (m : Int) - (a : Int) = (q1 : Int) := by omega
                have e2 : (b : Int) - (m : Int) = (q2 : Int) := by omega
                have e3 : IntKind.i64.wrap ((m : Int) + 1) = ((m + 1 : Nat) : Int) := by rw [wrap_i64 (by omega)]; omega
                have g1 : q1 ≤ 1000000 := by omega
                have g2 : q2 ≤ 1000000 := by omega
                have gm : m ≤ 1000000 := by omega
                have HQ1 := Lib.hid hq1
                have HQ2 := Lib.hid hq2
                clear hq1 hq2
                by_cases hlt : q1 < q2
                · go_wp2_with (go_at_call 38; refine (IH.out a m l2 d4 _ (by have := HQ1.out; have := HQ2.out; omega) HS4.out HH4.out ham (by omega) gl2 HB4.out).mono ?_)
                  rintro e w5 ⟨d5, hp5, rfl, hh5, hg5⟩
                  have HS5 := Lib.hid (hp5.1.1.trans HS4.out)
                  have HH5 := Lib.hid hh5
                  have HG5 := Lib.hid (gtrans HG4.out hg5)
                  have HB6 := Lib.hid (HC4.out d5 hp5).1
                  have HC6 : Hid (∀ R, PS (m + 1) b d5 R → PS lo hi d R) := fun R hR => HC3.out R ((HC4.out d5 hp5).2 R hR)
                  clear hp5 hh5 hg5
                  go_wp2
                  go_roundw
                  case rel => exact ⟨m + 1, b, l2, _, r, d5, by go_num, rfl, rfl, rfl, rfl, by omega, hbn, by omega, gl2, HS5.out, HH5.out, HG5.out, HB6.out, HC6.out⟩
                  case measure => simp [intOf]; omega
                · go_wp2_with (go_at_call 38; refine (IH.out (m + 1) b l2 d4 _ (by omega) HS4.out HH4.out (by omega) hbn gl2 HB5.out).mono ?_)
                  rintro e w5 ⟨d5, hp5, rfl, hh5, hg5⟩
                  have HS5 := Lib.hid (hp5.1.1.trans HS4.out)
                  have HH5 := Lib.hid hh5
                  have HG5 := Lib.hid (gtrans HG4.out hg5)
                  have HB6 := Lib.hid (HC5.out d5 hp5).1
                  have HC6 : Hid (∀ R, PS a m d5 R → PS lo hi d R) := fun R hR => HC3.out R ((HC5.out d5 hp5).2 R hR)
                  clear hp5 hh5 hg5
                  go_wp2
                  go_roundw
                  case rel => exact ⟨a, m, l2, _, r, d5, rfl, rfl, rfl, rfl, rfl, ham, by omega, by omega, gl2, HS5.out, HH5.out, HG5.out, HB6.out, HC6.out⟩
                  case measure => simp [intOf]; omega
              · have hd1 : decide ((a : Int) > 0) = true := decide_eq_true (by omega)
                have hd2 : decide (0 < (a : Int)) = true := decide_eq_true (by omega)
                have hd3 : decide (0 < a) = true := decide_eq_true (by omega)
                obtain ⟨a1, ha1⟩ : ∃ a1, a1 = a - 1 := ⟨_, rfl⟩
                have ea : (a : Int) - 1 = (a1 : Int) := by omega
                have ha1n : a1 < n := by omega
                have ha1n1 : (a1 : Int) < (n : Int) := by omega
                have HA1 := Lib.hid ha1
                have HA0 := Lib.hid ha0
                clear ha1 ha0
                cases hl : ltInt (G a1) (G p)
                · have HL : Hid (ltInt d3[a - 1]! d3[p]! = false) := by show _ = _; rw [← HG.out, ← HG.out, ← HA1.out]; exact hl
                  go_wp2
                  go_quiet (first | (go_at_call 48; first | refine Calls.quiet_of_same (less_u64 _ _ _) | exact quietB (fun W => less_u64 _ _ W)))
                  clear hd1 hd2 hd3 ea
                  go_wp2_with (go_at_call 49; refine (peqR g cap n a b p d3 _ HS3.out (HH3.out.drewN _) HA0.out hap hpb hbn hsz HB3.out HL.out).mono ?_)
                  rintro e w4 ⟨m, d4, rfl, ham, hmb, hs4, hh4, hg4, hb4, hc4⟩
                  have HS4 := Lib.hid hs4
                  have HH4 := Lib.hid hh4
                  have HG4 := Lib.hid (gtrans (gdrewN HG3.out _) hg4)
                  have HB4 := Lib.hid hb4
                  have HC4 : Hid (∀ R, PS m b d4 R → PS lo hi d R) := fun R hR => HC3.out R (hc4 R hR)
                  clear hs4 hh4 hg4 hb4 hc4
                  go_wp2
                  go_roundw
                  case rel => exact ⟨m, b, l2, wb, wp, d4, rfl, rfl, rfl, rfl, rfl, hmb, hbn, by omega, gl2, HS4.out, HH4.out, HG4.out, HB4.out, HC4.out⟩
                  case measure => simp [intOf]; omega
                · go_wp2
                  go_quiet (first | (go_at_call 48; first | refine Calls.quiet_of_same (less_u64 _ _ _) | exact quietB (fun W => less_u64 _ _ W)))
                  clear hd1 hd2 hd3 ea
                  go_wp2_with (go_at_call 50; refine (partR g cap n a b p d3 _ HS3.out (HH3.out.drewN _) hap hpb hbn hsz HB3.out).mono ?_)
                  rintro e w4 ⟨m, r, d4, rfl, ham, hmb, hs4, hh4, hg4, hb4, hb5, hc4, hc5⟩
                  have HS4 := Lib.hid hs4
                  have HH4 := Lib.hid hh4
                  have HG4 := Lib.hid (gtrans (gdrewN HG3.out _) hg4)
                  have HB4 := Lib.hid hb4
                  have HB5 := Lib.hid hb5
                  have HC4 := Lib.hid hc4
                  have HC5 := Lib.hid hc5
                  clear hs4 hh4 hg4 hb4 hb5 hc4 hc5 hcw hfw
                  obtain ⟨q1, hq1⟩ : ∃ q1, q1 = m - a := ⟨_, rfl⟩
                  obtain ⟨q2, hq2⟩ : ∃ q2, q2 = b - m := ⟨_, rfl⟩
                  have e1 : (m : Int) - (a : Int) = (q1 : Int) := by omega
                  have e2 : (b : Int) - (m : Int) = (q2 : Int) := by omega
                  have e3 : IntKind.i64.wrap ((m : Int) + 1) = ((m + 1 : Nat) : Int) := by rw [wrap_i64 (by omega)]; omega
                  have g1 : q1 ≤ 1000000 := by omega
                  have g2 : q2 ≤ 1000000 := by omega
                  have gm : m ≤ 1000000 := by omega
                  have HQ1 := Lib.hid hq1
                  have HQ2 := Lib.hid hq2
                  clear hq1 hq2
                  by_cases hlt : q1 < q2
                  · go_wp2_with (go_at_call 38; refine (IH.out a m l2 d4 _ (by have := HQ1.out; have := HQ2.out; omega) HS4.out HH4.out ham (by omega) gl2 HB4.out).mono ?_)
                    rintro e w5 ⟨d5, hp5, rfl, hh5, hg5⟩
                    have HS5 := Lib.hid (hp5.1.1.trans HS4.out)
                    have HH5 := Lib.hid hh5
                    have HG5 := Lib.hid (gtrans HG4.out hg5)
                    have HB6 := Lib.hid (HC4.out d5 hp5).1
                    have HC6 : Hid (∀ R, PS (m + 1) b d5 R → PS lo hi d R) := fun R hR => HC3.out R ((HC4.out d5 hp5).2 R hR)
                    clear hp5 hh5 hg5
                    go_wp2
                    go_roundw
                    case rel => exact ⟨m + 1, b, l2, _, r, d5, by go_num, rfl, rfl, rfl, rfl, by omega, hbn, by omega, gl2, HS5.out, HH5.out, HG5.out, HB6.out, HC6.out⟩
                    case measure => simp [intOf]; omega
                  · go_wp2_with (go_at_call 38; refine (IH.out (m + 1) b l2 d4 _ (by omega) HS4.out HH4.out (by omega) hbn gl2 HB5.out).mono ?_)
                    rintro e w5 ⟨d5, hp5, rfl, hh5, hg5⟩
                    have HS5 := Lib.hid (hp5.1.1.trans HS4.out)
                    have HH5 := Lib.hid hh5
                    have HG5 := Lib.hid (gtrans HG4.out hg5)
                    have HB6 := Lib.hid (HC5.out d5 hp5).1
                    have HC6 : Hid (∀ R, PS a m d5 R → PS lo hi d R) := fun R hR => HC3.out R ((HC5.out d5 hp5).2 R hR)
                    clear hp5 hh5 hg5
                    go_wp2
                    go_roundw
                    case rel => exact ⟨a, m, l2, _, r, d5, rfl, rfl, rfl, rfl, rfl, ham, by omega, by omega, gl2, HS5.out, HH5.out, HG5.out, HB6.out, HC6.out⟩
                    case measure => simp [intOf]; omega
end Go.Proofs.Ytinjeoohklabpaa
