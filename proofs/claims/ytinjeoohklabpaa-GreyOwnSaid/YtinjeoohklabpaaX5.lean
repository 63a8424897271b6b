/- The walks of order2Ordered, medianOrdered, medianAdjacentOrdered, choosePivotOrdered. -/
import Derived.Test.YtinjeoohklabpaaX4
namespace Go.Proofs.Ytinjeoohklabpaa
open Go.RowKit Go.Sort
set_option linter.unusedVariables false
set_option linter.unusedSimpArgs false

/-- A variable of the call's own that holds a number. -/
def Sw (w : World) (s : Nat) (x : Int) : Prop := w.cell? ⟨s, 0, none⟩ = some (.int .i64 x) ∧ w.frozen? ⟨s, 0, none⟩ = false
theorem Sw.drewN {w : World} {s : Nat} {x : Int} (h : Sw w s x) (n : Nat) : Sw (w.drewN n) s x := h
theorem Sw.set {w : World} {s : Nat} {x : Int} (h : Sw w s x) (y : Int) : Sw (w.setCell ⟨s, 0, none⟩ (.int .i64 y)) s y := ⟨World.cell?_setCell_same _ _ _ h.1, by rw [World.frozen?_setCell]; exact h.2⟩
def Ord2 (a b s : Nat) (x : Int) (w : World) (e : Ending) (w' : World) : Prop := ∃ (p q : Nat) (y : Int), ((p = a ∧ q = b) ∨ (p = b ∧ q = a)) ∧ e = .returned (.tuple #[.int .i64 p, .int .i64 q]) ∧ Sw w' s y ∧ (x ≤ y ∧ y ≤ x + 1) ∧ w.grownBy w' (some s)
def Med (a b c s : Nat) (k x : Int) (w : World) (e : Ending) (w' : World) : Prop := ∃ (p : Nat) (y : Int), (p = a ∨ p = b ∨ p = c) ∧ e = .returned (.int .i64 p) ∧ Sw w' s y ∧ (x ≤ y ∧ y ≤ x + k) ∧ w.grownBy w' (some s)
set_option maxHeartbeats 4000000 in
theorem order2_u64 (g cap a b s : Nat) (x : Int) (d : Array Int) (w : World) (hH : HU w g d) (ha : a < d.size) (hb : b < d.size) (hs : Sw w s x) (hx : 0 ≤ x ∧ x ≤ 1000) (hsz : d.size ≤ 1000000) :
    Calls Try.prog 59 #[.slice (some ⟨g, 0, none⟩) d.size cap, .int .i64 a, .int .i64 b, .pointer (some ⟨s, 0, none⟩)] w (Ord2 a b s x w) := by
  obtain ⟨G, hG, hcw, hfw⟩ := hH.fam rfl
  have HS := Lib.hid hs
  obtain ⟨hx0, hx1⟩ := hx
  have ha1 : (a : Int) < (d.size : Int) := by omega
  have hb1 : (b : Int) < (d.size : Int) := by omega
  have had : a ≤ 1000000 := by omega
  have hbd : b ≤ 1000000 := by omega
  clear hG hs hH
  obtain ⟨hs1, hs2⟩ := HS.out
  go_enter Try.func59, Try.ntmps59
  go_wp2
  go_quiet (first | (go_at_call 48; refine Calls.quiet_of_same (less_u64 _ _ _)))
  go_wp2
  · go_ret2
    exact ⟨b, a, x + 1, .inr ⟨rfl, rfl⟩, rfl, (HS.out.drewN _).set _, ⟨by omega, Int.le_refl _⟩, gset (gdrewN (World.grownBy.refl w _) _) 0 _⟩
  · go_ret2
    exact ⟨a, b, x, .inl ⟨rfl, rfl⟩, rfl, HS.out.drewN _, ⟨Int.le_refl _, by omega⟩, gdrewN (World.grownBy.refl w _) _⟩
set_option maxHeartbeats 4000000 in
theorem median_u64 (g cap a b c s : Nat) (x : Int) (d : Array Int) (w : World) (hH : HU w g d) (ha : a < d.size) (hb : b < d.size) (hc : c < d.size) (hs : Sw w s x) (hx : 0 ≤ x ∧ x ≤ 997) (hsz : d.size ≤ 1000000) (hgs : s ≠ g) :
    Calls Try.prog 57 #[.slice (some ⟨g, 0, none⟩) d.size cap, .int .i64 a, .int .i64 b, .int .i64 c, .pointer (some ⟨s, 0, none⟩)] w (Med a b c s 3 x w) := by
  have hr : (some s : Option Nat) ≠ some g := fun e => hgs (Option.some.inj e)
  have CO : Hid (∀ (p q : Nat) (y : Int) W, p < d.size → q < d.size → HU W g d → Sw W s y → 0 ≤ y ∧ y ≤ 1000 → Calls Try.prog 59 #[.slice (some ⟨g, 0, none⟩) d.size cap, .int .i64 p, .int .i64 q, .pointer (some ⟨s, 0, none⟩)] W (Ord2 p q s y W)) := fun p q y W h1 h2 h3 h4 h5 => order2_u64 g cap p q s y d W h3 h1 h2 h4 h5 hsz
  have HH := Lib.hid hH
  have HS := Lib.hid hs
  clear hH hs
  go_enter Try.func57, Try.ntmps57
  go_wp2_with (go_at_call 59; refine (CO.out a b x _ ha hb HH.out HS.out (by omega)).mono ?_)
  rintro e w1 ⟨p1, q1, y1, hpq1, rfl, hs1, hy1, hg1⟩
  have HH1 := Lib.hid (HH.out.grown hg1 hr)
  have HS1 := Lib.hid hs1
  have HG1 := Lib.hid hg1
  have HP1 := Lib.hid hpq1
  clear hs1 hg1 hpq1
  go_wp2_with (go_at_call 59; refine (CO.out q1 c y1 _ (by rcases HP1.out with h | h <;> omega) hc HH1.out HS1.out (by omega)).mono ?_)
  rintro e w2 ⟨p2, q2, y2, hpq2, rfl, hs2, hy2, hg2⟩
  have HH2 := Lib.hid (HH1.out.grown hg2 hr)
  have HS2 := Lib.hid hs2
  have HG2 := Lib.hid (gtrans HG1.out hg2)
  have HP2 := Lib.hid hpq2
  clear hs2 hg2 hpq2
  go_wp2_with (go_at_call 59; refine (CO.out p1 p2 y2 _ (by rcases HP1.out with h | h <;> omega) (by rcases HP1.out with h | h <;> rcases HP2.out with h' | h' <;> omega) HH2.out HS2.out (by omega)).mono ?_)
  rintro e w3 ⟨p3, q3, y3, hpq3, rfl, hs3, hy3, hg3⟩
  have HS3 := Lib.hid hs3
  have HG3 := Lib.hid (gtrans HG2.out hg3)
  have HP3 := Lib.hid hpq3
  clear hs3 hg3 hpq3
  go_wp2
  go_ret
  refine ⟨q3, y3, ?_, rfl, HS3.out, ⟨by omega, by omega⟩, HG3.out⟩
  rcases HP1.out with h | h <;> rcases HP2.out with h' | h' <;> rcases HP3.out with h'' | h'' <;> omega
set_option maxHeartbeats 4000000 in
theorem adjacent_u64 (g cap a s : Nat) (x : Int) (d : Array Int) (w : World) (hH : HU w g d) (ha0 : 1 ≤ a) (ha : a + 1 < d.size) (hs : Sw w s x) (hx : 0 ≤ x ∧ x ≤ 997) (hsz : d.size ≤ 1000000) (hgs : s ≠ g) :
    Calls Try.prog 56 #[.slice (some ⟨g, 0, none⟩) d.size cap, .int .i64 a, .pointer (some ⟨s, 0, none⟩)] w (Med (a - 1) a (a + 1) s 3 x w) := by
  obtain ⟨k, rfl⟩ : ∃ k, a = k + 1 := ⟨a - 1, by omega⟩
  obtain ⟨m, hm⟩ : ∃ m, m = k + 1 := ⟨_, rfl⟩
  obtain ⟨m1, hm1⟩ : ∃ m1, m1 = k + 1 + 1 := ⟨_, rfl⟩
  have CM : Hid (∀ W, HU W g d → Sw W s x → Calls Try.prog 57 #[.slice (some ⟨g, 0, none⟩) d.size cap, .int .i64 k, .int .i64 m, .int .i64 m1, .pointer (some ⟨s, 0, none⟩)] W (Med k m m1 s 3 x W)) := fun W h1 h2 => median_u64 g cap k m m1 s x d W h1 (by omega) (by omega) (by omega) h2 hx hsz hgs
  rw [← hm1, ← hm, show m - 1 = k by omega]
  have e1 : (m : Int) - 1 = (k : Int) := by omega
  have e2 : (m : Int) + 1 = (m1 : Int) := by omega
  have hm0 : 1 ≤ (m : Int) := by omega
  have hmm : m ≤ 1000000 := by omega
  have HH := Lib.hid hH
  have HS := Lib.hid hs
  clear hH hs hm hm1 ha ha0
  go_enter Try.func56, Try.ntmps56
  go_wp2_with (go_at_call 57; refine (CM.out _ HH.out HS.out).mono ?_)
  rintro e w1 ⟨p, y, hp, rfl, hs1, hy, hg⟩
  have HP := Lib.hid hp
  have HS1 := Lib.hid hs1
  have HG := Lib.hid hg
  clear hp hs1 hg
  go_wp2
  go_ret
  exact ⟨p, y, HP.out, rfl, HS1.out, hy, HG.out⟩

/-- A place in [a, b), and a hint. -/
def Piv (a b : Nat) (w : World) (e : Ending) (w' : World) : Prop := ∃ (p : Nat) (h : Int), (a ≤ p ∧ p < b) ∧ (h = 0 ∨ h = 1 ∨ h = 2) ∧ e = .returned (.tuple #[.int .i64 p, .int .i64 h]) ∧ Below w.heap.size w w'
theorem below_of_grown {w W : World} (h : (w.alloc (.cells #[.int .i64 0] 3)).grownBy W (some w.heap.size)) : Below w.heap.size w W :=
  (balloc (Below.refl _ _) _).grown h (by simp) (fun k hk => by cases hk; exact Nat.le_refl _)
set_option maxHeartbeats 8000000 in
theorem pivot_u64 (g cap a b : Nat) (d : Array Int) (w : World) (hH : HU w g d) (hab : a + 12 < b) (hb : b ≤ d.size) (hsz : d.size ≤ 1000000) :
    Calls Try.prog 45 #[.slice (some ⟨g, 0, none⟩) d.size cap, .int .i64 a, .int .i64 b] w (Piv a b w) := by
  have hg : g < w.heap.size := hH.lt (by omega)
  obtain ⟨l, hl⟩ : ∃ l, l = b - a := ⟨_, rfl⟩
  obtain ⟨q, hq⟩ : ∃ q, q = l / 4 := ⟨_, rfl⟩
  obtain ⟨i, hi⟩ : ∃ i, i = a + q := ⟨_, rfl⟩
  obtain ⟨j, hj⟩ : ∃ j, j = a + q * 2 := ⟨_, rfl⟩
  obtain ⟨k, hk⟩ : ∃ k, k = a + q * 3 := ⟨_, rfl⟩
  have hgs : w.heap.size ≠ g := by omega
  have hr : (some w.heap.size : Option Nat) ≠ some g := fun e => hgs (Option.some.inj e)
  have HSw : Hid (Sw (w.alloc (.cells #[.int .i64 0] 3)) w.heap.size 0) := ⟨by go_simp, by go_simp⟩
  have HHa := Lib.hid (hH.below (balloc (Below.refl w.heap.size w) (.cells #[.int .i64 0] 3)))
  have CA : Hid (∀ (p : Nat) (y : Int) W, 1 ≤ p → p + 1 < d.size → HU W g d → Sw W w.heap.size y → 0 ≤ y ∧ y ≤ 997 → Calls Try.prog 56 #[.slice (some ⟨g, 0, none⟩) d.size cap, .int .i64 p, .pointer (some ⟨w.heap.size, 0, none⟩)] W (Med (p - 1) p (p + 1) w.heap.size 3 y W)) := fun p y W h1 h2 h3 h4 h5 => adjacent_u64 g cap p w.heap.size y d W h3 h1 h2 h4 h5 hsz hgs
  have CM : Hid (∀ (p q r : Nat) (y : Int) W, p < d.size → q < d.size → r < d.size → HU W g d → Sw W w.heap.size y → 0 ≤ y ∧ y ≤ 997 → Calls Try.prog 57 #[.slice (some ⟨g, 0, none⟩) d.size cap, .int .i64 p, .int .i64 q, .int .i64 r, .pointer (some ⟨w.heap.size, 0, none⟩)] W (Med p q r w.heap.size 3 y W)) := fun p q r y W h1 h2 h3 h4 h5 h6 => median_u64 g cap p q r w.heap.size y d W h4 h1 h2 h3 h5 h6 hsz hgs
  have hB : Hid (a + 3 ≤ i ∧ i + 3 ≤ j ∧ j + 3 ≤ k ∧ k + 3 ≤ b) := by show _ ∧ _; omega
  have e1 : (b : Int) - (a : Int) = (l : Int) := by omega
  have e2 : (l : Int) / 4 = (q : Int) := by omega
  have e3 : (a : Int) + (q : Int) = (i : Int) := by omega
  have e4 : (a : Int) + (q : Int) * 2 = (j : Int) := by omega
  have e5 : (a : Int) + (q : Int) * 3 = (k : Int) := by omega
  have g1 : a ≤ 1000000 := by omega
  have g2 : b ≤ 1000000 := by omega
  have g3 : l ≤ 1000000 := by omega
  have g4 : q ≤ 1000000 := by omega
  have g5 : i ≤ 1000000 := by omega
  have g6 : j ≤ 1000000 := by omega
  have g7 : k ≤ 1000000 := by omega
  have g8 : 8 ≤ l := by omega
  clear hl hq hi hj hk hH
  by_cases h50 : 50 ≤ l
  · go_enter Try.func45, Try.ntmps45
    go_wp2_with (go_at_call 56; refine (CA.out i 0 _ (by have := hB.out; omega) (by have := hB.out; omega) HHa.out HSw.out (by omega)).mono ?_)
    rintro e w1 ⟨p1, y1, hp1, rfl, hs1, hy1, hg1⟩
    have HP1 := Lib.hid hp1
    have HS1 := Lib.hid hs1
    have HH1 := Lib.hid (HHa.out.grown hg1 hr)
    have HG1 := Lib.hid hg1
    clear hp1 hs1 hg1
    go_wp2_with (go_at_call 56; refine (CA.out j y1 _ (by have := hB.out; omega) (by have := hB.out; omega) HH1.out HS1.out (by omega)).mono ?_)
    rintro e w2 ⟨p2, y2, hp2, rfl, hs2, hy2, hg2⟩
    have HP2 := Lib.hid hp2
    have HS2 := Lib.hid hs2
    have HH2 := Lib.hid (HH1.out.grown hg2 hr)
    have HG2 := Lib.hid (gtrans HG1.out hg2)
    clear hp2 hs2 hg2
    go_wp2_with (go_at_call 56; refine (CA.out k y2 _ (by have := hB.out; omega) (by have := hB.out; omega) HH2.out HS2.out (by omega)).mono ?_)
    rintro e w3 ⟨p3, y3, hp3, rfl, hs3, hy3, hg3⟩
    have HP3 := Lib.hid hp3
    have HS3 := Lib.hid hs3
    have HH3 := Lib.hid (HH2.out.grown hg3 hr)
    have HG3 := Lib.hid (gtrans HG2.out hg3)
    clear hp3 hs3 hg3
    go_wp2_with (go_at_call 57; refine (CM.out p1 p2 p3 y3 _ (by have := hB.out; have := HP1.out; omega) (by have := hB.out; have := HP2.out; omega) (by have := hB.out; have := HP3.out; omega) HH3.out HS3.out (by omega)).mono ?_)
    rintro e w4 ⟨p4, y4, hp4, rfl, hs4, hy4, hg4⟩
    have HR : Hid (a ≤ p4 ∧ p4 < b) := by show _ ∧ _; have := hB.out; have := HP1.out; have := HP2.out; have := HP3.out; omega
    have HG4 := Lib.hid (gtrans HG3.out hg4)
    have hsc := hs4.1
    clear hp4 hs4 hg4
    have HB : Hid (Below w.heap.size w w4) := below_of_grown HG4.out
    cases h0 : (y4 == 0)
    · cases h12 : (y4 == 12)
      · go_wp2
        go_ret2
        exact ⟨p4, 0, HR.out, .inl rfl, rfl, HB.out⟩
      · go_wp2
        go_ret2
        exact ⟨p4, 2, HR.out, .inr (.inr rfl), rfl, HB.out⟩
    · go_wp2
      go_ret2
      exact ⟨p4, 1, HR.out, .inr (.inl rfl), rfl, HB.out⟩
  · go_enter Try.func45, Try.ntmps45
    go_wp2_with (go_at_call 57; refine (CM.out i j k 0 _ (by have := hB.out; omega) (by have := hB.out; omega) (by have := hB.out; omega) HHa.out HSw.out (by omega)).mono ?_)
    rintro e w4 ⟨p4, y4, hp4, rfl, hs4, hy4, hg4⟩
    have HR : Hid (a ≤ p4 ∧ p4 < b) := by show _ ∧ _; have := hB.out; omega
    have HG4 := Lib.hid hg4
    have hsc := hs4.1
    clear hp4 hs4 hg4
    have HB : Hid (Below w.heap.size w w4) := below_of_grown HG4.out
    cases h0 : (y4 == 0)
    · cases h12 : (y4 == 12)
      · go_wp2
        go_ret2
        exact ⟨p4, 0, HR.out, .inl rfl, rfl, HB.out⟩
      · go_wp2
        go_ret2
        exact ⟨p4, 2, HR.out, .inr (.inr rfl), rfl, HB.out⟩
    · go_wp2
      go_ret2
      exact ⟨p4, 1, HR.out, .inr (.inl rfl), rfl, HB.out⟩
end Go.Proofs.Ytinjeoohklabpaa
