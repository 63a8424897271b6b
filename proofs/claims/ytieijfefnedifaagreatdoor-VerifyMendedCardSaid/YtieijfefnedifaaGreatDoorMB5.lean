/- Out of the texts of spans: SS ST SU SX SZ SY T0 T1. -/
import Derived.Test.YtieijfefnedifaaGreatDoorMB4
import Derived.Shelf.Spec.TrailingZeros
namespace Go.Proofs.YtieijfefnedifaaGreatDoor
open Go.RowKit
set_option linter.unusedVariables false
set_option linter.unusedSimpArgs false

def Enters (g : Nat) : Prop := ∀ (args : Array Value) (w : World), (callFunc g args).run Tryz.prog w = .ok (.enter g args) w
def cmpI (x y : Int) : Int := if x < y then -1 else if y < x then 1 else 0
def posP (l : List SpanB) (key : SpanB → Int) (t : Int) : Nat := (l.takeWhile (fun s => decide (key s < t))).length
def foundP (l : List SpanB) (key : SpanB → Int) (t : Int) : Bool := match l[posP l key t]? with | some s => key s == t | none => false
theorem posP_of {l : List SpanB} {key : SpanB → Int} {t : Int} : ∀ {k : Nat}, k ≤ l.length → (∀ a, a < k → ∀ s, l[a]? = some s → key s < t) → (∀ s, l[k]? = some s → t ≤ key s) → posP l key t = k := by
  induction l with
  | nil =>
    intro k hk _ _
    have : k = 0 := by simpa using hk
    subst this
    rfl
  | cons x r ih =>
    intro k hk h1 h2
    unfold posP
    cases k with
    | zero =>
      have h3 := h2 x rfl
      have h4 : ¬ key x < t := by omega
      rw [List.takeWhile_cons]
      simp [h4]
    | succ j =>
      have hx := h1 0 (by omega) x rfl
      rw [List.takeWhile_cons]
      simp only [hx, decide_true, if_true, List.length_cons]
      congr 1
      exact ih (by simpa using hk) (fun a ha s hs => h1 (a + 1) (by omega) s (by simpa using hs)) (fun s hs => h2 s (by simpa using hs))
def Sorted (l : List SpanB) (key : SpanB → Int) : Prop := ∀ (a b : Nat) (x y : SpanB), a ≤ b → l[a]? = some x → l[b]? = some y → key x ≤ key y
theorem below_all {l : List SpanB} {key : SpanB → Int} {t : Int} {m : Nat} {s : SpanB} (hs : Sorted l key) (hm : l[m]? = some s) (h : key s < t) : ∀ a, a < m + 1 → ∀ x, l[a]? = some x → key x < t :=
  fun a ha x hx => Int.lt_of_le_of_lt (hs a m x s (by omega) hx hm) h
theorem above_all {l : List SpanB} {key : SpanB → Int} {t : Int} {m : Nat} {s : SpanB} (hs : Sorted l key) (hm : l[m]? = some s) (h : t ≤ key s) : ∀ a, m ≤ a → ∀ x, l[a]? = some x → t ≤ key x :=
  fun a ha x hx => Int.le_trans h (hs m a s x ha hm hx)

set_option maxRecDepth 100000 in
set_option maxHeartbeats 8000000 in
theorem search54 (vs : List SpanV) (l : List SpanB) (A : Option Addr) (c : Nat) (g : Nat) (caps : Array Value) (key : SpanB → Int) (t : Int) (w : World) (h : RdL w A vs l) (hn : l.length ≤ 256) (hg : Enters g) (hso : Sorted l key)
    (hf : ∀ (i : Nat) v s, vs[i]? = some v → l[i]? = some s → ∀ w', Below w.heap.size w w' → Calls Tryz.prog g (#[v.v, .int .i64 t] ++ caps) w' (Ret (.int .i64 (cmpI (key s) t)) w')) :
    Calls Tryz.prog 101 #[.slice A l.length c, .int .i64 t, .func (.func g) #[] caps] w (Ret (.tuple #[.int .i64 (posP l key t), .bool (foundP l key t)]) w) := by
  unfold Enters at hg
  have H := Lib.hid h
  have HSO := Lib.hid hso
  have HF := Lib.hid hf
  clear h hso hf
  go_enter Tryz.func101, Tryz.ntmps101
  go_wp2
  obtain ⟨wo, hwo⟩ : ∃ wo : World, wo = w := ⟨w, rfl⟩
  go_loopw [9, 10] (fun v9 v10 wr => ∃ i j : Nat, i ≤ j ∧ j ≤ l.length ∧ v9 = .int .i64 i ∧ v10 = .int .i64 j ∧ Hid (∀ a, a < i → ∀ s, l[a]? = some s → key s < t) ∧ Hid (∀ a, j ≤ a → ∀ s, l[a]? = some s → t ≤ key s) ∧ Hid (Below w.heap.size w wr)) (fun v9 v10 _ => (intOf v10).toNat - (intOf v9).toNat)
  case atStart => exact ⟨0, l.length, Nat.zero_le _, Nat.le_refl _, rfl, rfl, fun a ha => by omega, fun a ha s hs => by have := (List.getElem?_eq_some_iff.1 hs).1; omega, Below.refl _ _⟩
  case round =>
    obtain ⟨i, j, hij, hj, rfl, rfl, HLo, HHi, HBr⟩ := hrel
    by_cases hlt : i < j
    · obtain ⟨m, hm⟩ : ∃ m : Nat, m = (i + j) / 2 := ⟨_, rfl⟩
      have hmi : i ≤ m := by omega
      have hmj : m < j := by omega
      have hq : ((i : Int) + (j : Int)) / 2 = (m : Int) := by omega
      have hml : m < l.length := by omega
      have hs : l[m]? = some l[m] := List.getElem?_eq_getElem hml
      generalize l[m] = s at hs
      obtain ⟨v, bk, o, hv, hR, hA, hbk, c0, c1, c2, c3, c4, c5, c6, c7⟩ := H.out.at_ hs
      replace c0 := cell_later HBr.out c0
      replace c1 := cell_later HBr.out c1
      replace c2 := cell_later HBr.out c2
      replace c3 := cell_later HBr.out c3
      replace c4 := cell_later HBr.out c4
      replace c5 := cell_later HBr.out c5
      replace c6 := cell_later HBr.out c6
      replace c7 := cell_later HBr.out c7
      have HC := Lib.hid (HF.out m v s hv hs wr HBr.out)
      subst hA
      obtain ⟨f, p, z, ⟨n, A1, m1, ca⟩, ⟨n', A2, m', cb⟩, sw⟩ := v
      unfold SpanV.v at HC
      simp only [List.append_toArray, Array.append, List.cons_append, List.nil_append] at c0 c1 c2 c3 c4 c5 c6 c7 HC
      have HSS := Lib.hid hs
      clear hv hs hR hm
      by_cases hk : key s < t
      · have EC : Hid (cmpI (key s) t = -1) := by show _ = _; unfold cmpI; rw [if_pos hk]
        have HK := Lib.hid hk
        rw [EC.out] at HC
        clear hk
        go_wp2_with fail
        refine HC.out.mono ?_
        rintro e w1 ⟨rfl, hb1⟩
        have HB1 := Lib.hid (bthen HBr.out hb1)
        clear hb1
        go_wp2
        go_roundw
        case rel => exact ⟨m + 1, j, by omega, hj, by go_num, rfl, below_all HSO.out HSS.out HK.out, HHi.out, HB1.out⟩
        case measure => simp [intOf]; omega
      · have HK : Hid (t ≤ key s) := by show _ ≤ _; omega
        have hc : cmpI (key s) t = 0 ∨ cmpI (key s) t = 1 := by unfold cmpI; rw [if_neg hk]; split <;> simp
        clear hk
        rcases hc with hc | hc
        all_goals
          rw [hc] at HC
          clear hc
          go_wp2_with fail
          refine HC.out.mono ?_
          rintro e w1 ⟨rfl, hb1⟩
          have HB1 := Lib.hid (bthen HBr.out hb1)
          clear hb1
          go_wp2
          go_roundw
          case rel => exact ⟨i, m, hmi, by omega, rfl, rfl, HLo.out, above_all HSO.out HSS.out HK.out, HB1.out⟩
          case measure => simp [intOf]; omega
    · obtain rfl : i = j := by omega
      have EP : Hid (posP l key t = i) := posP_of hj HLo.out (fun s hs => HHi.out i (Nat.le_refl _) s hs)
      by_cases hil : i < l.length
      · have hs : l[i]? = some l[i] := List.getElem?_eq_getElem hil
        generalize l[i] = s at hs
        obtain ⟨v, bk, o, hv, hR, hA, hbk, c0, c1, c2, c3, c4, c5, c6, c7⟩ := H.out.at_ hs
        replace c0 := cell_later HBr.out c0
        replace c1 := cell_later HBr.out c1
        replace c2 := cell_later HBr.out c2
        replace c3 := cell_later HBr.out c3
        replace c4 := cell_later HBr.out c4
        replace c5 := cell_later HBr.out c5
        replace c6 := cell_later HBr.out c6
        replace c7 := cell_later HBr.out c7
        have HC := Lib.hid (HF.out i v s hv hs wr HBr.out)
        subst hA
        obtain ⟨f, p, z, ⟨n, A1, m1, ca⟩, ⟨n', A2, m', cb⟩, sw⟩ := v
        unfold SpanV.v at HC
        simp only at c0 c1 c2 c3 c4 c5 c6 c7 HC
        have EF : Hid (foundP l key t = (key s == t)) := by show _ = _; unfold foundP; rw [EP.out, hs]
        have hk : ¬ key s < t := by have := HHi.out i (Nat.le_refl _) s hs; omega
        clear hv hs hR
        by_cases hk2 : t < key s
        · have EF : Hid (foundP l key t = false) := by show _ = _; rw [EF.out, beq_eq_false_iff_ne]; omega
          rw [show cmpI (key s) t = 1 from by unfold cmpI; rw [if_neg hk, if_pos hk2]] at HC
          clear hk hk2
          go_wp2_with fail
          refine HC.out.mono ?_
          rintro e w1 ⟨rfl, hb1⟩
          have HB1 := Lib.hid (bthen HBr.out hb1)
          clear hb1
          go_wp2
          go_ret2
          rw [EP.out, EF.out]
          exact ⟨rfl, HB1.out⟩
        · have EF : Hid (foundP l key t = true) := by show _ = _; rw [EF.out, beq_iff_eq]; omega
          rw [show cmpI (key s) t = 0 from by unfold cmpI; rw [if_neg hk, if_neg hk2]] at HC
          clear hk hk2
          go_wp2_with fail
          refine HC.out.mono ?_
          rintro e w1 ⟨rfl, hb1⟩
          have HB1 := Lib.hid (bthen HBr.out hb1)
          clear hb1
          go_wp2
          go_ret2
          rw [EP.out, EF.out]
          exact ⟨rfl, HB1.out⟩
      · have EF : Hid (foundP l key t = false) := by show _ = _; unfold foundP; rw [EP.out, List.getElem?_eq_none (by omega)]
        go_wp2
        go_ret2
        rw [EP.out, EF.out]
        exact ⟨rfl, HBr.out⟩


theorem nan69 (x : Int) (w : World) : Calls Tryz.prog 116 #[.int .u64 x] w (Ret (.bool false) w) := by
  go_enter Tryz.func116, Tryz.ntmps116
  go_wp2
  go_ret
  exact ⟨by simp, Below.refl _ _⟩
set_option maxRecDepth 100000 in
set_option maxHeartbeats 8000000 in
theorem cmp49 (x y : Int) (w : World) : Calls Tryz.prog 107 #[.int .u64 x, .int .u64 y] w (Ret (.int .i64 (cmpI x y)) w) := by
  have hcs : x < y ∨ (¬ x < y ∧ y < x) ∨ x = y := by omega
  rcases hcs with h | ⟨h0, h⟩ | rfl
  · have E : Hid (cmpI x y = -1) := by show _ = _; unfold cmpI; rw [if_pos h]
    go_enter Tryz.func107, Tryz.ntmps107
    go_wp2_with fail
    refine (nan69 _ _).mono ?_
    rintro e w1 ⟨rfl, hb1⟩
    have HB1 := Lib.hid hb1
    clear hb1
    go_wp2_with fail
    refine (nan69 _ _).mono ?_
    rintro e w2 ⟨rfl, hb2⟩
    have HB2 := Lib.hid (bthen HB1.out hb2)
    clear hb2
    go_wp2
    go_ret
    rw [E.out]
    exact ⟨rfl, HB2.out⟩
  · have E : Hid (cmpI x y = 1) := by show _ = _; unfold cmpI; rw [if_neg h0, if_pos h]
    go_enter Tryz.func107, Tryz.ntmps107
    go_wp2_with fail
    refine (nan69 _ _).mono ?_
    rintro e w1 ⟨rfl, hb1⟩
    have HB1 := Lib.hid hb1
    clear hb1
    go_wp2_with fail
    refine (nan69 _ _).mono ?_
    rintro e w2 ⟨rfl, hb2⟩
    have HB2 := Lib.hid (bthen HB1.out hb2)
    clear hb2
    go_wp2
    go_ret
    rw [E.out]
    exact ⟨rfl, HB2.out⟩
  · have E : Hid (cmpI x x = 0) := by show _ = _; unfold cmpI; rw [if_neg (by omega), if_neg (by omega)]
    go_enter Tryz.func107, Tryz.ntmps107
    go_wp2_with fail
    refine (nan69 _ _).mono ?_
    rintro e w1 ⟨rfl, hb1⟩
    have HB1 := Lib.hid hb1
    clear hb1
    go_wp2_with fail
    refine (nan69 _ _).mono ?_
    rintro e w2 ⟨rfl, hb2⟩
    have HB2 := Lib.hid (bthen HB1.out hb2)
    clear hb2
    go_wp2
    go_ret
    rw [E.out]
    exact ⟨rfl, HB2.out⟩
theorem nan72 (x : Int) (w : World) : Calls Tryz.prog 113 #[.int .i64 x] w (Ret (.bool false) w) := by
  go_enter Tryz.func113, Tryz.ntmps113
  go_wp2
  go_ret
  exact ⟨by simp, Below.refl _ _⟩
set_option maxRecDepth 100000 in
set_option maxHeartbeats 8000000 in
theorem cmp56 (x y : Int) (w : World) : Calls Tryz.prog 103 #[.int .i64 x, .int .i64 y] w (Ret (.int .i64 (cmpI x y)) w) := by
  have hcs : x < y ∨ (¬ x < y ∧ y < x) ∨ x = y := by omega
  rcases hcs with h | ⟨h0, h⟩ | rfl
  · have E : Hid (cmpI x y = -1) := by show _ = _; unfold cmpI; rw [if_pos h]
    go_enter Tryz.func103, Tryz.ntmps103
    go_wp2_with fail
    refine (nan72 _ _).mono ?_
    rintro e w1 ⟨rfl, hb1⟩
    have HB1 := Lib.hid hb1
    clear hb1
    go_wp2_with fail
    refine (nan72 _ _).mono ?_
    rintro e w2 ⟨rfl, hb2⟩
    have HB2 := Lib.hid (bthen HB1.out hb2)
    clear hb2
    go_wp2
    go_ret
    rw [E.out]
    exact ⟨rfl, HB2.out⟩
  · have E : Hid (cmpI x y = 1) := by show _ = _; unfold cmpI; rw [if_neg h0, if_pos h]
    go_enter Tryz.func103, Tryz.ntmps103
    go_wp2_with fail
    refine (nan72 _ _).mono ?_
    rintro e w1 ⟨rfl, hb1⟩
    have HB1 := Lib.hid hb1
    clear hb1
    go_wp2_with fail
    refine (nan72 _ _).mono ?_
    rintro e w2 ⟨rfl, hb2⟩
    have HB2 := Lib.hid (bthen HB1.out hb2)
    clear hb2
    go_wp2
    go_ret
    rw [E.out]
    exact ⟨rfl, HB2.out⟩
  · have E : Hid (cmpI x x = 0) := by show _ = _; unfold cmpI; rw [if_neg (by omega), if_neg (by omega)]
    go_enter Tryz.func103, Tryz.ntmps103
    go_wp2_with fail
    refine (nan72 _ _).mono ?_
    rintro e w1 ⟨rfl, hb1⟩
    have HB1 := Lib.hid hb1
    clear hb1
    go_wp2_with fail
    refine (nan72 _ _).mono ?_
    rintro e w2 ⟨rfl, hb2⟩
    have HB2 := Lib.hid (bthen HB1.out hb2)
    clear hb2
    go_wp2
    go_ret
    rw [E.out]
    exact ⟨rfl, HB2.out⟩
theorem addCmp (v : SpanV) (t : Int) (w : World) : Calls Tryz.prog 102 #[v.v, .int .i64 t] w (Ret (.int .i64 (cmpI v.first t)) w) := by
  have C56 : Hid (∀ W, Calls Tryz.prog 103 #[.int .i64 v.first, .int .i64 t] W (Ret (.int .i64 (cmpI v.first t)) W)) := fun W => cmp56 _ _ W
  obtain ⟨f, p, z, ⟨n, A1, m1, ca⟩, ⟨n', A2, m', cb⟩, sw⟩ := v
  unfold SpanV.v
  simp only at C56 ⊢
  have HB0 : Hid (Below w.heap.size w (w.alloc (.cells #[.int .i64 f, .int .i64 p, .int .i64 z, .int .i64 n, .slice A1 m1 ca, .int .i64 n', .slice A2 m' cb, .bool sw] 44))) := balloc (Below.refl _ _) _
  go_enter Tryz.func102, Tryz.ntmps102
  go_wp2_with fail
  refine (C56.out _).mono ?_
  rintro e w1 ⟨rfl, hb1⟩
  have HB1 := Lib.hid (bthen HB0.out hb1)
  clear hb1
  go_wp2
  go_ret
  exact ⟨rfl, HB1.out⟩

theorem okL_len {l : List SpanB} (h : okL l = true) : l.length ≤ 256 := by
  unfold okL at h
  simp only [Bool.and_eq_true, decide_eq_true_eq] at h
  exact h.1
theorem okL_to {l : List SpanB} (h : okL l = true) : okTo l l.length = true := by
  unfold okL at h
  simp only [Bool.and_eq_true, decide_eq_true_eq] at h
  exact h.2
theorem okL_right {l : List SpanB} (h : okL l = true) {i : Nat} {s : SpanB} (hs : l[i]? = some s) : rightP s = true :=
  atOk_right hs (okTo_at (okL_to h) (List.getElem?_eq_some_iff.1 hs).1)
theorem okL_next {l : List SpanB} (h : okL l = true) {i : Nat} {p s : SpanB} (hp : l[i]? = some p) (hs : l[i + 1]? = some s) : endP p ≤ s.first := by
  have := okTo_at (okL_to h) (List.getElem?_eq_some_iff.1 hs).1
  rw [atOk_next hp hs] at this
  simp only [Bool.and_eq_true, decide_eq_true_eq] at this
  exact this.2
theorem right_less {s : SpanB} (h : rightP s = true) : s.first < endP s ∧ 0 ≤ s.first := by
  have hp := rightP_parts h
  have := shapedP_pages hp.1
  unfold endP
  omega
theorem okL_before {l : List SpanB} (h : okL l = true) : ∀ (d a : Nat) (x y : SpanB), l[a]? = some x → l[a + d + 1]? = some y → endP x ≤ y.first := by
  intro d
  induction d with
  | zero => exact fun a x y hx hy => okL_next h hx hy
  | succ d ih =>
    intro a x y hx hy
    have hl := (List.getElem?_eq_some_iff.1 hy).1
    have hz : l[a + d + 1]? = some (l[a + d + 1]'(by omega)) := List.getElem?_eq_getElem _
    have h1 := ih a x _ hx hz
    have h2 := okL_next h hz (show l[a + d + 1 + 1]? = some y from hy)
    have h3 := right_less (okL_right h hz)
    omega
theorem okL_lt {l : List SpanB} (h : okL l = true) {a b : Nat} {x y : SpanB} (hab : a < b) (hx : l[a]? = some x) (hy : l[b]? = some y) : endP x ≤ y.first :=
  okL_before h (b - a - 1) a x y hx (by rw [show a + (b - a - 1) + 1 = b from by omega]; exact hy)
theorem okL_sorted {l : List SpanB} (h : okL l = true) : Sorted l (fun s => s.first) := by
  intro a b x y hab hx hy
  rcases Nat.lt_or_ge a b with hlt | hge
  · have h1 := okL_lt h hlt hx hy
    have h2 := right_less (okL_right h hx)
    show x.first ≤ y.first
    omega
  · obtain rfl : a = b := by omega
    rw [hx] at hy
    cases hy
    exact Int.le_refl _
theorem okL_sorted16 {l : List SpanB} (h : okL l = true) : Sorted l (fun s => s.first * 16) := by
  intro a b x y hab hx hy
  have := okL_sorted h a b x y hab hx hy
  show x.first * 16 ≤ y.first * 16
  have h3 : x.first ≤ y.first := this
  omega
/-- Of the span into which an address may lead: which slot, how far in. -/
def slotP (z off : Int) : Int := if 0 < z then off / z else 0
def restP (z off : Int) : Int := if 0 < z then off % z else off
def idxF (l : List SpanB) (x : Int) : Int := if foundP l (fun s => s.first * 16) x then (posP l (fun s => s.first * 16) x : Int) else (posP l (fun s => s.first * 16) x : Int) - 1
structure Fd where
  i : Int
  k : Int
  e : Int
deriving DecidableEq
def findIn (i : Int) (s : SpanB) (x : Int) : Fd :=
  if endP s * 16 ≤ x then ⟨0, 0, 3⟩ else if restP s.size (x - s.first * 16) = 0 ∧ bitP s.al (slotP s.size (x - s.first * 16)).toNat = true then ⟨i, slotP s.size (x - s.first * 16), 0⟩ else ⟨0, 0, 10⟩
def findOn (o : Option SpanB) (i x : Int) : Fd := match o with | some s => findIn i s x | none => ⟨0, 0, 3⟩
def findP (l : List SpanB) (x : Int) : Fd := if okL l = true then (if idxF l x < 0 then ⟨0, 0, 3⟩ else findOn l[(idxF l x).toNat]? (idxF l x) x) else ⟨0, 0, 2⟩
theorem posP_le (l : List SpanB) (key : SpanB → Int) (t : Int) : posP l key t ≤ l.length := by
  unfold posP
  induction l with
  | nil => simp
  | cons x r ih =>
    rw [List.takeWhile_cons]
    split
    · exact Nat.succ_le_succ ih
    · simp
theorem posP_less {l : List SpanB} {key : SpanB → Int} {t : Int} : ∀ {a : Nat}, a < posP l key t → ∀ s, l[a]? = some s → key s < t := by
  induction l with
  | nil => intro a ha; simp [posP] at ha
  | cons x r ih =>
    intro a ha s hs
    unfold posP at ha
    rw [List.takeWhile_cons] at ha
    by_cases hx : key x < t
    · simp only [hx, decide_true, if_true, List.length_cons] at ha
      cases a with
      | zero => simp at hs; subst hs; exact hx
      | succ a => exact ih (a := a) (by unfold posP; exact Nat.lt_of_succ_lt_succ ha) s (by simpa using hs)
    · simp [hx] at ha
theorem found_lt {l : List SpanB} {key : SpanB → Int} {t : Int} (h : foundP l key t = true) : ∃ s, l[posP l key t]? = some s ∧ key s = t := by
  unfold foundP at h
  split at h
  · rename_i s hs
    exact ⟨s, hs, by simpa using h⟩
  · cases h
/-- The span at the index begins no later than the address. -/
theorem idxF_at {l : List SpanB} {x : Int} {s : SpanB} (h0 : 0 ≤ idxF l x) (hs : l[(idxF l x).toNat]? = some s) : s.first * 16 ≤ x := by
  unfold idxF at h0 hs
  cases hf : foundP l (fun s => s.first * 16) x
  · rw [hf] at h0 hs
    simp only [Bool.false_eq_true, if_false] at h0 hs
    have := posP_less (l := l) (key := fun s => s.first * 16) (t := x) (a := ((posP l (fun s => s.first * 16) x : Int) - 1).toNat) (by omega) s hs
    have h3 : s.first * 16 < x := this
    omega
  · obtain ⟨s', h1, h2⟩ := found_lt hf
    rw [hf] at hs
    simp only [if_true, Int.toNat_natCast] at hs
    rw [h1] at hs
    cases hs
    have h3 : s.first * 16 = x := h2
    omega
theorem idxF_lt {l : List SpanB} {x : Int} (h0 : 0 ≤ idxF l x) : (idxF l x).toNat < l.length := by
  have h := posP_le l (fun s => s.first * 16) x
  unfold idxF at h0 ⊢
  cases hf : foundP l (fun s => s.first * 16) x
  · rw [hf] at h0
    simp only [Bool.false_eq_true, if_false] at h0 ⊢
    omega
  · obtain ⟨s', h1, h2⟩ := found_lt hf
    simp only [if_true, Int.toNat_natCast]
    exact (List.getElem?_eq_some_iff.1 h1).1


/-- The library's table, where it lies. -/
def Tab (w : World) : Prop := 0 < w.heap.size ∧ TabAt 0 Lib.deBruijn64tab w
theorem Tab.below {w w1 : World} (h : Tab w) (hb : Below w.heap.size w w1) : Tab w1 :=
  ⟨Nat.lt_of_lt_of_le h.1 hb.size, fun j hj => cell_later hb (h.2 j hj)⟩
set_option maxHeartbeats 1000000 in
theorem tz76_core (x k idx : Nat) (w : World) (hx0 : ((x : Int) == 0) = false)
    (key : IntKind.u64.wrap (Go.bits BinOp.and IntKind.u64 (x : Int) (IntKind.u64.wrap (-(x : Int))) * 285870213051353865) / 288230376151711744 = (idx : Int))
    (hi : idx < 64) (hk : k < 64) (hcell : w.cell? ⟨0, idx, none⟩ = some (.int .u8 k)) :
    Calls Tryz.prog 110 #[.int .u64 x] w (Ret (.int .i64 k) w) := by
  go_enter Tryz.func110, Tryz.ntmps110
  go_wp2_with (simp only [key])
  go_ret
  exact ⟨rfl, Below.refl _ _⟩
theorem tz76 (x : Nat) (hx : x < 18446744073709551616) (w : World) (hT : Tab w) : Calls Tryz.prog 110 #[.int .u64 x] w (Ret (.int .i64 (Lib.ctz 64 x)) w) := by
  by_cases hx0 : x = 0
  · subst hx0
    go_enter Tryz.func110, Tryz.ntmps110
    go_wp2
    go_ret
    exact ⟨rfl, Below.refl _ _⟩
  · obtain ⟨hlow, hk⟩ := Lib.lowest_bit 64 x hx0 hx
    obtain ⟨hi, htab⟩ := Lib.deBruijn64_at _ hk
    have hcell := hT.2 _ hi
    rw [htab] at hcell
    exact tz76_core x _ _ w (by simp; omega) (tz64_key x _ hx hx0 hlow) hi hk hcell


theorem p64 : (2 : Nat) ^ 64 = 18446744073709551616 := by decide
def notW (x : Int) : Int := Go.bits .xor .u64 (if IntKind.u64.signed = true then -1 else IntKind.u64.max) x
def maskW (k : Nat) : Int := IntKind.u64.wrap (18446744073709551615 * 2 ^ k)
def wordF (x : Int) (t at_ : Bool) (k : Nat) : Int := match t, at_ with
  | true, true => Go.bits .and .u64 x (maskW k)
  | true, false => x
  | false, true => Go.bits .and .u64 (notW x) (maskW k)
  | false, false => notW x
theorem u64_wrap (n : Int) : IntKind.u64.wrap n = n % 18446744073709551616 := by simp [IntKind.wrap, IntKind.bits, IntKind.signed]
theorem notW_eq (x : Int) (h : 0 ≤ x ∧ x < 18446744073709551616) : notW x = 18446744073709551615 - x := by
  obtain ⟨n, rfl⟩ := Int.eq_ofNat_of_zero_le h.1
  have hn : n < 18446744073709551616 := by omega
  show IntKind.u64.wrap (((BitVec.ofInt 64 (IntKind.u64.max)) ^^^ (BitVec.ofInt 64 (n : Int))).toNat : Int) = _
  have e1 : BitVec.ofInt 64 (IntKind.u64.max) = BitVec.allOnes 64 := by decide +kernel
  have e2 : BitVec.ofInt 64 (n : Int) = BitVec.ofNat 64 n := by rw [BitVec.ofInt_natCast]
  rw [e1, e2, BitVec.allOnes_xor, BitVec.toNat_not, BitVec.toNat_ofNat, p64, Nat.mod_eq_of_lt hn, u64_wrap]
  omega
theorem notW_bit (x : Int) (h : 0 ≤ x ∧ x < 18446744073709551616) (j : Nat) (hj : j < 64) : (notW x).toNat.testBit j = !x.toNat.testBit j := by
  rw [notW_eq x h]
  obtain ⟨n, rfl⟩ := Int.eq_ofNat_of_zero_le h.1
  have e : (18446744073709551615 - (n : Int)).toNat = 2 ^ 64 - (n + 1) := by rw [p64]; omega
  rw [e, Nat.testBit_two_pow_sub_succ (by rw [p64]; omega)]
  simp [hj]
theorem maskW_nat (k : Nat) (hk : k < 64) : (maskW k).toNat = 2 ^ 64 - 2 ^ k ∧ 0 ≤ maskW k ∧ maskW k < 18446744073709551616 := by
  have hp : 2 ^ k < 2 ^ 64 := Nat.pow_lt_pow_right (by decide) hk
  have hp0 : 0 < 2 ^ k := Nat.pow_pos (by decide)
  rw [p64] at hp
  have e : (18446744073709551615 * 2 ^ k : Int) = ((18446744073709551615 * 2 ^ k : Nat) : Int) := by rw [Int.natCast_mul, Int.natCast_pow]; rfl
  have e3 : (18446744073709551615 * 2 ^ k : Nat) % 18446744073709551616 = 18446744073709551616 - 2 ^ k := by
    have : 18446744073709551615 * 2 ^ k = (18446744073709551616 - 2 ^ k) + 18446744073709551616 * (2 ^ k - 1) := by omega
    rw [this, Nat.add_mul_mod_self_left, Nat.mod_eq_of_lt (by omega)]
  have e2 : maskW k = ((18446744073709551616 - 2 ^ k : Nat) : Int) := by
    unfold maskW
    rw [u64_wrap, e, ← e3]
    rfl
  rw [e2, p64]
  omega
theorem maskW_bit (k j : Nat) (hk : k < 64) (hj : j < 64) : (maskW k).toNat.testBit j = decide (k ≤ j) := by
  rw [(maskW_nat k hk).1]
  have e : 2 ^ 64 - 2 ^ k = 2 ^ 64 - ((2 ^ k - 1) + 1) := by have := Nat.pow_pos (n := k) (show 0 < 2 by decide); omega
  rw [e, Nat.testBit_two_pow_sub_succ (by have := Nat.pow_lt_pow_right (a := 2) (by decide) hk; omega), Nat.testBit_two_pow_sub_one]
  by_cases h : k ≤ j
  · simp [hj, h]
  · simp [hj, h]; omega
theorem and_bit (x y : Int) (hx : 0 ≤ x ∧ x < 18446744073709551616) (hy : 0 ≤ y ∧ y < 18446744073709551616) (j : Nat) : (Go.bits .and .u64 x y).toNat.testBit j = (x.toNat.testBit j && y.toNat.testBit j) := by
  rw [u64_and x y hx hy, Int.toNat_natCast, Nat.testBit_and]
theorem and_range (x y : Int) (hx : 0 ≤ x ∧ x < 18446744073709551616) (hy : 0 ≤ y ∧ y < 18446744073709551616) : 0 ≤ Go.bits .and .u64 x y ∧ Go.bits .and .u64 x y < 18446744073709551616 := by
  rw [u64_and x y hx hy]
  have : x.toNat &&& y.toNat ≤ x.toNat := Nat.and_le_left
  omega
theorem wordF_range (x : Int) (t a : Bool) (k : Nat) (h : 0 ≤ x ∧ x < 18446744073709551616) (hk : k < 64) : 0 ≤ wordF x t a k ∧ wordF x t a k < 18446744073709551616 := by
  have hm := (maskW_nat k hk).2
  have hn : 0 ≤ notW x ∧ notW x < 18446744073709551616 := by rw [notW_eq x h]; omega
  cases t <;> cases a
  · exact hn
  · exact and_range _ _ hn hm
  · exact h
  · exact and_range _ _ h hm
theorem wordF_bit (x : Int) (t a : Bool) (k : Nat) (h : 0 ≤ x ∧ x < 18446744073709551616) (hk : k < 64) (j : Nat) (hj : j < 64) : (wordF x t a k).toNat.testBit j = ((x.toNat.testBit j == t) && (!a || decide (k ≤ j))) := by
  have hm := (maskW_nat k hk).2
  have hn : 0 ≤ notW x ∧ notW x < 18446744073709551616 := by rw [notW_eq x h]; omega
  cases t <;> cases a <;> unfold wordF <;> simp only
  · rw [notW_bit x h j hj]; simp
  · rw [and_bit _ _ hn hm, notW_bit x h j hj, maskW_bit k j hk hj]; simp
  · simp
  · rw [and_bit _ _ h hm, maskW_bit k j hk hj]; simp
theorem ctz_bit (y : Nat) (h0 : y ≠ 0) (h : y < 18446744073709551616) : Lib.ctz 64 y < 64 ∧ y.testBit (Lib.ctz 64 y) = true ∧ ∀ j, j < Lib.ctz 64 y → y.testBit j = false := by
  obtain ⟨m, hm, hk⟩ := Lib.ctzFrom_spec 64 y (by omega) (by rw [p64]; exact h)
  have e : Lib.ctz 64 y = Lib.ctzFrom 64 y := by simp [Lib.ctz, h0]
  rw [e]
  generalize Lib.ctzFrom 64 y = k at *
  subst hm
  refine ⟨hk, ?_, fun j hj => ?_⟩
  · rw [Nat.testBit_two_pow_mul]
    simp
  · rw [Nat.testBit_two_pow_mul]
    simp
    omega
/-! ### Of a list of bits -/
def firstN (B : BitB) (f : Nat) (t : Bool) : Nat := ((List.range' f (B.n.toNat - f)).find? (fun i => bitP B i == t)).getD B.n.toNat
theorem firstN_of {B : BitB} {f p : Nat} {t : Bool} (hf : f ≤ p) (hno : ∀ j, f ≤ j → j < p → j < B.n.toNat → bitP B j ≠ t) (hp : p < B.n.toNat → bitP B p = t) (hfn : f ≤ B.n.toNat) : firstN B f t = min B.n.toNat p := by
  unfold firstN
  by_cases hpn : p < B.n.toNat
  · have e : (List.range' f (B.n.toNat - f)).find? (fun i => bitP B i == t) = some p := by
      rw [List.find?_range'_eq_some]
      refine ⟨by simpa using hp hpn, by simp; omega, fun j h1 h2 => ?_⟩
      have := hno j h1 h2 (by omega)
      simpa using this
    rw [e]
    simp
    omega
  · have e : (List.range' f (B.n.toNat - f)).find? (fun i => bitP B i == t) = none := by
      rw [List.find?_eq_none]
      intro j hj
      rw [List.mem_range'_1] at hj
      have := hno j hj.1 (by omega) (by omega)
      simpa using this
    rw [e]
    simp
    omega
theorem bitP_at {B : BitB} {i j : Nat} {x : Int} (hx : B.w[i]? = some x) (hj : j < 64) : bitP B (64 * i + j) = x.toNat.testBit j := by
  unfold bitP
  rw [show (64 * i + j) / 64 = i from by omega, hx, show (64 * i + j) % 64 = j from by omega]
theorem none_next {B : BitB} {i f : Nat} {t : Bool} {x : Int} (hx : B.w[i]? = some x) (hxw : 0 ≤ x ∧ x < 18446744073709551616) (hfi : f / 64 ≤ i) (h0 : wordF x t (decide (i = f / 64)) (f % 64) = 0)
    (hno : ∀ j, f ≤ j → j < 64 * i → bitP B j ≠ t) : ∀ j, f ≤ j → j < 64 * (i + 1) → bitP B j ≠ t := by
  intro j h1 h2
  by_cases hj : j < 64 * i
  · exact hno j h1 hj
  · have hb := wordF_bit x t (decide (i = f / 64)) (f % 64) hxw (by omega) (j - 64 * i) (by omega)
    rw [h0] at hb
    have hz : (0 : Int).toNat.testBit (j - 64 * i) = false := Nat.zero_testBit _
    rw [hz] at hb
    have e := bitP_at hx (j := j - 64 * i) (by omega)
    rw [show 64 * i + (j - 64 * i) = j from by omega] at e
    have hg : (!(decide (i = f / 64)) || decide (f % 64 ≤ j - 64 * i)) = true := by
      by_cases hi : i = f / 64
      · simp [hi]; omega
      · simp [hi]
    rw [hg, Bool.and_true, ← e] at hb
    intro hh
    rw [hh] at hb
    simp at hb
theorem some_next {B : BitB} {i f : Nat} {t : Bool} {x : Int} (hx : B.w[i]? = some x) (hxw : 0 ≤ x ∧ x < 18446744073709551616) (hfi : f / 64 ≤ i) (h0 : wordF x t (decide (i = f / 64)) (f % 64) ≠ 0)
    (hno : ∀ j, f ≤ j → j < 64 * i → bitP B j ≠ t) (hfn : f ≤ B.n.toNat) : firstN B f t = min B.n.toNat (64 * i + Lib.ctz 64 (wordF x t (decide (i = f / 64)) (f % 64)).toNat) := by
  have hr := wordF_range x t (decide (i = f / 64)) (f % 64) hxw (by omega)
  obtain ⟨hk, h1, h2⟩ := ctz_bit (wordF x t (decide (i = f / 64)) (f % 64)).toNat (by omega) (by omega)
  have hbit := fun j hj => wordF_bit x t (decide (i = f / 64)) (f % 64) hxw (by omega) j hj
  generalize Lib.ctz 64 (wordF x t (decide (i = f / 64)) (f % 64)).toNat = k at *
  have hb := hbit k hk
  rw [h1] at hb
  have hb2 : (x.toNat.testBit k == t) = true ∧ (!(decide (i = f / 64)) || decide (f % 64 ≤ k)) = true := by
    rw [← Bool.and_eq_true]; exact hb.symm
  have hge : f ≤ 64 * i + k := by
    by_cases hi : i = f / 64
    · have := hb2.2
      simp [hi] at this
      omega
    · omega
  refine firstN_of hge (fun j h3 h4 _ => ?_) (fun _ => ?_) hfn
  · by_cases hj : j < 64 * i
    · exact hno j h3 hj
    · have hb3 := hbit (j - 64 * i) (by omega)
      rw [h2 (j - 64 * i) (by omega)] at hb3
      have e := bitP_at hx (j := j - 64 * i) (by omega)
      rw [show 64 * i + (j - 64 * i) = j from by omega] at e
      have hg : (!(decide (i = f / 64)) || decide (f % 64 ≤ j - 64 * i)) = true := by
        by_cases hi : i = f / 64
        · simp [hi]; omega
        · simp [hi]
      rw [hg, Bool.and_true, ← e] at hb3
      intro hh
      rw [hh] at hb3
      simp at hb3
  · rw [bitP_at hx hk]
    simpa using hb2.1
theorem none_all {B : BitB} {f : Nat} {t : Bool} {i : Nat} (hno : ∀ j, f ≤ j → j < 64 * i → bitP B j ≠ t) (hl : B.n.toNat ≤ 64 * i) (hfn : f ≤ B.n.toNat) : firstN B f t = B.n.toNat := by
  have := firstN_of (p := B.n.toNat) hfn (fun j h1 h2 _ => hno j h1 (by omega)) (fun h => absurd h (by omega)) hfn
  rw [this]
  omega


set_option maxRecDepth 100000 in
set_option maxHeartbeats 8000000 in
theorem first70 (b m c f : Nat) (A : Option Addr) (B : BitB) (t : Bool) (w : World) (hc0 : w.cell? ⟨b, 0, none⟩ = some (.int .i64 B.n)) (hc1 : w.cell? ⟨b, 1, none⟩ = some (.slice A m c)) (hr : RdU w A B.w) (hm : B.w.length = m)
    (hfn : f ≤ B.n.toNat) (hlen : B.n.toNat ≤ 64 * m) (hm64 : m ≤ 64) (hT : Tab w) (hn : 0 ≤ B.n ∧ B.n ≤ 4096) (hws : ∀ x ∈ B.w, 0 ≤ x ∧ x < 18446744073709551616) : Calls Tryz.prog 95 #[.pointer (some ⟨b, 0, none⟩), .int .i64 f, .bool t] w (Ret (.int .i64 (firstN B f t)) w) := by
  have HR := Lib.hid hr
  have hl := hr.len
  rw [hm] at hl
  have HM := Lib.hid hm
  have HT := Lib.hid hT
  have HW := Lib.hid hws
  have HC0 := Lib.hid hc0
  have HC1 := Lib.hid hc1
  have HN := Lib.hid hn
  have HFN := Lib.hid hfn
  have HLN := Lib.hid hlen
  have hf : f ≤ 4096 := by omega
  clear hr hm hT hws hc0 hc1 hn hlen hfn
  have hw1 : (f : Int).tdiv 64 = ((f / 64 : Nat) : Int) := by rw [Int.tdiv_eq_ediv_of_nonneg (by omega)]; omega
  go_enter Tryz.func95, Tryz.ntmps95
  go_wp2
  obtain ⟨wo, hwo⟩ : ∃ wo : World, wo = w := ⟨w, rfl⟩
  go_loopw [7] (fun v7 wr => ∃ i : Nat, v7 = .int .i64 i ∧ f / 64 ≤ i ∧ i ≤ 64 ∧ Hid (∀ j, f ≤ j → j < 64 * i → bitP B j ≠ t) ∧ Hid (Below w.heap.size w wr)) (fun v7 _ => m - (intOf v7).toNat)
  case atStart => exact ⟨f / 64, by go_num, Nat.le_refl _, by omega, fun j h1 h2 => by omega, Below.refl _ _⟩
  case round =>
    obtain ⟨i, rfl, hfi, him, HNO, HBr⟩ := hrel
    have c0 := cell_later HBr.out HC0.out
    have c1 := cell_later HBr.out HC1.out
    by_cases hlt : i < m
    · have hx : B.w[i]? = some (B.w[i]'(by have := HM.out; omega)) := List.getElem?_eq_getElem _
      generalize (B.w[i]'_) = x at hx
      obtain ⟨b1, o1, e1, _, cx⟩ := HR.out.at_ hx
      cases e1
      have cx := cell_later HBr.out cx
      have hxw := HW.out x (List.mem_of_getElem? hx)
      have HX := Lib.hid hx
      have HXW := Lib.hid hxw
      have HFI := Lib.hid hfi
      clear hx hxw
      cases t
      · by_cases he : i = f / 64
        · subst he
          clear hfi him
          have hlt2 : (f : Int) / 64 < (m : Int) := by omega
          by_cases hy : wordF x false true (f % 64) = 0
          · have hyb : ((Go.bits .and .u64 (Go.bits .xor .u64 (if IntKind.u64.signed = true then -1 else IntKind.u64.max) x) (IntKind.u64.wrap (18446744073709551615 * 2 ^ (f % 64)))) != 0) = false := by have : (Go.bits .and .u64 (Go.bits .xor .u64 (if IntKind.u64.signed = true then -1 else IntKind.u64.max) x) (IntKind.u64.wrap (18446744073709551615 * 2 ^ (f % 64)))) = 0 := hy; rw [this]; rfl
            have HNX := Lib.hid (none_next (t := false) HX.out HXW.out HFI.out (by rw [decide_eq_true (rfl : f / 64 = f / 64)]; exact hy) HNO.out)
            clear hy
            go_wp2
            go_roundw
            case rel => exact ⟨f / 64 + 1, by go_num, by omega, by omega, HNX.out, HBr.out⟩
            case measure => simp [intOf]; omega
          · have hyb : ((Go.bits .and .u64 (Go.bits .xor .u64 (if IntKind.u64.signed = true then -1 else IntKind.u64.max) x) (IntKind.u64.wrap (18446744073709551615 * 2 ^ (f % 64)))) != 0) = true := by rw [bne_iff_ne]; exact hy
            have EF := Lib.hid (some_next (t := false) HX.out HXW.out HFI.out (by rw [decide_eq_true (rfl : f / 64 = f / 64)]; exact hy) HNO.out HFN.out)
            rw [decide_eq_true (rfl : f / 64 = f / 64)] at EF
            have hrg := wordF_range x false true (f % 64) HXW.out (by omega)
            have C76 : Hid (∀ W, Below w.heap.size w W → Calls Tryz.prog 110 #[.int .u64 ((Go.bits .and .u64 (Go.bits .xor .u64 (if IntKind.u64.signed = true then -1 else IntKind.u64.max) x) (IntKind.u64.wrap (18446744073709551615 * 2 ^ (f % 64)))))] W (Ret (.int .i64 (Lib.ctz 64 (wordF x false true (f % 64)).toNat)) W)) := fun W hW => by
              have := tz76 (wordF x false true (f % 64)).toNat (by omega) W (HT.out.below hW)
              rw [show (((wordF x false true (f % 64)).toNat : Nat) : Int) = wordF x false true (f % 64) from by omega] at this
              exact this
            have hk64 := (ctz_bit (wordF x false true (f % 64)).toNat (by omega) (by omega)).1
            generalize Lib.ctz 64 (wordF x false true (f % 64)).toNat = k at *
            have HKN := Lib.hid hk64
            clear hy hrg hk64
            go_wp2
            have hw5 := wrap_in (x := (f : Int) / 64 * 64) (by omega)
            have hw6 := wrap_in (x := (f : Int) / 64 * 64 + (k : Int)) (by have := HKN.out; omega)
            have K0 := Lib.hid c0
            refine region_up (by kernel_rfl) (by kernel_rfl) ?_
            iterate 8
              go_big_quiet_want
              apply Exists.intro
              refine ⟨fun W hW => ?_, ?_⟩
              · have g0 := cell_later hW K0.out
                go_simp
                all_goals exact rfl
              simp only [Act.put, List.setIfInBounds_toArray, List.set_cons_succ, List.set_cons_zero]
              go_big_quiet_on
            go_big_quiet_want
            apply Exists.intro
            refine ⟨fun W hW => ?_, ?_⟩
            · have g0 := cell_later hW K0.out
              go_simp
              exact call_up hW (C76.out W (bthen HBr.out hW))
            simp only [Act.put, List.setIfInBounds_toArray, List.set_cons_succ, List.set_cons_zero]
            go_big_quiet_on
            iterate 3
              go_big_quiet_want
              apply Exists.intro
              refine ⟨fun W hW => ?_, ?_⟩
              · have g0 := cell_later hW K0.out
                go_simp
                all_goals exact rfl
              simp only [Act.put, List.setIfInBounds_toArray, List.set_cons_succ, List.set_cons_zero]
              go_big_quiet_on
            refine wpQuiet_nil ?_
            intro W hW
            clear hw5 hw6
            have HBW := Lib.hid (bthen HBr.out hW)
            clear hW
            go_wp2
            all_goals
              go_ret
              rw [EF.out]
              have hn := HN.out
              refine ⟨congrArg (fun z => Ending.returned (.int .i64 z)) ?_, HBW.out⟩
              omega
        · have hb1 : ((i : Int) == (f : Int) / 64) = false := by rw [beq_eq_false_iff_ne]; omega
          have HE := Lib.hid (decide_eq_false he)
          clear he
          by_cases hy : wordF x false false (f % 64) = 0
          · have hyb : ((Go.bits .xor .u64 (if IntKind.u64.signed = true then -1 else IntKind.u64.max) x) != 0) = false := by have : (Go.bits .xor .u64 (if IntKind.u64.signed = true then -1 else IntKind.u64.max) x) = 0 := hy; rw [this]; rfl
            have HNX := Lib.hid (none_next (t := false) HX.out HXW.out HFI.out (by rw [HE.out]; exact hy) HNO.out)
            clear hy
            go_wp2
            go_roundw
            case rel => exact ⟨i + 1, by go_num, by omega, by omega, HNX.out, HBr.out⟩
            case measure => simp [intOf]; omega
          · have hyb : ((Go.bits .xor .u64 (if IntKind.u64.signed = true then -1 else IntKind.u64.max) x) != 0) = true := by rw [bne_iff_ne]; exact hy
            have EF := Lib.hid (some_next (t := false) HX.out HXW.out HFI.out (by rw [HE.out]; exact hy) HNO.out HFN.out)
            rw [HE.out] at EF
            have hrg := wordF_range x false false (f % 64) HXW.out (by omega)
            have C76 : Hid (∀ W, Below w.heap.size w W → Calls Tryz.prog 110 #[.int .u64 ((Go.bits .xor .u64 (if IntKind.u64.signed = true then -1 else IntKind.u64.max) x))] W (Ret (.int .i64 (Lib.ctz 64 (wordF x false false (f % 64)).toNat)) W)) := fun W hW => by
              have := tz76 (wordF x false false (f % 64)).toNat (by omega) W (HT.out.below hW)
              rw [show (((wordF x false false (f % 64)).toNat : Nat) : Int) = wordF x false false (f % 64) from by omega] at this
              exact this
            have hk64 := (ctz_bit (wordF x false false (f % 64)).toNat (by omega) (by omega)).1
            generalize Lib.ctz 64 (wordF x false false (f % 64)).toNat = k at *
            have HKN := Lib.hid hk64
            clear hy hrg hk64
            go_wp2
            have hw5 := wrap_in (x := (i : Int) * 64) (by omega)
            have hw6 := wrap_in (x := (i : Int) * 64 + (k : Int)) (by have := HKN.out; omega)
            have K0 := Lib.hid c0
            refine region_up (by kernel_rfl) (by kernel_rfl) ?_
            iterate 8
              go_big_quiet_want
              apply Exists.intro
              refine ⟨fun W hW => ?_, ?_⟩
              · have g0 := cell_later hW K0.out
                go_simp
                all_goals exact rfl
              simp only [Act.put, List.setIfInBounds_toArray, List.set_cons_succ, List.set_cons_zero]
              go_big_quiet_on
            go_big_quiet_want
            apply Exists.intro
            refine ⟨fun W hW => ?_, ?_⟩
            · have g0 := cell_later hW K0.out
              go_simp
              exact call_up hW (C76.out W (bthen HBr.out hW))
            simp only [Act.put, List.setIfInBounds_toArray, List.set_cons_succ, List.set_cons_zero]
            go_big_quiet_on
            iterate 3
              go_big_quiet_want
              apply Exists.intro
              refine ⟨fun W hW => ?_, ?_⟩
              · have g0 := cell_later hW K0.out
                go_simp
                all_goals exact rfl
              simp only [Act.put, List.setIfInBounds_toArray, List.set_cons_succ, List.set_cons_zero]
              go_big_quiet_on
            refine wpQuiet_nil ?_
            intro W hW
            clear hw5 hw6
            have HBW := Lib.hid (bthen HBr.out hW)
            clear hW
            go_wp2
            all_goals
              go_ret
              rw [EF.out]
              have hn := HN.out
              refine ⟨congrArg (fun z => Ending.returned (.int .i64 z)) ?_, HBW.out⟩
              omega
      · by_cases he : i = f / 64
        · subst he
          clear hfi him
          have hlt2 : (f : Int) / 64 < (m : Int) := by omega
          by_cases hy : wordF x true true (f % 64) = 0
          · have hyb : ((Go.bits .and .u64 x (IntKind.u64.wrap (18446744073709551615 * 2 ^ (f % 64)))) != 0) = false := by have : (Go.bits .and .u64 x (IntKind.u64.wrap (18446744073709551615 * 2 ^ (f % 64)))) = 0 := hy; rw [this]; rfl
            have HNX := Lib.hid (none_next (t := true) HX.out HXW.out HFI.out (by rw [decide_eq_true (rfl : f / 64 = f / 64)]; exact hy) HNO.out)
            clear hy
            go_wp2
            go_roundw
            case rel => exact ⟨f / 64 + 1, by go_num, by omega, by omega, HNX.out, HBr.out⟩
            case measure => simp [intOf]; omega
          · have hyb : ((Go.bits .and .u64 x (IntKind.u64.wrap (18446744073709551615 * 2 ^ (f % 64)))) != 0) = true := by rw [bne_iff_ne]; exact hy
            have EF := Lib.hid (some_next (t := true) HX.out HXW.out HFI.out (by rw [decide_eq_true (rfl : f / 64 = f / 64)]; exact hy) HNO.out HFN.out)
            rw [decide_eq_true (rfl : f / 64 = f / 64)] at EF
            have hrg := wordF_range x true true (f % 64) HXW.out (by omega)
            have C76 : Hid (∀ W, Below w.heap.size w W → Calls Tryz.prog 110 #[.int .u64 ((Go.bits .and .u64 x (IntKind.u64.wrap (18446744073709551615 * 2 ^ (f % 64)))))] W (Ret (.int .i64 (Lib.ctz 64 (wordF x true true (f % 64)).toNat)) W)) := fun W hW => by
              have := tz76 (wordF x true true (f % 64)).toNat (by omega) W (HT.out.below hW)
              rw [show (((wordF x true true (f % 64)).toNat : Nat) : Int) = wordF x true true (f % 64) from by omega] at this
              exact this
            have hk64 := (ctz_bit (wordF x true true (f % 64)).toNat (by omega) (by omega)).1
            generalize Lib.ctz 64 (wordF x true true (f % 64)).toNat = k at *
            have HKN := Lib.hid hk64
            clear hy hrg hk64
            go_wp2
            have hw5 := wrap_in (x := (f : Int) / 64 * 64) (by omega)
            have hw6 := wrap_in (x := (f : Int) / 64 * 64 + (k : Int)) (by have := HKN.out; omega)
            have K0 := Lib.hid c0
            refine region_up (by kernel_rfl) (by kernel_rfl) ?_
            iterate 8
              go_big_quiet_want
              apply Exists.intro
              refine ⟨fun W hW => ?_, ?_⟩
              · have g0 := cell_later hW K0.out
                go_simp
                all_goals exact rfl
              simp only [Act.put, List.setIfInBounds_toArray, List.set_cons_succ, List.set_cons_zero]
              go_big_quiet_on
            go_big_quiet_want
            apply Exists.intro
            refine ⟨fun W hW => ?_, ?_⟩
            · have g0 := cell_later hW K0.out
              go_simp
              exact call_up hW (C76.out W (bthen HBr.out hW))
            simp only [Act.put, List.setIfInBounds_toArray, List.set_cons_succ, List.set_cons_zero]
            go_big_quiet_on
            iterate 3
              go_big_quiet_want
              apply Exists.intro
              refine ⟨fun W hW => ?_, ?_⟩
              · have g0 := cell_later hW K0.out
                go_simp
                all_goals exact rfl
              simp only [Act.put, List.setIfInBounds_toArray, List.set_cons_succ, List.set_cons_zero]
              go_big_quiet_on
            refine wpQuiet_nil ?_
            intro W hW
            clear hw5 hw6
            have HBW := Lib.hid (bthen HBr.out hW)
            clear hW
            go_wp2
            all_goals
              go_ret
              rw [EF.out]
              have hn := HN.out
              refine ⟨congrArg (fun z => Ending.returned (.int .i64 z)) ?_, HBW.out⟩
              omega
        · have hb1 : ((i : Int) == (f : Int) / 64) = false := by rw [beq_eq_false_iff_ne]; omega
          have HE := Lib.hid (decide_eq_false he)
          clear he
          by_cases hy : wordF x true false (f % 64) = 0
          · have hyb : (x != 0) = false := by have : x = 0 := hy; rw [this]; rfl
            have HNX := Lib.hid (none_next (t := true) HX.out HXW.out HFI.out (by rw [HE.out]; exact hy) HNO.out)
            clear hy
            go_wp2
            go_roundw
            case rel => exact ⟨i + 1, by go_num, by omega, by omega, HNX.out, HBr.out⟩
            case measure => simp [intOf]; omega
          · have hyb : (x != 0) = true := by rw [bne_iff_ne]; exact hy
            have EF := Lib.hid (some_next (t := true) HX.out HXW.out HFI.out (by rw [HE.out]; exact hy) HNO.out HFN.out)
            rw [HE.out] at EF
            have hrg := wordF_range x true false (f % 64) HXW.out (by omega)
            have C76 : Hid (∀ W, Below w.heap.size w W → Calls Tryz.prog 110 #[.int .u64 (x)] W (Ret (.int .i64 (Lib.ctz 64 (wordF x true false (f % 64)).toNat)) W)) := fun W hW => by
              have := tz76 (wordF x true false (f % 64)).toNat (by omega) W (HT.out.below hW)
              rw [show (((wordF x true false (f % 64)).toNat : Nat) : Int) = wordF x true false (f % 64) from by omega] at this
              exact this
            have hk64 := (ctz_bit (wordF x true false (f % 64)).toNat (by omega) (by omega)).1
            generalize Lib.ctz 64 (wordF x true false (f % 64)).toNat = k at *
            have HKN := Lib.hid hk64
            clear hy hrg hk64
            go_wp2
            have hw5 := wrap_in (x := (i : Int) * 64) (by omega)
            have hw6 := wrap_in (x := (i : Int) * 64 + (k : Int)) (by have := HKN.out; omega)
            have K0 := Lib.hid c0
            refine region_up (by kernel_rfl) (by kernel_rfl) ?_
            iterate 8
              go_big_quiet_want
              apply Exists.intro
              refine ⟨fun W hW => ?_, ?_⟩
              · have g0 := cell_later hW K0.out
                go_simp
                all_goals exact rfl
              simp only [Act.put, List.setIfInBounds_toArray, List.set_cons_succ, List.set_cons_zero]
              go_big_quiet_on
            go_big_quiet_want
            apply Exists.intro
            refine ⟨fun W hW => ?_, ?_⟩
            · have g0 := cell_later hW K0.out
              go_simp
              exact call_up hW (C76.out W (bthen HBr.out hW))
            simp only [Act.put, List.setIfInBounds_toArray, List.set_cons_succ, List.set_cons_zero]
            go_big_quiet_on
            iterate 3
              go_big_quiet_want
              apply Exists.intro
              refine ⟨fun W hW => ?_, ?_⟩
              · have g0 := cell_later hW K0.out
                go_simp
                all_goals exact rfl
              simp only [Act.put, List.setIfInBounds_toArray, List.set_cons_succ, List.set_cons_zero]
              go_big_quiet_on
            refine wpQuiet_nil ?_
            intro W hW
            clear hw5 hw6
            have HBW := Lib.hid (bthen HBr.out hW)
            clear hW
            go_wp2
            all_goals
              go_ret
              rw [EF.out]
              have hn := HN.out
              refine ⟨congrArg (fun z => Ending.returned (.int .i64 z)) ?_, HBW.out⟩
              omega
    · have EN : Hid (firstN B f t = B.n.toNat) := none_all HNO.out (by have := HLN.out; omega) HFN.out
      have hge : ¬ (i : Int) < (m : Int) := by omega
      go_wp2
      go_ret
      rw [EN.out]
      have hn := HN.out
      refine ⟨congrArg (fun z => Ending.returned (.int .i64 z)) ?_, HBr.out⟩
      omega


def firstIn (b : BitB) (f : Int) : Prop := 0 ≤ f ∧ f ≤ b.n
instance (b : BitB) (f : Int) : Decidable (firstIn b f) := by unfold firstIn; infer_instance
def firstE (b : BitB) (f : Int) (t : Bool) : Int := if okB b = true then (if firstIn b f then (if (firstN b f.toNat t : Int) = b.n then 3 else 0) else 1) else 2
def firstI (b : BitB) (f : Int) (t : Bool) : Int := if firstE b f t = 0 then (firstN b f.toNat t : Int) else 0
set_option maxRecDepth 100000 in
set_option maxHeartbeats 8000000 in
theorem first52 (v : BitV) (b : BitB) (f : Int) (t : Bool) (w : World) (h : RdB w v b) (hT : Tab w) : Calls Tryz.prog 67 #[v.v, .int .i64 f, .bool t] w (Ret (.tuple #[.int .i64 (firstI b f t), .int .i64 (firstE b f t)]) w) := by
  have CC : Hid (∀ W, Below w.heap.size w W → Calls Tryz.prog 91 #[v.v] W (Ret (.int .i64 (okE b)) W)) := fun W hW => check62 v b W (h.below hW)
  have CF : Hid (okB b = true → ∀ k : Nat, f = (k : Int) → (k : Int) ≤ b.n → ∀ W c, Below w.heap.size w W → W.cell? ⟨c, 0, none⟩ = some (.int .i64 b.n) → W.cell? ⟨c, 1, none⟩ = some (.slice v.A v.m v.c) → Calls Tryz.prog 95 #[.pointer (some ⟨c, 0, none⟩), .int .i64 f, .bool t] W (Ret (.int .i64 (firstN b k t)) W)) := fun hok k hk hkn W c hW h0 h1 => by
    have hp := okB_parts hok
    rw [hk]
    exact first70 c v.m v.c k v.A b t W h0 h1 (h.row.below hW) h.m.symm (by omega) (by rw [h.m]; omega) (by rw [h.m]; omega) (hT.below hW) ⟨hp.1, hp.2.1⟩ h.words
  have hbn := h.n
  obtain ⟨n, A, m, ca⟩ := v
  simp only at hbn
  subst hbn
  unfold BitV.v at CC ⊢
  simp only at CC CF ⊢
  clear h hT
  have HB0 : Hid (Below w.heap.size w (w.alloc (.cells #[.int .i64 b.n, .slice A m ca] 26))) := balloc (Below.refl _ _) _
  by_cases hok : okB b = true
  · rw [okE_0 hok] at CC
    by_cases hin : firstIn b f
    · obtain ⟨k, rfl⟩ := Int.eq_ofNat_of_zero_le hin.1
      have CF := Lib.hid (CF.out hok k rfl hin.2)
      have q1 : ¬ (k : Int) < 0 := by omega
      have q2 : ¬ b.n < (k : Int) := by have := hin.2; omega
      by_cases he : (firstN b k t : Int) = b.n
      · have E2 : Hid (firstE b k t = 3) := by show _ = _; unfold firstE; rw [if_pos hok, if_pos hin, Int.toNat_natCast, if_pos he]
        have E1 : Hid (firstI b k t = 0) := by show _ = _; unfold firstI; rw [E2.out]; rfl
        have EB := Lib.hid he
        clear hok hin he
        go_enter Tryz.func67, Tryz.ntmps67
        go_wp2_with (go_at_call 91; refine (CC.out _ HB0.out).mono ?_)
        rintro e w1 ⟨rfl, hb1⟩
        obtain ⟨hc1, hf1, hs1⟩ := bcellB (B := w.heap.size + 1) hb1 (by simp)
        have z0 : w.heap.size < w1.heap.size := hs1
        have HB1 := Lib.hid (bthen HB0.out hb1)
        clear hb1
        have HB2 := Lib.hid (balloc HB1.out (.cells #[.int .i64 b.n, .slice A m ca] 141))
        have K0 : Hid ((w1.alloc (.cells #[.int .i64 b.n, .slice A m ca] 141)).cell? ⟨w1.heap.size, 0, none⟩ = some (.int .i64 b.n)) := by show _ = _; go_simp
        have K1 : Hid ((w1.alloc (.cells #[.int .i64 b.n, .slice A m ca] 141)).cell? ⟨w1.heap.size, 1, none⟩ = some (.slice A m ca)) := by show _ = _; go_simp
        have K2 : Hid ((w1.alloc (.cells #[.int .i64 b.n, .slice A m ca] 141)).cell? ⟨w.heap.size, 0, none⟩ = some (.int .i64 b.n)) := by show _ = _; go_simp
        go_wp2_with (go_at_call 95; refine (CF.out _ _ HB2.out K0.out K1.out).mono ?_)
        rintro e w3 ⟨rfl, hb3⟩
        have HB3 := Lib.hid (bthen HB2.out hb3)
        have k2 := cell_later hb3 K2.out
        rw [EB.out]
        clear hb3
        go_wp2
        go_ret2
        rw [E1.out, E2.out]
        exact ⟨rfl, HB3.out⟩
      · have E2 : Hid (firstE b k t = 0) := by show _ = _; unfold firstE; rw [if_pos hok, if_pos hin, Int.toNat_natCast, if_neg he]
        have E1 : Hid (firstI b k t = (firstN b k t : Int)) := by show _ = _; unfold firstI; rw [E2.out, if_pos rfl, Int.toNat_natCast]
        have hne : ((firstN b k t : Int) == b.n) = false := by rw [beq_eq_false_iff_ne]; exact he
        clear hok hin he
        generalize firstN b k t = r at *
        go_enter Tryz.func67, Tryz.ntmps67
        go_wp2_with (go_at_call 91; refine (CC.out _ HB0.out).mono ?_)
        rintro e w1 ⟨rfl, hb1⟩
        obtain ⟨hc1, hf1, hs1⟩ := bcellB (B := w.heap.size + 1) hb1 (by simp)
        have z0 : w.heap.size < w1.heap.size := hs1
        have HB1 := Lib.hid (bthen HB0.out hb1)
        clear hb1
        have HB2 := Lib.hid (balloc HB1.out (.cells #[.int .i64 b.n, .slice A m ca] 141))
        have K0 : Hid ((w1.alloc (.cells #[.int .i64 b.n, .slice A m ca] 141)).cell? ⟨w1.heap.size, 0, none⟩ = some (.int .i64 b.n)) := by show _ = _; go_simp
        have K1 : Hid ((w1.alloc (.cells #[.int .i64 b.n, .slice A m ca] 141)).cell? ⟨w1.heap.size, 1, none⟩ = some (.slice A m ca)) := by show _ = _; go_simp
        have K2 : Hid ((w1.alloc (.cells #[.int .i64 b.n, .slice A m ca] 141)).cell? ⟨w.heap.size, 0, none⟩ = some (.int .i64 b.n)) := by show _ = _; go_simp
        go_wp2_with (go_at_call 95; refine (CF.out _ _ HB2.out K0.out K1.out).mono ?_)
        rintro e w3 ⟨rfl, hb3⟩
        have HB3 := Lib.hid (bthen HB2.out hb3)
        have k2 := cell_later hb3 K2.out
        clear hb3
        go_wp2
        go_ret2
        rw [E1.out, E2.out]
        exact ⟨rfl, HB3.out⟩
    · have E2 : Hid (firstE b f t = 1) := by show _ = _; unfold firstE; rw [if_pos hok, if_neg hin]
      have E1 : Hid (firstI b f t = 0) := by show _ = _; unfold firstI; rw [E2.out]; rfl
      have hf' : f < 0 ∨ (¬ f < 0 ∧ b.n < f) := by unfold firstIn at hin; omega
      clear hok hin CF
      rcases hf' with hk | ⟨hk0, hk⟩
      all_goals
        go_enter Tryz.func67, Tryz.ntmps67
        go_wp2_with (go_at_call 91; refine (CC.out _ HB0.out).mono ?_)
        rintro e w1 ⟨rfl, hb1⟩
        obtain ⟨hc1, hf1, hs1⟩ := bcellB (B := w.heap.size + 1) hb1 (by simp)
        have HB1 := Lib.hid (bthen HB0.out hb1)
        clear hb1
        go_wp2
        go_ret2
        rw [E1.out, E2.out]
        exact ⟨rfl, HB1.out⟩
  · have hok' : okB b = false := by simpa using hok
    have E2 : Hid (firstE b f t = 2) := by show _ = _; unfold firstE; rw [if_neg hok]
    have E1 : Hid (firstI b f t = 0) := by show _ = _; unfold firstI; rw [E2.out]; rfl
    rw [okE_2 hok'] at CC
    clear hok hok' CF
    go_enter Tryz.func67, Tryz.ntmps67
    go_wp2_with (go_at_call 91; refine (CC.out _ HB0.out).mono ?_)
    rintro e w1 ⟨rfl, hb1⟩
    have HB1 := Lib.hid (bthen HB0.out hb1)
    clear hb1
    go_wp2
    go_ret2
    rw [E1.out, E2.out]
    exact ⟨rfl, HB1.out⟩


def hasRoom (z : Int) (s : SpanB) : Bool := (s.size == z) && (s.sw && (firstE s.al 0 false == 0))
def roomAt (i : Nat) (o : Option SpanB) : Fd := match o with | some s => ⟨i, firstI s.al 0 false, 0⟩ | none => ⟨0, 0, 3⟩
def roomIn (l : List SpanB) (o : Option Nat) : Fd := match o with | some i => roomAt i l[i]? | none => ⟨0, 0, 3⟩
def roomP (l : List SpanB) (z : Int) : Fd := if okL l = true then roomIn l (l.findIdx? (hasRoom z)) else ⟨0, 0, 2⟩
theorem room_some {l : List SpanB} {p : SpanB → Bool} {k : Nat} {s : SpanB} (hs : l[k]? = some s) (hp : p s = true) (hno : ∀ j, j < k → ∀ s, l[j]? = some s → p s = false) : l.findIdx? p = some k := by
  obtain ⟨hk, e⟩ := List.getElem?_eq_some_iff.1 hs
  rw [List.findIdx?_eq_some_iff_getElem]
  refine ⟨hk, by rw [e]; exact hp, fun j hj => ?_⟩
  have := hno j hj l[j] (List.getElem?_eq_getElem (by omega))
  simp [this]
theorem room_none {l : List SpanB} {p : SpanB → Bool} (hno : ∀ j, j < l.length → ∀ s, l[j]? = some s → p s = false) : l.findIdx? p = none := by
  rw [List.findIdx?_eq_none_iff]
  intro x hx
  obtain ⟨j, hj, rfl⟩ := List.getElem_of_mem hx
  exact hno j hj _ (List.getElem?_eq_getElem hj)
theorem no_next {l : List SpanB} {p : SpanB → Bool} {k : Nat} {s : SpanB} (hs : l[k]? = some s) (hp : p s = false) (hno : ∀ j, j < k → ∀ s, l[j]? = some s → p s = false) : ∀ j, j < k + 1 → ∀ s, l[j]? = some s → p s = false := by
  intro j hj s' hs'
  rcases Nat.lt_succ_iff_lt_or_eq.1 hj with h | rfl
  · exact hno j h s' hs'
  · rw [hs] at hs'
    cases hs'
    exact hp
set_option maxRecDepth 100000 in
set_option maxHeartbeats 8000000 in
theorem room23 (A : Option Addr) (c : Nat) (vs : List SpanV) (l : List SpanB) (z : Int) (w : World) (h : RdL w A vs l) (hT : Tab w) :
    Calls Tryz.prog 34 #[.slice A l.length c, .int .i64 z] w (Ret (.tuple #[.int .i64 (roomP l z).i, .int .i64 (roomP l z).k, .int .i64 (roomP l z).e]) w) := by
  have CC : Hid (Calls Tryz.prog 66 #[.slice A l.length c] w (Ret (.int .i64 (chkE l)) w)) := check19 A c vs l w h
  have hl := h.len
  have HT := Lib.hid hT
  by_cases hok : okL l = true
  · have E0 : Hid (roomP l z = roomIn l (l.findIdx? (hasRoom z))) := by show _ = _; unfold roomP; rw [if_pos hok]
    rw [show chkE l = 0 from by simp [chkE, hok]] at CC
    have H := Lib.hid h
    clear h hok hT
    go_enter Tryz.func34, Tryz.ntmps34
    go_wp2_with (go_at_call 66; refine CC.out.mono ?_)
    rintro e w1 ⟨rfl, hb1⟩
    have HB1 := Lib.hid hb1
    clear hb1
    go_wp2
    obtain ⟨wo, hwo⟩ : ∃ wo : World, wo = w1 := ⟨w1, rfl⟩
    go_loopw [19] (fun i wr => ∃ k : Nat, k ≤ l.length ∧ i = .int .i64 k ∧ Hid (∀ j, j < k → ∀ s, l[j]? = some s → hasRoom z s = false) ∧ Hid (Below w.heap.size w wr)) (fun i _ => l.length - (intOf i).toNat)
    case atStart => exact ⟨0, Nat.zero_le _, rfl, fun j hj => by omega, HB1.out⟩
    case round =>
      obtain ⟨k, hk, rfl, HNO, HBr⟩ := hrel
      by_cases hlt : k < l.length
      · have hs : l[k]? = some l[k] := List.getElem?_eq_getElem hlt
        generalize l[k] = s at hs
        obtain ⟨v, bk, o, hv, hR, hA, hbk, c0, c1, c2, c3, c4, c5, c6, c7⟩ := H.out.at_ hs
        replace c0 := cell_later HBr.out c0
        replace c1 := cell_later HBr.out c1
        replace c2 := cell_later HBr.out c2
        replace c3 := cell_later HBr.out c3
        replace c4 := cell_later HBr.out c4
        replace c5 := cell_later HBr.out c5
        replace c6 := cell_later HBr.out c6
        replace c7 := cell_later HBr.out c7
        have CF : Hid (∀ W, Below w.heap.size w W → Calls Tryz.prog 67 #[v.al.v, .int .i64 0, .bool false] W (Ret (.tuple #[.int .i64 (firstI s.al 0 false), .int .i64 (firstE s.al 0 false)]) W)) := fun W hW => first52 v.al s.al 0 false W (hR.al.below hW) (HT.out.below hW)
        have hsi := hR.size
        have hsw := hR.sw
        obtain ⟨f, p, z', ⟨n, A1, m, ca⟩, ⟨n', A2, m', cb⟩, sw⟩ := v
        unfold BitV.v at CF
        simp only at c0 c1 c2 c3 c4 c5 c6 c7 CF hsi hsw
        subst hA
        subst hsi
        subst hsw
        have HSS := Lib.hid hs
        clear hv hs hR
        by_cases hz : s.size = z
        · cases hw : s.sw
          · have HP : Hid (hasRoom z s = false) := by show _ = _; simp [hasRoom, hw]
            rw [hw] at c7
            subst hz
            clear hw CF
            have HB2 := Lib.hid (balloc HBr.out (.cells #[.int .i64 f, .int .i64 p, .int .i64 s.size, .int .i64 n, .slice A1 m ca, .int .i64 n', .slice A2 m' cb, .bool false] 44))
            go_wp2
            go_roundw
            case rel => exact ⟨k + 1, by omega, by go_num, no_next HSS.out HP.out HNO.out, HB2.out⟩
            case measure => simp [intOf]; omega
          · rw [hw] at c7
            by_cases he : firstE s.al 0 false = 0
            · have HP : Hid (hasRoom z s = true) := by show _ = _; simp [hasRoom, hz, hw, he]
              have E1 : Hid (roomP l z = ⟨k, firstI s.al 0 false, 0⟩) := by show _ = _; rw [E0.out, room_some HSS.out HP.out HNO.out]; show roomAt k l[k]? = _; rw [HSS.out]; rfl
              rw [he] at CF
              subst hz
              clear hw he
              have HB2 := Lib.hid (balloc HBr.out (.cells #[.int .i64 f, .int .i64 p, .int .i64 s.size, .int .i64 n, .slice A1 m ca, .int .i64 n', .slice A2 m' cb, .bool true] 44))
              go_wp2_with (go_at_call 67; refine (CF.out _ HB2.out).mono ?_)
              rintro e w3 ⟨rfl, hb3⟩
              have HB3 := Lib.hid (bthen HB2.out hb3)
              clear hb3
              go_wp2
              go_ret3
              rw [E1.out]
              exact ⟨rfl, HB3.out⟩
            · have HP : Hid (hasRoom z s = false) := by show _ = _; simp [hasRoom, he]
              have hne : (firstE s.al 0 false == 0) = false := by rw [beq_eq_false_iff_ne]; exact he
              subst hz
              clear hw he
              have HB2 := Lib.hid (balloc HBr.out (.cells #[.int .i64 f, .int .i64 p, .int .i64 s.size, .int .i64 n, .slice A1 m ca, .int .i64 n', .slice A2 m' cb, .bool true] 44))
              go_wp2_with (go_at_call 67; refine (CF.out _ HB2.out).mono ?_)
              rintro e w3 ⟨rfl, hb3⟩
              have HB3 := Lib.hid (bthen HB2.out hb3)
              clear hb3
              go_wp2
              go_roundw
              case rel => exact ⟨k + 1, by omega, by go_num, no_next HSS.out HP.out HNO.out, HB3.out⟩
              case measure => simp [intOf]; omega
        · have HP : Hid (hasRoom z s = false) := by show _ = _; simp [hasRoom, hz]
          have hzb : (s.size != z) = true := by rw [bne_iff_ne]; exact hz
          clear hz CF
          have HB2 := Lib.hid (balloc HBr.out (.cells #[.int .i64 f, .int .i64 p, .int .i64 s.size, .int .i64 n, .slice A1 m ca, .int .i64 n', .slice A2 m' cb, .bool s.sw] 44))
          go_wp2
          go_roundw
          case rel => exact ⟨k + 1, by omega, by go_num, no_next HSS.out HP.out HNO.out, HB2.out⟩
          case measure => simp [intOf]; omega
      · obtain rfl : k = l.length := by omega
        have E1 : Hid (roomP l z = ⟨0, 0, 3⟩) := by show _ = _; rw [E0.out, room_none HNO.out]; rfl
        go_wp2
        go_ret3
        rw [E1.out]
        exact ⟨rfl, HBr.out⟩
  · have E1 : Hid (roomP l z = ⟨0, 0, 2⟩) := by show _ = _; unfold roomP; rw [if_neg hok]
    rw [show chkE l = 2 from by simp [chkE, hok]] at CC
    clear h hok hT
    go_enter Tryz.func34, Tryz.ntmps34
    go_wp2_with (go_at_call 66; refine CC.out.mono ?_)
    rintro e w1 ⟨rfl, hb1⟩
    have HB1 := Lib.hid hb1
    clear hb1
    go_wp2
    go_ret3
    rw [E1.out]
    exact ⟨rfl, HB1.out⟩

end Go.Proofs.YtieijfefnedifaaGreatDoor
