/- The walks of slices.BinarySearchFunc on spans. -/
import Derived.Test.YtchbbldanmmpjaaDoorSR
namespace Go.Proofs.YtchbbldanmmpjaaDoor
open Go.RowKit
set_option linter.unusedVariables false
set_option linter.unusedSimpArgs false

def Enters (g : Nat) : Prop := ∀ (args : Array Value) (w : World), (callFunc g args).run Tryd.prog w = .ok (.enter g args) w
def cmpI (x y : Int) : Int := if x < y then -1 else if y < x then 1 else 0
def posP (l : List SpanB) (key : SpanB → Int) (t : Int) : Nat := (l.takeWhile (fun s => decide (key s < t))).length
def foundP (l : List SpanB) (key : SpanB → Int) (t : Int) : Bool := match l[posP l key t]? with | some s => key s == t | none => false
theorem posP_of {l : List SpanB} {key : SpanB → Int} {t : Int} : ∀ {k : Nat}, k ≤ l.length → (∀ a, a < k → ∀ s, l[a]? = some s → key s < t) → (∀ s, l[k]? = some s → t ≤ key s) → posP l key t = k := by
  induction l with
  | nil =>
    intro k hk _ _
    have : k = 0 := by simpa using hk
    subst this
    rfl
  | cons x r ih =>
    intro k hk h1 h2
    unfold posP
    cases k with
    | zero =>
      have h3 := h2 x rfl
      have h4 : ¬ key x < t := by omega
      rw [List.takeWhile_cons]
      simp [h4]
    | succ j =>
      have hx := h1 0 (by omega) x rfl
      rw [List.takeWhile_cons]
      simp only [hx, decide_true, if_true, List.length_cons]
      congr 1
      exact ih (by simpa using hk) (fun a ha s hs => h1 (a + 1) (by omega) s (by simpa using hs)) (fun s hs => h2 s (by simpa using hs))
def Sorted (l : List SpanB) (key : SpanB → Int) : Prop := ∀ (a b : Nat) (x y : SpanB), a ≤ b → l[a]? = some x → l[b]? = some y → key x ≤ key y
theorem below_all {l : List SpanB} {key : SpanB → Int} {t : Int} {m : Nat} {s : SpanB} (hs : Sorted l key) (hm : l[m]? = some s) (h : key s < t) : ∀ a, a < m + 1 → ∀ x, l[a]? = some x → key x < t :=
  fun a ha x hx => Int.lt_of_le_of_lt (hs a m x s (by omega) hx hm) h
theorem above_all {l : List SpanB} {key : SpanB → Int} {t : Int} {m : Nat} {s : SpanB} (hs : Sorted l key) (hm : l[m]? = some s) (h : t ≤ key s) : ∀ a, m ≤ a → ∀ x, l[a]? = some x → t ≤ key x :=
  fun a ha x hx => Int.le_trans h (hs m a s x ha hm hx)

set_option maxRecDepth 100000 in
set_option maxHeartbeats 8000000 in
theorem search47 (vs : List SpanV) (l : List SpanB) (A : Option Addr) (c : Nat) (g : Nat) (caps : Array Value) (key : SpanB → Int) (t : Int) (w : World) (h : RdL w A vs l) (hn : l.length ≤ 256) (hg : Enters g) (hso : Sorted l key)
    (hf : ∀ (i : Nat) v s, vs[i]? = some v → l[i]? = some s → ∀ w', Below w.heap.size w w' → Calls Tryd.prog g (#[v.v, .int .u64 t] ++ caps) w' (Ret (.int .i64 (cmpI (key s) t)) w')) :
    Calls Tryd.prog 47 #[.slice A l.length c, .int .u64 t, .func (.func g) #[] caps] w (Ret (.tuple #[.int .i64 (posP l key t), .bool (foundP l key t)]) w) := by
  unfold Enters at hg
  have H := Lib.hid h
  have HSO := Lib.hid hso
  have HF := Lib.hid hf
  clear h hso hf
  go_enter Tryd.func47, Tryd.ntmps47
  go_wp2
  obtain ⟨wo, hwo⟩ : ∃ wo : World, wo = w := ⟨w, rfl⟩
  go_loopw [9, 10] (fun v9 v10 wr => ∃ i j : Nat, i ≤ j ∧ j ≤ l.length ∧ v9 = .int .i64 i ∧ v10 = .int .i64 j ∧ Hid (∀ a, a < i → ∀ s, l[a]? = some s → key s < t) ∧ Hid (∀ a, j ≤ a → ∀ s, l[a]? = some s → t ≤ key s) ∧ Hid (Below w.heap.size w wr)) (fun v9 v10 _ => (intOf v10).toNat - (intOf v9).toNat)
  case atStart => exact ⟨0, l.length, Nat.zero_le _, Nat.le_refl _, rfl, rfl, fun a ha => by omega, fun a ha s hs => by have := (List.getElem?_eq_some_iff.1 hs).1; omega, Below.refl _ _⟩
  case round =>
    obtain ⟨i, j, hij, hj, rfl, rfl, HLo, HHi, HBr⟩ := hrel
    by_cases hlt : i < j
    · obtain ⟨m, hm⟩ : ∃ m : Nat, m = (i + j) / 2 := ⟨_, rfl⟩
      have hmi : i ≤ m := by omega
      have hmj : m < j := by omega
      have hq : ((i : Int) + (j : Int)) / 2 = (m : Int) := by omega
      have hml : m < l.length := by omega
      have hs : l[m]? = some l[m] := List.getElem?_eq_getElem hml
      generalize l[m] = s at hs
      obtain ⟨v, bk, o, hv, hR, hA, hbk, c0, c1, c2, c3, c4, c5, c6, c7⟩ := H.out.at_ hs
      replace c0 := cell_later HBr.out c0
      replace c1 := cell_later HBr.out c1
      replace c2 := cell_later HBr.out c2
      replace c3 := cell_later HBr.out c3
      replace c4 := cell_later HBr.out c4
      replace c5 := cell_later HBr.out c5
      replace c6 := cell_later HBr.out c6
      replace c7 := cell_later HBr.out c7
      have HC := Lib.hid (HF.out m v s hv hs wr HBr.out)
      subst hA
      obtain ⟨f, p, z, ⟨n, A1, m1, ca⟩, ⟨n', A2, m', cb⟩, sw⟩ := v
      unfold SpanV.v at HC
      simp only [List.append_toArray, Array.append, List.cons_append, List.nil_append] at c0 c1 c2 c3 c4 c5 c6 c7 HC
      have HSS := Lib.hid hs
      clear hv hs hR hm
      by_cases hk : key s < t
      · have EC : Hid (cmpI (key s) t = -1) := by show _ = _; unfold cmpI; rw [if_pos hk]
        have HK := Lib.hid hk
        rw [EC.out] at HC
        clear hk
        go_wp2_with fail
        refine HC.out.mono ?_
        rintro e w1 ⟨rfl, hb1⟩
        have HB1 := Lib.hid (bthen HBr.out hb1)
        clear hb1
        go_wp2
        go_roundw
        case rel => exact ⟨m + 1, j, by omega, hj, by go_num, rfl, below_all HSO.out HSS.out HK.out, HHi.out, HB1.out⟩
        case measure => simp [intOf]; omega
      · have HK : Hid (t ≤ key s) := by show _ ≤ _; omega
        have hc : cmpI (key s) t = 0 ∨ cmpI (key s) t = 1 := by unfold cmpI; rw [if_neg hk]; split <;> simp
        clear hk
        rcases hc with hc | hc
        all_goals
          rw [hc] at HC
          clear hc
          go_wp2_with fail
          refine HC.out.mono ?_
          rintro e w1 ⟨rfl, hb1⟩
          have HB1 := Lib.hid (bthen HBr.out hb1)
          clear hb1
          go_wp2
          go_roundw
          case rel => exact ⟨i, m, hmi, by omega, rfl, rfl, HLo.out, above_all HSO.out HSS.out HK.out, HB1.out⟩
          case measure => simp [intOf]; omega
    · obtain rfl : i = j := by omega
      have EP : Hid (posP l key t = i) := posP_of hj HLo.out (fun s hs => HHi.out i (Nat.le_refl _) s hs)
      by_cases hil : i < l.length
      · have hs : l[i]? = some l[i] := List.getElem?_eq_getElem hil
        generalize l[i] = s at hs
        obtain ⟨v, bk, o, hv, hR, hA, hbk, c0, c1, c2, c3, c4, c5, c6, c7⟩ := H.out.at_ hs
        replace c0 := cell_later HBr.out c0
        replace c1 := cell_later HBr.out c1
        replace c2 := cell_later HBr.out c2
        replace c3 := cell_later HBr.out c3
        replace c4 := cell_later HBr.out c4
        replace c5 := cell_later HBr.out c5
        replace c6 := cell_later HBr.out c6
        replace c7 := cell_later HBr.out c7
        have HC := Lib.hid (HF.out i v s hv hs wr HBr.out)
        subst hA
        obtain ⟨f, p, z, ⟨n, A1, m1, ca⟩, ⟨n', A2, m', cb⟩, sw⟩ := v
        unfold SpanV.v at HC
        simp only at c0 c1 c2 c3 c4 c5 c6 c7 HC
        have EF : Hid (foundP l key t = (key s == t)) := by show _ = _; unfold foundP; rw [EP.out, hs]
        have hk : ¬ key s < t := by have := HHi.out i (Nat.le_refl _) s hs; omega
        clear hv hs hR
        by_cases hk2 : t < key s
        · have EF : Hid (foundP l key t = false) := by show _ = _; rw [EF.out, beq_eq_false_iff_ne]; omega
          rw [show cmpI (key s) t = 1 from by unfold cmpI; rw [if_neg hk, if_pos hk2]] at HC
          clear hk hk2
          go_wp2_with fail
          refine HC.out.mono ?_
          rintro e w1 ⟨rfl, hb1⟩
          have HB1 := Lib.hid (bthen HBr.out hb1)
          clear hb1
          go_wp2
          go_ret2
          rw [EP.out, EF.out]
          exact ⟨rfl, HB1.out⟩
        · have EF : Hid (foundP l key t = true) := by show _ = _; rw [EF.out, beq_iff_eq]; omega
          rw [show cmpI (key s) t = 0 from by unfold cmpI; rw [if_neg hk, if_neg hk2]] at HC
          clear hk hk2
          go_wp2_with fail
          refine HC.out.mono ?_
          rintro e w1 ⟨rfl, hb1⟩
          have HB1 := Lib.hid (bthen HBr.out hb1)
          clear hb1
          go_wp2
          go_ret2
          rw [EP.out, EF.out]
          exact ⟨rfl, HB1.out⟩
      · have EF : Hid (foundP l key t = false) := by show _ = _; unfold foundP; rw [EP.out, List.getElem?_eq_none (by omega)]
        go_wp2
        go_ret2
        rw [EP.out, EF.out]
        exact ⟨rfl, HBr.out⟩
set_option maxRecDepth 100000 in
set_option maxHeartbeats 8000000 in
theorem search54 (vs : List SpanV) (l : List SpanB) (A : Option Addr) (c : Nat) (g : Nat) (caps : Array Value) (key : SpanB → Int) (t : Int) (w : World) (h : RdL w A vs l) (hn : l.length ≤ 256) (hg : Enters g) (hso : Sorted l key)
    (hf : ∀ (i : Nat) v s, vs[i]? = some v → l[i]? = some s → ∀ w', Below w.heap.size w w' → Calls Tryd.prog g (#[v.v, .int .i64 t] ++ caps) w' (Ret (.int .i64 (cmpI (key s) t)) w')) :
    Calls Tryd.prog 54 #[.slice A l.length c, .int .i64 t, .func (.func g) #[] caps] w (Ret (.tuple #[.int .i64 (posP l key t), .bool (foundP l key t)]) w) := by
  unfold Enters at hg
  have H := Lib.hid h
  have HSO := Lib.hid hso
  have HF := Lib.hid hf
  clear h hso hf
  go_enter Tryd.func54, Tryd.ntmps54
  go_wp2
  obtain ⟨wo, hwo⟩ : ∃ wo : World, wo = w := ⟨w, rfl⟩
  go_loopw [9, 10] (fun v9 v10 wr => ∃ i j : Nat, i ≤ j ∧ j ≤ l.length ∧ v9 = .int .i64 i ∧ v10 = .int .i64 j ∧ Hid (∀ a, a < i → ∀ s, l[a]? = some s → key s < t) ∧ Hid (∀ a, j ≤ a → ∀ s, l[a]? = some s → t ≤ key s) ∧ Hid (Below w.heap.size w wr)) (fun v9 v10 _ => (intOf v10).toNat - (intOf v9).toNat)
  case atStart => exact ⟨0, l.length, Nat.zero_le _, Nat.le_refl _, rfl, rfl, fun a ha => by omega, fun a ha s hs => by have := (List.getElem?_eq_some_iff.1 hs).1; omega, Below.refl _ _⟩
  case round =>
    obtain ⟨i, j, hij, hj, rfl, rfl, HLo, HHi, HBr⟩ := hrel
    by_cases hlt : i < j
    · obtain ⟨m, hm⟩ : ∃ m : Nat, m = (i + j) / 2 := ⟨_, rfl⟩
      have hmi : i ≤ m := by omega
      have hmj : m < j := by omega
      have hq : ((i : Int) + (j : Int)) / 2 = (m : Int) := by omega
      have hml : m < l.length := by omega
      have hs : l[m]? = some l[m] := List.getElem?_eq_getElem hml
      generalize l[m] = s at hs
      obtain ⟨v, bk, o, hv, hR, hA, hbk, c0, c1, c2, c3, c4, c5, c6, c7⟩ := H.out.at_ hs
      replace c0 := cell_later HBr.out c0
      replace c1 := cell_later HBr.out c1
      replace c2 := cell_later HBr.out c2
      replace c3 := cell_later HBr.out c3
      replace c4 := cell_later HBr.out c4
      replace c5 := cell_later HBr.out c5
      replace c6 := cell_later HBr.out c6
      replace c7 := cell_later HBr.out c7
      have HC := Lib.hid (HF.out m v s hv hs wr HBr.out)
      subst hA
      obtain ⟨f, p, z, ⟨n, A1, m1, ca⟩, ⟨n', A2, m', cb⟩, sw⟩ := v
      unfold SpanV.v at HC
      simp only [List.append_toArray, Array.append, List.cons_append, List.nil_append] at c0 c1 c2 c3 c4 c5 c6 c7 HC
      have HSS := Lib.hid hs
      clear hv hs hR hm
      by_cases hk : key s < t
      · have EC : Hid (cmpI (key s) t = -1) := by show _ = _; unfold cmpI; rw [if_pos hk]
        have HK := Lib.hid hk
        rw [EC.out] at HC
        clear hk
        go_wp2_with fail
        refine HC.out.mono ?_
        rintro e w1 ⟨rfl, hb1⟩
        have HB1 := Lib.hid (bthen HBr.out hb1)
        clear hb1
        go_wp2
        go_roundw
        case rel => exact ⟨m + 1, j, by omega, hj, by go_num, rfl, below_all HSO.out HSS.out HK.out, HHi.out, HB1.out⟩
        case measure => simp [intOf]; omega
      · have HK : Hid (t ≤ key s) := by show _ ≤ _; omega
        have hc : cmpI (key s) t = 0 ∨ cmpI (key s) t = 1 := by unfold cmpI; rw [if_neg hk]; split <;> simp
        clear hk
        rcases hc with hc | hc
        all_goals
          rw [hc] at HC
          clear hc
          go_wp2_with fail
          refine HC.out.mono ?_
          rintro e w1 ⟨rfl, hb1⟩
          have HB1 := Lib.hid (bthen HBr.out hb1)
          clear hb1
          go_wp2
          go_roundw
          case rel => exact ⟨i, m, hmi, by omega, rfl, rfl, HLo.out, above_all HSO.out HSS.out HK.out, HB1.out⟩
          case measure => simp [intOf]; omega
    · obtain rfl : i = j := by omega
      have EP : Hid (posP l key t = i) := posP_of hj HLo.out (fun s hs => HHi.out i (Nat.le_refl _) s hs)
      by_cases hil : i < l.length
      · have hs : l[i]? = some l[i] := List.getElem?_eq_getElem hil
        generalize l[i] = s at hs
        obtain ⟨v, bk, o, hv, hR, hA, hbk, c0, c1, c2, c3, c4, c5, c6, c7⟩ := H.out.at_ hs
        replace c0 := cell_later HBr.out c0
        replace c1 := cell_later HBr.out c1
        replace c2 := cell_later HBr.out c2
        replace c3 := cell_later HBr.out c3
        replace c4 := cell_later HBr.out c4
        replace c5 := cell_later HBr.out c5
        replace c6 := cell_later HBr.out c6
        replace c7 := cell_later HBr.out c7
        have HC := Lib.hid (HF.out i v s hv hs wr HBr.out)
        subst hA
        obtain ⟨f, p, z, ⟨n, A1, m1, ca⟩, ⟨n', A2, m', cb⟩, sw⟩ := v
        unfold SpanV.v at HC
        simp only at c0 c1 c2 c3 c4 c5 c6 c7 HC
        have EF : Hid (foundP l key t = (key s == t)) := by show _ = _; unfold foundP; rw [EP.out, hs]
        have hk : ¬ key s < t := by have := HHi.out i (Nat.le_refl _) s hs; omega
        clear hv hs hR
        by_cases hk2 : t < key s
        · have EF : Hid (foundP l key t = false) := by show _ = _; rw [EF.out, beq_eq_false_iff_ne]; omega
          rw [show cmpI (key s) t = 1 from by unfold cmpI; rw [if_neg hk, if_pos hk2]] at HC
          clear hk hk2
          go_wp2_with fail
          refine HC.out.mono ?_
          rintro e w1 ⟨rfl, hb1⟩
          have HB1 := Lib.hid (bthen HBr.out hb1)
          clear hb1
          go_wp2
          go_ret2
          rw [EP.out, EF.out]
          exact ⟨rfl, HB1.out⟩
        · have EF : Hid (foundP l key t = true) := by show _ = _; rw [EF.out, beq_iff_eq]; omega
          rw [show cmpI (key s) t = 0 from by unfold cmpI; rw [if_neg hk, if_neg hk2]] at HC
          clear hk hk2
          go_wp2_with fail
          refine HC.out.mono ?_
          rintro e w1 ⟨rfl, hb1⟩
          have HB1 := Lib.hid (bthen HBr.out hb1)
          clear hb1
          go_wp2
          go_ret2
          rw [EP.out, EF.out]
          exact ⟨rfl, HB1.out⟩
      · have EF : Hid (foundP l key t = false) := by show _ = _; unfold foundP; rw [EP.out, List.getElem?_eq_none (by omega)]
        go_wp2
        go_ret2
        rw [EP.out, EF.out]
        exact ⟨rfl, HBr.out⟩
end Go.Proofs.YtchbbldanmmpjaaDoor
