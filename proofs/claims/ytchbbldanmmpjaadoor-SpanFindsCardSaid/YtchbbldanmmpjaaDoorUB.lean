/- Where an address leads, plain. -/
import Derived.Test.YtchbbldanmmpjaaDoorU8
namespace Go.Proofs.YtchbbldanmmpjaaDoor
open Go.RowKit
set_option linter.unusedVariables false
set_option linter.unusedSimpArgs false

/-- An address inside a span leads to that span. -/
theorem idxF_in {l : List SpanB} (hok : okL l = true) {i : Nat} {s : SpanB} (hs : l[i]? = some s) {x : Int} (h0 : s.first * 16 ≤ x) (h1 : x < endP s * 16) : idxF l x = i := by
  have hil : i < l.length := (List.getElem?_eq_some_iff.1 hs).1
  have hlow : ∀ a, a < i → ∀ y, l[a]? = some y → y.first * 16 < x := by
    intro a ha y hy
    have h2 := okL_lt hok ha hy hs
    have h3 := (right_less (okL_right hok hy)).1
    omega
  by_cases he : s.first * 16 = x
  · have hp : posP l (fun s => s.first * 16) x = i := posP_of (by omega) hlow (fun y hy => by rw [hs] at hy; cases hy; show x ≤ _; omega)
    have hf : foundP l (fun s => s.first * 16) x = true := by
      unfold foundP
      rw [hp, hs]
      simpa using he
    unfold idxF
    rw [hf, hp]
    rfl
  · have hnext : ∀ y, l[i + 1]? = some y → x < y.first * 16 := by
      intro y hy
      have h2 := okL_lt hok (show i < i + 1 by omega) hs hy
      omega
    have hp : posP l (fun s => s.first * 16) x = i + 1 := by
      refine posP_of (by omega) ?_ (fun y hy => by have := hnext y hy; show x ≤ _; omega)
      intro a ha y hy
      rcases Nat.lt_or_ge a i with h | h
      · exact hlow a h y hy
      · obtain rfl : a = i := by omega
        rw [hs] at hy
        cases hy
        show _ < x
        omega
    have hf : foundP l (fun s => s.first * 16) x = false := by
      unfold foundP
      rw [hp]
      split
      · rename_i y hy
        have := hnext y hy
        rw [beq_eq_false_iff_ne]
        show y.first * 16 ≠ x
        omega
      · rfl
    unfold idxF
    rw [hf, hp]
    simp only [Bool.false_eq_true, if_false]
    omega
theorem findP_in {l : List SpanB} (hok : okL l = true) {i : Nat} {s : SpanB} (hs : l[i]? = some s) {x : Int} (h0 : s.first * 16 ≤ x) (h1 : x < endP s * 16) : findP l x = findIn i s x := by
  unfold findP
  rw [if_pos hok, idxF_in hok hs h0 h1, if_neg (by omega), Int.toNat_natCast, hs]
  rfl
/-- A slot's address leads to the slot, if it is in use. -/
theorem find_addr {l : List SpanB} (hok : okL l = true) {i : Nat} {s : SpanB} (hs : l[i]? = some s) {k : Int} (h0 : 0 ≤ k) (h1 : k < manyP s.size) :
    findP l (s.first * 16 + k * s.size) = if bitP s.al k.toNat = true then ⟨i, k, 0⟩ else ⟨0, 0, 10⟩ := by
  have hr := okL_right hok hs
  have hp := rightP_parts hr
  have hb := slot_bound hp.1 h0 h1
  have hg := shapedP_pages hp.1
  rw [findP_in hok hs (by omega) (by unfold endP; omega)]
  unfold findIn
  rw [if_neg (by unfold endP; omega)]
  have e : s.first * 16 + k * s.size - s.first * 16 = k * s.size := by omega
  rw [e]
  have hz := shapedP_size hp.1
  have e1 : slotP s.size (k * s.size) = k ∧ restP s.size (k * s.size) = 0 := by
    rcases hz with h | h | h | h | h
    · rw [h] at h1 ⊢
      have : manyP 0 = 1 := by decide +kernel
      unfold slotP restP
      exact ⟨by rw [if_neg (by omega)]; omega, by rw [if_neg (by omega)]; omega⟩
    all_goals
      rw [h]
      unfold slotP restP
      exact ⟨by rw [if_pos (by omega)]; omega, by rw [if_pos (by omega)]; omega⟩
  rw [e1.1, e1.2]
  simp
/-- What leads to a slot is its address. -/
theorem find_only {l : List SpanB} {i : Nat} {s : SpanB} (hs : l[i]? = some s) (hok : okL l = true) {x k : Int} (h0 : 0 ≤ k) (h1 : k < manyP s.size) (hi : (findP l x).i = i) (hk : (findP l x).k = k) (he : (findP l x).e = 0) : x = s.first * 16 + k * s.size := by
  unfold findP at hi hk he
  rw [if_pos hok] at hi hk he
  by_cases hneg : idxF l x < 0
  · rw [if_pos hneg] at he
    simp at he
  · rw [if_neg hneg] at hi hk he
    have hlt := idxF_lt (l := l) (x := x) (by omega)
    obtain ⟨y, hy⟩ : ∃ y, l[(idxF l x).toNat]? = some y := ⟨_, List.getElem?_eq_getElem hlt⟩
    rw [hy] at hi hk he
    unfold findOn findIn at hi hk he
    simp only at hi hk he
    split at he
    · simp at he
    · split at he
      · rename_i h2 h3
        rw [if_neg h2, if_pos h3] at hi hk
        simp only at hi hk
        have e : (idxF l x).toNat = i := by omega
        rw [e, hs] at hy
        cases hy
        have hr := okL_right hok hs
        have hz := shapedP_size (rightP_parts hr).1
        have h4 := h3.1
        unfold restP at h4
        unfold slotP at hk
        rcases hz with h | h | h | h | h
        · rw [h] at h4 ⊢
          rw [if_neg (by omega)] at h4
          omega
        all_goals
          rw [h] at h4 hk ⊢
          rw [if_pos (by omega)] at h4 hk
          omega
      · simp at he
end Go.Proofs.YtchbbldanmmpjaaDoor
