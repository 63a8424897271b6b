/- Lists of right spans, plain: what is added, and dropped, leaves all as it was. -/
import Derived.Test.YtchbbldanmmpjaaDoorT7
namespace Go.Proofs.YtchbbldanmmpjaaDoor
open Go.RowKit
set_option linter.unusedVariables false
set_option linter.unusedSimpArgs false

def Apt (a b : SpanB) : Prop := endP a ≤ b.first
theorem okL_pair {l : List SpanB} (h : okL l = true) : l.Pairwise Apt := by
  rw [List.pairwise_iff_getElem]
  intro i j hi hj hij
  exact okL_lt h hij (List.getElem?_eq_getElem hi) (List.getElem?_eq_getElem hj)
theorem okL_all {l : List SpanB} (h : okL l = true) : ∀ s ∈ l, rightP s = true := by
  intro s hs
  obtain ⟨i, hi, rfl⟩ := List.getElem_of_mem hs
  exact okL_right h (List.getElem?_eq_getElem hi)
theorem okL_of {l : List SpanB} (hn : l.length ≤ 256) (hr : ∀ s ∈ l, rightP s = true) (hp : l.Pairwise Apt) : okL l = true := by
  rw [okL, decide_eq_true hn, Bool.true_and, okTo, List.all_eq_true]
  intro k hk
  have hk := List.mem_range.1 hk
  unfold atOk
  rw [List.getElem?_eq_getElem hk]
  simp only [Bool.and_eq_true, Bool.or_eq_true, decide_eq_true_eq]
  refine ⟨hr _ (List.getElem_mem hk), ?_⟩
  rcases k with _ | j
  · exact .inl rfl
  · right
    have hj : j < l.length := by omega
    rw [Nat.add_sub_cancel, List.getElem?_eq_getElem hj]
    simp only [decide_eq_true_eq]
    exact List.pairwise_iff_getElem.1 hp j (j + 1) hj hk (by omega)

theorem mem_take_at {l : List SpanB} {n : Nat} {x : SpanB} (h : x ∈ l.take n) : ∃ a, a < n ∧ l[a]? = some x := by
  obtain ⟨a, ha, rfl⟩ := List.getElem_of_mem h
  have h1 : a < n := by
    rw [List.length_take] at ha
    omega
  refine ⟨a, h1, ?_⟩
  have h2 := List.getElem?_eq_getElem ha
  rw [List.getElem?_take, if_pos h1] at h2
  exact h2
theorem mem_drop_at {l : List SpanB} {n : Nat} {x : SpanB} (h : x ∈ l.drop n) : ∃ a, l[n + a]? = some x := by
  obtain ⟨a, ha, rfl⟩ := List.getElem_of_mem h
  have h2 := List.getElem?_eq_getElem ha
  rw [List.getElem?_drop] at h2
  exact ⟨a, h2⟩

/-- Where nothing laps, all to the left ends before, all to the right begins behind. -/
theorem lap_left {l : List SpanB} {s : SpanB} (hok : okL l = true) (hl : lapP l s = false) : ∀ x ∈ l.take (posF l s), endP x ≤ s.first := by
  intro x hx
  obtain ⟨a, ha, hax⟩ := mem_take_at hx
  unfold lapP at hl
  simp only [Bool.or_eq_false_iff] at hl
  have h2 := hl.2.1
  unfold leftP at h2
  have hle : posF l s ≤ l.length := posP_le _ _ _
  generalize posF l s = P at *
  rcases P with _ | j
  · omega
  · have hj : j < l.length := by omega
    have hjs : l[j]? = some l[j] := List.getElem?_eq_getElem hj
    simp only [hjs, decide_eq_false_iff_not, Int.not_lt] at h2
    rcases Nat.lt_or_ge a j with h | h
    · have h3 := okL_lt hok h hax hjs
      have h4 := (right_less (okL_right hok hjs)).1
      omega
    · obtain rfl : a = j := by omega
      rw [hjs] at hax
      cases hax
      exact h2
theorem lap_right {l : List SpanB} {s : SpanB} (hok : okL l = true) (hl : lapP l s = false) : ∀ y ∈ l.drop (posF l s), endP s ≤ y.first := by
  intro y hy
  obtain ⟨a, hay⟩ := mem_drop_at hy
  unfold lapP at hl
  simp only [Bool.or_eq_false_iff] at hl
  have h2 := hl.2.2
  unfold nextP at h2
  generalize posF l s = P at *
  have hlt : P + a < l.length := (List.getElem?_eq_some_iff.1 hay).1
  have hP : l[P]? = some l[P] := List.getElem?_eq_getElem (by omega)
  simp only [hP, decide_eq_false_iff_not, Int.not_lt] at h2
  rcases a with _ | j
  · rw [Nat.add_zero, hP] at hay
    cases hay
    exact h2
  · have h3 := okL_lt hok (show P < P + (j + 1) by omega) hP hay
    have h4 := (right_less (okL_right hok hP)).1
    omega
theorem mem_insB {l : List SpanB} {i : Nat} {s x : SpanB} (h : x ∈ insB l i s) : x ∈ l ∨ x = s := by
  unfold insB at h
  simp only [List.mem_append, List.mem_cons] at h
  rcases h with h | h | h
  · exact .inl (List.mem_of_mem_take h)
  · exact .inr h
  · exact .inl (List.mem_of_mem_drop h)
theorem insB_len (l : List SpanB) (i : Nat) (s : SpanB) : (insB l i s).length = l.length + 1 := by
  unfold insB
  rw [List.length_append, List.length_cons, List.length_take, List.length_drop]
  omega
theorem insB_ok {l : List SpanB} {s : SpanB} (hok : okL l = true) (hr : rightP s = true) (hl : lapP l s = false) (hn : l.length ≠ 256) : okL (insB l (posF l s) s) = true := by
  have h256 := okL_len hok
  refine okL_of (by rw [insB_len]; omega) ?_ ?_
  · intro x hx
    rcases mem_insB hx with h | h
    · exact okL_all hok x h
    · rw [h]; exact hr
  · have hp := okL_pair hok
    have hA := lap_left hok hl
    have hB := lap_right hok hl
    have hs := (right_less hr).1
    generalize posF l s = P at *
    rw [← List.take_append_drop P l, List.pairwise_append] at hp
    unfold insB
    rw [List.pairwise_append, List.pairwise_cons]
    refine ⟨hp.1, ⟨hB, hp.2.1⟩, fun x hx y hy => ?_⟩
    rcases List.mem_cons.1 hy with rfl | hy
    · exact hA x hx
    · exact hp.2.2 x hx y hy
theorem insB_drop {l : List SpanB} {s : SpanB} (hok : okL l = true) (hr : rightP s = true) (hl : lapP l s = false) : (insB l (posF l s) s).filter (fun x => !(x.first == s.first)) = l := by
  have hA := lap_left hok hl
  have hB := lap_right hok hl
  have hs := (right_less hr).1
  generalize posF l s = P at *
  unfold insB
  rw [List.filter_append, List.filter_cons]
  simp only [beq_self_eq_true, Bool.not_true, Bool.false_eq_true, if_false]
  have h1 : (l.take P).filter (fun x => !(x.first == s.first)) = l.take P := by
    rw [List.filter_eq_self]
    intro x hx
    have h1 := hA x hx
    have h2 := (right_less (okL_all hok x (List.mem_of_mem_take hx))).1
    simp only [Bool.not_eq_true', beq_eq_false_iff_ne]
    omega
  have h2 : (l.drop P).filter (fun x => !(x.first == s.first)) = l.drop P := by
    rw [List.filter_eq_self]
    intro x hx
    have h1 := hB x hx
    simp only [Bool.not_eq_true', beq_eq_false_iff_ne]
    omega
  rw [h1, h2, List.take_append_drop]
/-- What the law asks of Add and Drop. -/
theorem back_plain (l : List SpanB) (s : SpanB) :
    (addE l s = 2 ∧ addL l s = []) ∨ ((addE l s = 4 ∨ addE l s = 6) ∧ addL l s = l) ∨
    (addE l s = 0 ∧ okL (addL l s) = true ∧ (addL l s).length = l.length + 1 ∧ dropE (addL l s) s.first = 0 ∧ dropL (addL l s) s.first = l ∧ ∀ x ∈ addL l s, x ∈ l ∨ x = s) := by
  unfold addE addL
  by_cases h : okL l = true ∧ rightP s = true
  · rw [if_pos h, if_pos h]
    by_cases hl : lapP l s = true
    · rw [if_pos hl, if_pos hl]
      exact .inr (.inl ⟨.inl rfl, rfl⟩)
    · rw [if_neg hl, if_neg hl]
      have hl : lapP l s = false := by simpa using hl
      by_cases hn : l.length = 256
      · rw [if_pos hn, if_pos hn]
        exact .inr (.inl ⟨.inr rfl, rfl⟩)
      · rw [if_neg hn, if_neg hn]
        have hk := insB_ok h.1 h.2 hl hn
        have hd := insB_drop h.1 h.2 hl
        refine .inr (.inr ⟨rfl, hk, insB_len _ _ _, ?_, ?_, fun x hx => mem_insB hx⟩)
        · unfold dropE
          rw [if_pos hk, hd, insB_len, if_neg (by omega)]
        · unfold dropL
          rw [if_pos hk, hd]
  · rw [if_neg h, if_neg h]
    exact .inl ⟨rfl, rfl⟩
end Go.Proofs.YtchbbldanmmpjaaDoor
