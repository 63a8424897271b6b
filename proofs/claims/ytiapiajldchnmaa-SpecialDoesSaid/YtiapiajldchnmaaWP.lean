/- Plain laws of lists of specials: what is put keeps a list right; what is taken is what was put. -/
import Derived.Test.YtiapiajldchnmaaWG
namespace Go.Proofs.Ytiapiajldchnmaa
open Go.RowKit
set_option linter.unusedVariables false
set_option linter.unusedSimpArgs false

def noTwo (s t : Sp) : Prop := ¬ (s.k = 1 ∧ t.k = 1 ∧ s.a = t.a)
structure Good (l : List Sp) : Prop where
  len : l.length ≤ 64
  one : ∀ s ∈ l, oneP s = true
  asc : l.Pairwise (fun s t => s.a ≤ t.a)
  fin : l.Pairwise noTwo
theorem asc_of_adj {l : List Sp} (h : ∀ n r s, l[n]? = some r → l[n + 1]? = some s → r.a ≤ s.a) : l.Pairwise (fun s t => s.a ≤ t.a) := by
  rw [List.pairwise_iff_getElem]
  intro i j hi hj hij
  obtain ⟨d, rfl⟩ : ∃ d, j = i + 1 + d := ⟨j - (i + 1), by omega⟩
  clear hij
  induction d with
  | zero => exact h i _ _ (List.getElem?_eq_getElem hi) (List.getElem?_eq_getElem hj)
  | succ d ih =>
    have h1 := ih (by omega)
    have h2 := h (i + 1 + d) _ _ (List.getElem?_eq_getElem (by omega)) (List.getElem?_eq_getElem hj)
    exact Int.le_trans h1 h2
theorem good_iff (l : List Sp) : goodP l = true ↔ Good l := by
  unfold goodP
  simp only [Bool.and_eq_true, decide_eq_true_eq, Bool.not_eq_true', List.any_eq_false, List.mem_range]
  constructor
  · rintro ⟨h1, h2, h3⟩
    have h4 := sortB_cA.1 h2
    refine ⟨h1, ?_, asc_of_adj h4, ?_⟩
    · intro s hs
      obtain ⟨i, hi, rfl⟩ := List.getElem_of_mem hs
      have := h3 i hi
      unfold badAt at this
      rw [List.getElem?_eq_getElem hi] at this
      simp only [Bool.or_eq_true, Bool.not_eq_true'] at this
      cases h : oneP l[i] with
      | true => rfl
      | false => exact absurd (.inl h) this
    · rw [List.pairwise_iff_getElem]
      rintro i j hi hj hij ⟨e1, e2, e3⟩
      have := h3 j hj
      unfold badAt at this
      rw [List.getElem?_eq_getElem hj] at this
      apply this
      have hf : finalP (l.take j) l[j].a = true := by
        unfold finalP
        rw [List.any_eq_true]
        refine ⟨l[i], List.mem_of_getElem? (i := i) (by rw [List.getElem?_take, if_pos hij]; exact List.getElem?_eq_getElem hi), ?_⟩
        simp [isP, e1, e3]
      simp [e2, hf]
  · rintro ⟨h1, h2, h3, h4⟩
    refine ⟨h1, ?_, ?_⟩
    · rw [sortB_cA]
      intro n r s hr hs
      obtain ⟨hn, rfl⟩ := List.getElem?_eq_some_iff.1 hr
      obtain ⟨hn', rfl⟩ := List.getElem?_eq_some_iff.1 hs
      exact List.pairwise_iff_getElem.1 h3 n (n + 1) hn hn' (by omega)
    · intro j hj
      unfold badAt
      rw [List.getElem?_eq_getElem hj]
      simp only [h2 l[j] (List.getElem_mem _), Bool.not_true, Bool.false_or, Bool.and_eq_true, beq_iff_eq, not_and, Bool.not_eq_true]
      intro hk
      cases hf : finalP (l.take j) l[j].a with
      | false => rfl
      | true =>
        unfold finalP at hf
        rw [List.any_eq_true] at hf
        obtain ⟨r, hr, hp⟩ := hf
        obtain ⟨i, hi, he⟩ := List.getElem_of_mem hr
        rw [List.length_take] at hi
        rw [List.getElem_take] at he
        simp only [isP, Bool.and_eq_true, beq_iff_eq] at hp
        refine absurd ⟨?_, hk, ?_⟩ (List.pairwise_iff_getElem.1 h4 i j (by omega) hj (by omega))
        · rw [he]; exact hp.2
        · rw [he]; exact hp.1

theorem idxE_lo {l : List Sp} {s : Sp} : ∀ t ∈ l.take (idxE l s), t.a ≤ s.a := by
  intro t ht
  obtain ⟨i, hi, rfl⟩ := List.getElem_of_mem ht
  rw [List.length_take] at hi
  rw [List.getElem_take]
  unfold idxE at hi
  cases hf : l.findIdx? (fun t => decide (s.a < t.a)) with
  | none =>
    rw [List.findIdx?_eq_none_iff] at hf
    have := hf l[i] (List.getElem_mem _)
    simpa using this
  | some j =>
    rw [hf] at hi
    obtain ⟨hj, _, hno⟩ := List.findIdx?_eq_some_iff_getElem.1 hf
    have := hno i (by have h' : i < min j l.length := hi; omega)
    simpa using this
theorem idxE_hi {l : List Sp} {s : Sp} (h : l.Pairwise (fun s t => s.a ≤ t.a)) : ∀ t ∈ l.drop (idxE l s), s.a < t.a := by
  intro t ht
  cases hf : l.findIdx? (fun t => decide (s.a < t.a)) with
  | none =>
    have e : idxE l s = l.length := by unfold idxE; rw [hf]
    rw [e, List.drop_length] at ht
    cases ht
  | some j =>
    have e : idxE l s = j := by unfold idxE; rw [hf]
    rw [e] at ht
    obtain ⟨hj, hp, _⟩ := List.findIdx?_eq_some_iff_getElem.1 hf
    simp only [decide_eq_true_eq] at hp
    obtain ⟨i, hi, rfl⟩ := List.getElem_of_mem ht
    rw [List.length_drop] at hi
    rw [List.getElem_drop]
    rcases Nat.eq_zero_or_pos i with rfl | hi0
    · simpa using hp
    · have := List.pairwise_iff_getElem.1 h j (j + i) hj (by omega) (by omega)
      omega
theorem good_put {l : List Sp} {s : Sp} (h : Good l) (hp : putE l s = 0) : Good (putL l s) ∧ putL l s = insP l (idxE l s) s ∧ oneP s = true ∧ l.length < 64 := by
  unfold putE at hp
  split at hp
  · cases hp
  · rename_i h1
    split at hp
    · cases hp
    · rename_i h2
      split at hp
      · cases hp
      · rename_i h3
        have e : putL l s = insP l (idxE l s) s := by unfold putL; rw [if_neg h1, if_neg h2, if_neg h3]
        have ho : oneP s = true := by simpa using h1
        have hlen := h.len
        refine ⟨?_, e, ho, by omega⟩
        rw [e]
        have hsplit := List.take_append_drop (idxE l s) l
        have hlo := idxE_lo (l := l) (s := s)
        have hhi := idxE_hi (s := s) h.asc
        refine ⟨by rw [insP_len _ _ _ (idxE_le l s)]; omega, ?_, ?_, ?_⟩
        · intro t ht
          unfold insP at ht
          rw [List.mem_append, List.mem_cons] at ht
          rcases ht with ht | rfl | ht
          · exact h.one t (List.mem_of_mem_take ht)
          · exact ho
          · exact h.one t (List.mem_of_mem_drop ht)
        · unfold insP
          have ha := h.asc
          rw [← hsplit, List.pairwise_append] at ha
          rw [List.pairwise_append, List.pairwise_cons]
          refine ⟨ha.1, ⟨fun t ht => by have := hhi t ht; omega, ha.2.1⟩, fun t ht u hu => ?_⟩
          rw [List.mem_cons] at hu
          rcases hu with rfl | hu
          · exact hlo t ht
          · exact ha.2.2 t ht u hu
        · unfold insP
          have ha := h.fin
          rw [← hsplit, List.pairwise_append] at ha
          have hno : ∀ t ∈ l, s.k = 1 → t.k = 1 → s.a = t.a → False := by
            intro t ht e1 e2 e3
            apply h2
            simp only [Bool.and_eq_true, beq_iff_eq]
            refine ⟨e1, ?_⟩
            unfold finalP
            rw [List.any_eq_true]
            exact ⟨t, ht, by simp [isP, e2, e3]⟩
          rw [List.pairwise_append, List.pairwise_cons]
          refine ⟨ha.1, ⟨fun t ht => ?_, ha.2.1⟩, fun t ht u hu => ?_⟩
          · rintro ⟨e1, e2, e3⟩
            exact hno t (List.mem_of_mem_drop ht) e1 e2 e3
          · rw [List.mem_cons] at hu
            rcases hu with rfl | hu
            · rintro ⟨e1, e2, e3⟩
              exact hno t (List.mem_of_mem_take ht) e2 e1 e3.symm
            · exact ha.2.2 t ht u hu

theorem ins_filter (l : List Sp) (i : Nat) (s : Sp) (p : Sp → Bool) : (insP l i s).filter p = (l.take i).filter p ++ (if p s then [s] else []) ++ (l.drop i).filter p := by
  unfold insP
  rw [List.filter_append, List.filter_cons]
  split <;> simp
theorem filter_split (l : List Sp) (i : Nat) (p : Sp → Bool) : l.filter p = (l.take i).filter p ++ (l.drop i).filter p := by
  rw [← List.filter_append, List.take_append_drop]
theorem drop_none {l : List Sp} {s : Sp} (h : l.Pairwise (fun s t => s.a ≤ t.a)) (p : Sp → Bool) (hp : ∀ t, p t = true → t.a = s.a) : (l.drop (idxE l s)).filter p = [] := by
  rw [List.filter_eq_nil_iff]
  intro t ht hpt
  have h1 := idxE_hi (s := s) h t ht
  have h2 := hp t hpt
  omega
theorem isP_a {x k : Int} {t : Sp} (h : isP x k t = true) : t.a = x := by
  simp only [isP, Bool.and_eq_true, beq_iff_eq] at h
  exact h.1
theorem takeO_put {l : List Sp} {s : Sp} (h : Good l) (hp : putE l s = 0) : takeO (putL l s) s.a s.k = takeO l s.a s.k ++ [s] ∧ (takeO l s.a s.k = [] → takeL (putL l s) s.a s.k = l) := by
  obtain ⟨hg, e, _, _⟩ := good_put h hp
  have g1 := (good_iff _).2 h
  have g2 := (good_iff _).2 hg
  have hd := drop_none (s := s) h.asc (isP s.a s.k) (fun t ht => isP_a ht)
  have hs : isP s.a s.k s = true := by simp [isP]
  unfold takeO takeL
  rw [g1, g2, e]
  simp only [if_true]
  have e1 : l.filter (fun t => isP s.a s.k t) = (l.take (idxE l s)).filter (isP s.a s.k) := by
    rw [filter_split l (idxE l s), hd, List.append_nil]
  refine ⟨?_, fun hn => ?_⟩
  · rw [ins_filter, if_pos hs, hd, List.append_nil, e1]
  · rw [ins_filter, if_neg (by simp [hs]), List.append_nil, ← filter_split l (idxE l s)]
    rw [List.filter_eq_self]
    intro t ht
    rw [List.filter_eq_nil_iff] at hn
    simpa using hn t ht
theorem addP_one {l : List Sp} {s : Sp} : addP l [s] = if goodP l then (if putE l s = 0 then (putL l s, 0) else (l, putE l s)) else ([], 2) := by
  unfold addP
  split
  · simp only [addGo]
  · rfl
end Go.Proofs.Ytiapiajldchnmaa
