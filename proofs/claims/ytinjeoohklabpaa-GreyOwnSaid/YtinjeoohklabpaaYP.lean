/- What pushing and popping do to queues, plain. -/
import Derived.Test.YtinjeoohklabpaaYO
namespace Go.Proofs.Ytinjeoohklabpaa
open Go.RowKit
set_option linter.unusedVariables false
set_option linter.unusedSimpArgs false

theorem many_set {l : List (List Int)} {k : Nat} {s : List Int} (hs : l[k]? = some s) (s' : List Int) : manyN (l.set k s') + s.length = manyN l + s'.length := by
  unfold manyN
  induction l generalizing k with
  | nil => simp at hs
  | cons x t ih =>
    cases k with
    | zero =>
      simp at hs
      subst hs
      simp
      omega
    | succ k =>
      simp at hs
      have := ih hs
      simp only [List.set_cons_succ, List.map_cons, List.sum_cons] at this ⊢
      omega
theorem has_set {l : List (List Int)} {k : Nat} {s : List Int} (hs : l[k]? = some s) (s' : List Int) (x : Int) : hasN (l.set k s') x + s.count x = hasN l x + s'.count x := by
  unfold hasN
  induction l generalizing k with
  | nil => simp at hs
  | cons y t ih =>
    cases k with
    | zero =>
      simp at hs
      subst hs
      simp
      omega
    | succ k =>
      simp at hs
      have := ih hs
      simp only [List.set_cons_succ, List.map_cons, List.sum_cons] at this ⊢
      omega
theorem has_mem {l : List (List Int)} {x : Int} : x ∈ l.flatten ↔ 0 < hasN l x := by rw [hasN_count]; exact List.count_pos_iff.symm
theorem okQ_has {l : List (List Int)} : okQ l ↔ fitQ l ∧ hasN l 0 = 0 ∧ ∀ x, hasN l x ≤ 1 := by
  rw [okQ_iff]
  refine ⟨fun ⟨h1, h2⟩ => ⟨h1, ?_, fun x => ?_⟩, fun ⟨h1, h2, h3⟩ => ⟨h1, fun x hx => ⟨fun e => ?_, h3 x⟩⟩⟩
  · rcases Nat.eq_zero_or_pos (hasN l 0) with h | h
    · exact h
    · exact absurd rfl (h2 0 (has_mem.2 h)).1
  · rcases Nat.eq_zero_or_pos (hasN l x) with h | h
    · omega
    · exact (h2 x (has_mem.2 h)).2
  · subst e
    have := has_mem.1 hx
    omega
theorem bestTo_max (l : List (List Int)) (k i : Nat) (h : i < k) : lenAt l i ≤ lenAt l (bestTo l k) := by
  induction k with
  | zero => omega
  | succ k ih =>
    simp only [bestTo]
    split
    · rcases Nat.lt_or_ge i k with h' | h'
      · have := ih h'; omega
      · have : i = k := by omega
        subst this; omega
    · rcases Nat.lt_or_ge i k with h' | h'
      · exact ih h'
      · have : i = k := by omega
        subst this; omega
theorem many_none {l : List (List Int)} (h : ∀ s ∈ l, s.length = 0) : manyN l = 0 := by
  unfold manyN
  induction l with
  | nil => rfl
  | cons x t ih =>
    simp only [List.map_cons, List.sum_cons]
    rw [ih (fun s hs => h s (List.mem_cons_of_mem _ hs)), h x List.mem_cons_self]

/-- One word is taken. -/
structure Took (l : List (List Int)) (k : Nat) (r : Pp) : Prop where
  has : ∀ y, hasN l y = hasN r.q y + if r.a = y then 1 else 0
  many : manyN l = manyN r.q + 1
  len : r.q.length = l.length
  e : r.e = 0
  st : r.st = decide (lenAt l k = 0)
  le : ∀ (i : Nat) s t, l[i]? = some s → r.q[i]? = some t → t.length ≤ s.length
  own : r.st = true → lenAt r.q k = 0
theorem took_set {l : List (List Int)} {k b : Nat} {s s' : List Int} {x : Int} {st : Bool} (hb : l[b]? = some s) (hc : ∀ y, s.count y = s'.count y + if x = y then 1 else 0) (hl : s.length = s'.length + 1)
    (h1 : st = decide (lenAt l k = 0)) : Took l k ⟨l.set b s', x, st, 0⟩ := by
  refine ⟨fun y => ?_, ?_, by simp, rfl, h1, fun i t u ht hu => ?_, fun hst => ?_⟩
  · have := has_set hb s' y
    have := hc y
    simp only
    omega
  · have := many_set hb s'
    simp only
    omega
  · by_cases e : i = b
    · subst e
      simp only at hu
      rw [List.getElem?_set_self (List.getElem?_eq_some_iff.1 hb).1] at hu
      rw [hb] at ht
      cases ht
      cases hu
      omega
    · simp only at hu
      rw [List.getElem?_set_ne (by omega)] at hu
      rw [ht] at hu
      cases hu
      omega
  · simp only at hst
    rw [h1] at hst
    have h0 := of_decide_eq_true hst
    have hbk : b ≠ k := fun e => by
      subst e
      rw [lenAt_eq hb] at h0
      omega
    simp only [lenAt] at h0 ⊢
    rw [List.getElem?_set_ne hbk]
    exact h0
theorem popIn_cases {l : List (List Int)} {k : Nat} (hk : k < l.length) : (popIn l k = ⟨l, 0, false, 3⟩ ∧ manyN l = 0) ∨ Took l k (popIn l k) := by
  have hs : l[k]? = some l[k] := List.getElem?_eq_getElem hk
  generalize l[k] = s at hs
  by_cases h0 : s.length = 0
  · have e1 : popIn l k = popOther l (bestTo l l.length) := by unfold popIn; rw [hs]; simp [h0]
    have hb : bestTo l l.length < l.length := by
      obtain ⟨n, hn⟩ : ∃ n, l.length = n + 1 := ⟨l.length - 1, by omega⟩
      have hle : ∀ m, m ≤ l.length → 0 < m → bestTo l m < l.length := fun m => by
        induction m with
        | zero => intro _ h; omega
        | succ m ih =>
          intro hm _
          simp only [bestTo]
          split
          · omega
          · rcases Nat.eq_zero_or_pos m with e | e
            · subst e; simp [bestTo]; omega
            · exact ih (by omega) e
      exact hle _ (Nat.le_refl _) (by omega)
    have ht : l[bestTo l l.length]? = some l[bestTo l l.length] := List.getElem?_eq_getElem hb
    generalize l[bestTo l l.length] = t at ht
    rw [e1]
    cases t with
    | nil =>
      left
      refine ⟨by unfold popOther; rw [ht], many_none (fun s hs => ?_)⟩
      obtain ⟨i, hi, rfl⟩ := List.mem_iff_getElem.1 hs
      have := bestTo_max l l.length i hi
      rw [lenAt_eq ht, lenAt_eq (List.getElem?_eq_getElem hi)] at this
      simpa using this
    | cons x r =>
      right
      have e2 : popOther l (bestTo l l.length) = ⟨l.set (bestTo l l.length) r, x, true, 0⟩ := by unfold popOther; rw [ht]
      rw [e2]
      refine took_set ht (fun y => ?_) (by simp) ?_
      · rw [List.count_cons]
        simp
      · rw [lenAt_eq hs, h0]
        rfl
  · right
    have e1 : popIn l k = popOwn l k s := by unfold popIn; rw [hs]; simp [h0]
    rw [e1]
    obtain ⟨r, x, rfl⟩ : ∃ r x, s = r ++ [x] := ⟨s.dropLast, s.getLast (by intro e; simp [e] at h0), (List.dropLast_concat_getLast _).symm⟩
    unfold popOwn
    simp only [List.dropLast_concat, List.getLast?_append, List.getLast?_singleton, Option.some_or, Option.getD_some]
    refine took_set hs (fun y => ?_) (by simp) ?_
    · rw [List.count_append, List.count_singleton]
      simp
    · rw [lenAt_eq hs]
      simp
theorem Took.ok {l : List (List Int)} {k : Nat} {r : Pp} (h : Took l k r) (ho : okQ l) : okQ r.q := by
  obtain ⟨⟨f1, f2, f3⟩, o2, o3⟩ := okQ_has.1 ho
  refine okQ_has.2 ⟨⟨by rw [h.len]; exact f1, by rw [h.len]; exact f2, by have := h.many; omega⟩, by have := h.has 0; omega, fun x => by have := h.has x; have := o3 x; omega⟩
theorem Took.wd {l : List (List Int)} {k : Nat} {r : Pp} (h : Took l k r) (hw : WdQ l) : WdQ r.q := fun x hx => hw x (has_mem.2 (by have := has_mem.1 hx; have := h.has x; omega))
theorem Took.one {l : List (List Int)} {k : Nat} {r : Pp} (h : Took l k r) (ho : okQ l) : hasN l r.a = 1 ∧ hasN r.q r.a = 0 ∧ r.a ≠ 0 := by
  obtain ⟨_, o2, o3⟩ := okQ_has.1 ho
  have h1 := h.has r.a
  have h2 := o3 r.a
  rw [if_pos rfl] at h1
  refine ⟨by omega, by omega, fun e => ?_⟩
  rw [e] at h1
  omega

theorem has_app {l : List (List Int)} {k : Nat} (hk : k < l.length) (a y : Int) : hasN (appAt l k a) y = hasN l y + if a = y then 1 else 0 := by
  rw [appAt_eq a (List.getElem?_eq_getElem hk)]
  have := has_set (List.getElem?_eq_getElem hk) (l[k] ++ [a]) y
  rw [List.count_append, List.count_singleton] at this
  simp only [beq_iff_eq] at this
  omega
theorem okQ_app {l : List (List Int)} {k : Nat} {a : Int} (ho : okQ l) (hk : k < l.length) (hp : putE l a = 0) : okQ (appAt l k a) := by
  obtain ⟨⟨f1, f2, f3⟩, o2, o3⟩ := okQ_has.1 ho
  have h1 := putE_many hp f3
  have h2 : a ≠ 0 ∧ inQ l a = false := by
    rcases putE_cases l a with h | h | h | h
    · omega
    · omega
    · omega
    · exact ⟨h.1, h.2.1⟩
  rw [inQ_has] at h2
  have h3 := of_decide_eq_false h2.2
  refine okQ_has.2 ⟨⟨by rw [appAt_len]; exact f1, by rw [appAt_len]; exact f2, by rw [many_appAt hk]; omega⟩, by rw [has_app hk, if_neg h2.1, o2], fun y => ?_⟩
  rw [has_app hk]
  have := o3 y
  split
  · rename_i e
    subst e
    omega
  · omega
theorem WdQ_app {l : List (List Int)} {k : Nat} {a : Int} (hw : WdQ l) (hk : k < l.length) (ha : 0 ≤ a ∧ a < 18446744073709551616) : WdQ (appAt l k a) := fun x hx => by
  have h1 := has_mem.1 hx
  rw [has_app hk] at h1
  by_cases e : a = x
  · exact e ▸ ha
  · rw [if_neg e] at h1
    exact hw x (has_mem.2 (by omega))
theorem pushP_one (l : List (List Int)) (k a : Int) : pushP l k [a] = if okQ l then (if 0 ≤ k ∧ k < l.length then (if putE l a = 0 then (appAt l k.toNat a, 0) else (l, putE l a)) else (l, 11)) else ([], 2) := by
  unfold pushP
  split
  · split
    · rw [pushGo]
      split
      · rw [pushGo]
      · rfl
    · rfl
  · rfl
/-- What was pushed is popped. -/
theorem pop_app {l : List (List Int)} {k a : Int} (ho : okQ l) (hk : 0 ≤ k ∧ k < l.length) (hp : putE l a = 0) : popP (appAt l k.toNat a) k = ⟨l, a, false, 0⟩ := by
  have hk' : k.toNat < l.length := by omega
  unfold popP
  rw [if_pos (okQ_app ho hk' hp), if_pos (by rw [appAt_len]; exact hk), appAt_eq a (List.getElem?_eq_getElem hk')]
  unfold popIn
  rw [List.getElem?_set_self hk']
  simp only [List.length_append, List.length_singleton]
  rw [if_neg (by omega)]
  unfold popOwn
  simp
theorem putE_pos (l : List (List Int)) (a : Int) : 0 ≤ putE l a := by
  rcases putE_cases l a with h | h | h | h <;> omega
end Go.Proofs.Ytinjeoohklabpaa
