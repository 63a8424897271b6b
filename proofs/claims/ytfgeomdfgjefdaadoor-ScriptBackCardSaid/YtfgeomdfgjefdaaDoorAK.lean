/- Plain: what is parsed; a print is parsed as its events. -/
import Derived.Test.YtfgeomdfgjefdaaDoorAJ
namespace Go.Proofs.YtfgeomdfgjefdaaDoor
open Go.RowKit
set_option linter.unusedVariables false
set_option linter.unusedSimpArgs false

def prep (a : List UInt8) : List (List UInt8) → List (List UInt8)
  | [] => []
  | p :: r => (a ++ p) :: r
theorem prep_app (a b : List UInt8) (x : List (List UInt8)) : prep (a ++ b) x = prep a (prep b x) := by cases x <;> simp [prep]
theorem lns_prep : ∀ (l a b : List UInt8), lns (a ++ b) l = prep a (lns b l) := by
  intro l
  induction l with
  | nil => intro a b; rfl
  | cons c r ih =>
    intro a b
    rw [lns, lns]
    split
    · rfl
    · rw [List.append_assoc, ih]
theorem split_lns : ∀ l : List UInt8, Lib.splitK [10] 0 (l.count 10) l = lns [] l := by
  intro l
  induction l with
  | nil => rfl
  | cons c r ih =>
    rw [lns]
    by_cases hc : c = 10
    · subst hc
      rw [if_pos rfl, ← ih, List.count_cons_self, Lib.splitK]
      have hix : Lib.index (10 :: r) [10] = 0 := by rw [Lib.index]; simp [List.isPrefixOf]
      rw [hix]
      simp
    · rw [if_neg hc, List.count_cons_of_ne hc]
      have hix : Lib.index (c :: r) [10] = if Lib.index r [10] == -1 then -1 else Lib.index r [10] + 1 := by
        rw [Lib.index]
        have : ([10] : List UInt8).isPrefixOf (c :: r) = false := by simp [List.isPrefixOf, Ne.symm hc]
        rw [this]
        simp
      have e1 : lns ([] ++ [c]) r = prep [c] (lns [] r) := by
        have := lns_prep r [c] []
        rw [List.append_nil] at this
        rw [List.nil_append, this]
      rw [e1, ← ih]
      cases hk : r.count 10 with
      | zero => rfl
      | succ j =>
        rw [Lib.splitK, Lib.splitK, hix]
        have hge := Lib.index_ge r [10]
        by_cases hm : Lib.index r [10] = -1
        · rw [hm]
          simp [prep]
        · have h1 : (Lib.index r [10] == -1) = false := by rw [beq_eq_false_iff_ne]; exact hm
          have h2 : (Lib.index r [10] + 1 == -1) = false := by rw [beq_eq_false_iff_ne]; omega
          obtain ⟨i, hi⟩ : ∃ i : Nat, Lib.index r [10] = i := ⟨(Lib.index r [10]).toNat, by omega⟩
          have h3 : (((i : Int) + 1).toNat) = i + 1 := by omega
          rw [h1]
          simp only [Bool.false_eq_true, if_false]
          rw [h2, hi, h3]
          simp [prep]
theorem countB_eq (l : List UInt8) : Lib.countB ⟨l.toArray⟩ ⟨#[10]⟩ = l.count 10 := (Lib.count_one 10 l)
theorem pieces_lns (l : List UInt8) : piecesL l = lns [] l := by unfold piecesL; rw [countB_eq, split_lns]
theorem parseGo_agree : ∀ (ps : List (List UInt8)) (i : Nat) (out : List Ev), parseGo readP ps i out = parseGo readR ps i out := by
  intro ps
  induction ps with
  | nil => intro i out; rfl
  | cons p r ih =>
    intro i out
    obtain ⟨h1, h2⟩ := read_agree p
    rw [parseGo, parseGo, ← h1]
    split
    · exact ih _ _
    · split
      · rfl
      · rename_i h3
        split
        · rfl
        · rw [h2 (by simpa using h3)]
          exact ih _ _
theorem parse_agree (l : List UInt8) : parseP readP l = parseQ l := by
  unfold parseP parseQ
  rw [parseGo_agree, pieces_lns]
theorem lns_line : ∀ (p cur r : List UInt8), (∀ c ∈ p, c ≠ 10) → lns cur (p ++ 10 :: r) = (cur ++ p) :: lns [] r := by
  intro p
  induction p with
  | nil => intro cur r _; rw [List.nil_append, lns, if_pos rfl, List.append_nil]
  | cons c q ih =>
    intro cur r h
    rw [List.cons_append, lns, if_neg (h c (by simp)), ih _ _ (fun x hx => h x (by simp [hx]))]
    simp
theorem line_plain {e : Ev} (h : okEv e) : lineL e ≠ [] ∧ ∀ c ∈ lineL e, c ≠ 10 := by
  obtain ⟨h1, h2⟩ := heads_len3 _ (heads16_eq ▸ oneE_mem h)
  rw [line_split h]
  refine ⟨by simp [h1], fun c hc => ?_⟩
  rcases List.mem_append.1 hc with hc | hc
  · exact h2 c hc
  · unfold tailL at hc
    split at hc
    · simp at hc
    · rcases List.mem_append.1 hc with hc | hc
      · intro e; subst e; revert hc; decide
      · exact dec_ne10 _ c hc
theorem lns_print : ∀ (l : List Ev), (∀ e ∈ l, okEv e) → lns [] (printL l) = l.map lineL ++ [[]] := by
  intro l
  induction l with
  | nil => intro _; rfl
  | cons e r ih =>
    intro h
    have := lns_line (lineL e) [] (printL r) (line_plain (h e (by simp))).2
    unfold printL at this ⊢
    rw [List.flatMap_cons, List.append_assoc, List.singleton_append, this]
    rw [show lns [] (List.flatMap (fun e => lineL e ++ [10]) r) = r.map lineL ++ [[]] from ih (fun x hx => h x (by simp [hx]))]
    simp
theorem parseGo_lines : ∀ (l : List Ev) (i : Nat) (out : List Ev), (∀ e ∈ l, okEv e) → out.length + l.length ≤ 4096 → parseGo readR (l.map lineL ++ [[]]) i out = (out ++ l, 0, 0) := by
  intro l
  induction l with
  | nil => intro i out _ _; simp [parseGo]
  | cons e r ih =>
    intro i out h hl
    have he := h e (by simp)
    rw [List.length_cons] at hl
    rw [List.map_cons, List.cons_append, parseGo, if_neg (line_plain he).1, readR_line he]
    simp only
    rw [if_neg (by simp), if_neg (by omega), ih _ _ (fun x hx => h x (by simp [hx])) (by rw [List.length_append]; simp; omega)]
    simp
theorem parse_print {l : List Ev} (h : okL l) (hs : (printL l).length ≤ 65536) : parseQ (printL l) = (l, 0, 0) := by
  unfold parseQ
  rw [if_neg (by omega), lns_print l h.2, parseGo_lines l 0 [] h.2 (by simpa using h.1), List.nil_append]
theorem parseGo_ends : ∀ (ps : List (List UInt8)) (i : Nat) (out : List Ev), okL out → ((parseGo readR ps i out).2.2 = 0 ∧ okL (parseGo readR ps i out).1 ∧ (parseGo readR ps i out).2.1 = 0) ∨
    ((parseGo readR ps i out).1 = [] ∧ 0 < (parseGo readR ps i out).2.1 ∧ ((parseGo readR ps i out).2.2 = 2 ∨ (parseGo readR ps i out).2.2 = 6)) := by
  intro ps
  induction ps with
  | nil => intro i out h; exact .inl ⟨rfl, h, rfl⟩
  | cons p r ih =>
    intro i out h
    rw [parseGo]
    split
    · exact ih _ _ h
    · split
      · exact .inr ⟨rfl, by show (0 : Int) < ((i + 1 : Nat) : Int); omega, .inl rfl⟩
      · rename_i h3
        split
        · exact .inr ⟨rfl, by show (0 : Int) < ((i + 1 : Nat) : Int); omega, .inr rfl⟩
        · rename_i h4
          have hr := (readR_ok (by simpa using h3)).1
          refine ih _ _ ⟨?_, fun e he => ?_⟩
          · have := h.1
            rw [List.length_append]
            simp
            omega
          · rcases List.mem_append.1 he with he | he
            · exact h.2 e he
            · rw [List.mem_singleton.1 he]; exact hr
theorem parse_ends (l : List UInt8) : ((parseQ l).2.2 = 0 ∧ okL (parseQ l).1 ∧ (parseQ l).2.1 = 0) ∨ ((parseQ l).1 = [] ∧ (parseQ l).2.2 ≠ 0 ∧ ((0 < (parseQ l).2.1 ∧ (parseQ l).2.2 ≠ 1) ∨ ((parseQ l).2.1 = 0 ∧ (parseQ l).2.2 = 1))) := by
  unfold parseQ
  split
  · exact .inr ⟨rfl, by decide, .inr ⟨rfl, rfl⟩⟩
  · rcases parseGo_ends (lns [] l) 0 [] ⟨by simp, by simp⟩ with h | ⟨h1, h2, h3⟩
    · exact .inl h
    · refine .inr ⟨h1, ?_, .inl ⟨h2, ?_⟩⟩ <;> rcases h3 with h3 | h3 <;> rw [h3] <;> decide
end Go.Proofs.YtfgeomdfgjefdaaDoor
