/- Plain: a line is read as its event; both reads agree; pieces are lines. -/
import Derived.Test.YtfgeomdfgjefdaaDoorAI
namespace Go.Proofs.YtfgeomdfgjefdaaDoor
open Go.RowKit
set_option linter.unusedVariables false
set_option linter.unusedSimpArgs false

def headC (e : Ev) : List UInt8 := if e.thr = true then [116, UInt8.ofNat (48 + e.who.toNat)] else if e.kind = 2 ∨ e.kind = 3 then nameL e.kind ++ [32, UInt8.ofNat (48 + e.tw.toNat)] else nameL e.kind
theorem headC_eq {e : Ev} (h : okEv e) : headL e = headC e := by
  have h2 := h.2.2
  unfold headL headC
  split
  · rename_i ht
    rw [if_pos ht] at h2
    rw [Lib.decDigits_one (by omega)]
  · rename_i ht
    rw [if_neg ht] at h2
    split
    · rename_i hk
      have h3 := h2.2
      rw [if_pos hk] at h3
      rw [Lib.decDigits_one (by omega)]
      simp
    · rfl
theorem headC_one (e : Ev) : headC (oneE e) = headC e := rfl
theorem oneE_mem {e : Ev} (h : okEv e) : oneE e ∈ headsL := by
  obtain ⟨t, who, kind, tw, n⟩ := e
  have h2 := h.2.2
  unfold oneE
  simp only at h2 ⊢
  cases t with
  | true =>
    rw [if_pos rfl] at h2
    obtain ⟨h3, h4, rfl, rfl⟩ := h2
    have : who = 0 ∨ who = 1 ∨ who = 2 ∨ who = 3 := by omega
    rcases this with rfl | rfl | rfl | rfl <;> decide
  | false =>
    rw [if_neg (by simp)] at h2
    obtain ⟨rfl, h3⟩ := h2
    split at h3
    · rename_i hk
      have : tw = 0 ∨ tw = 1 ∨ tw = 2 ∨ tw = 3 := by omega
      rcases hk with rfl | rfl <;> rcases this with rfl | rfl | rfl | rfl <;> decide
    · obtain ⟨h4, rfl⟩ := h3
      rcases h4 with rfl | rfl | rfl | rfl <;> decide
theorem oneE_times {e : Ev} (h : e.times = 1) : oneE e = e := by
  obtain ⟨t, who, kind, tw, n⟩ := e
  simp only at h
  subst h
  rfl
def heads16 : List Ev := [⟨true, 0, 0, 0, 1⟩, ⟨false, 0, 2, 0, 1⟩, ⟨false, 0, 3, 0, 1⟩, ⟨true, 1, 0, 0, 1⟩, ⟨false, 0, 2, 1, 1⟩, ⟨false, 0, 3, 1, 1⟩, ⟨true, 2, 0, 0, 1⟩, ⟨false, 0, 2, 2, 1⟩, ⟨false, 0, 3, 2, 1⟩, ⟨true, 3, 0, 0, 1⟩, ⟨false, 0, 2, 3, 1⟩, ⟨false, 0, 3, 3, 1⟩, ⟨false, 0, 1, 0, 1⟩, ⟨false, 0, 4, 0, 1⟩, ⟨false, 0, 5, 0, 1⟩, ⟨false, 0, 6, 0, 1⟩]
theorem heads16_eq : headsL = heads16 := by decide
theorem heads_inj : ∀ a ∈ heads16, ∀ b ∈ heads16, headC a = headC b → a = b := by decide
theorem index_no : ∀ e ∈ heads16, Lib.index (headC e) [32, 42, 32] = -1 := by decide
theorem index_sep : ∀ e ∈ heads16, ∀ t, Lib.index (headC e ++ ([32, 42, 32] ++ t)) [32, 42, 32] = ((headC e).length : Int) := by
  intro e he t
  simp only [heads16, List.mem_cons, List.not_mem_nil, or_false] at he
  rcases he with rfl | rfl | rfl | rfl | rfl | rfl | rfl | rfl | rfl | rfl | rfl | rfl | rfl | rfl | rfl | rfl <;> rfl
theorem cut_no {e : Ev} (h : e ∈ heads16) : Lib.cut (headC e) [32, 42, 32] = (headC e, [], false) := by
  unfold Lib.cut
  rw [index_no e h, if_neg (by omega)]
theorem cut_sep {e : Ev} (h : e ∈ heads16) (t : List UInt8) : Lib.cut (headC e ++ ([32, 42, 32] ++ t)) [32, 42, 32] = (headC e, t, true) := by
  unfold Lib.cut
  rw [index_sep e h t, if_pos (by omega)]
  simp only [Prod.mk.injEq, and_true]
  constructor
  · simp
  · rw [← List.append_assoc, List.drop_left' (by simp)]
theorem head_one : ∀ e ∈ heads16, headP (headC e) = (e, true) := by decide
theorem heads_len3 : ∀ e ∈ heads16, headC e ≠ [] ∧ ∀ c ∈ headC e, c ≠ 10 := by decide
def tailL (e : Ev) : List UInt8 := if e.times = 1 then [] else [32, 42, 32] ++ Lib.decDigits e.times.toNat
theorem line_split {e : Ev} (h : okEv e) : lineL e = headC (oneE e) ++ tailL e := by
  unfold lineL tailL
  rw [headC_eq h]
  rfl
theorem readP_line {e : Ev} (h : okEv e) : readP (lineL e) = (e, true) := by
  have hm : oneE e ∈ heads16 := heads16_eq ▸ oneE_mem h
  have hh := head_one _ hm
  have h1 := h.1
  have h2 := h.2.1
  have hl := line_split h
  unfold tailL at hl
  unfold readP
  by_cases ht : e.times = 1
  · rw [if_pos ht, List.append_nil] at hl
    have hc := cut_no hm
    rw [← hl] at hc hh
    simp only [hc, hh]
    rw [oneE_times ht]
    simp [h]
  · rw [if_neg ht] at hl
    have hc := cut_sep hm (Lib.decDigits e.times.toNat)
    rw [← hl] at hc
    have hn := numP_dec e.times.toNat (by omega)
    have he : ({ oneE e with times := ((e.times.toNat : Nat) : Int) } : Ev) = e := by
      unfold oneE
      obtain ⟨t, who, kind, tw, n⟩ := e
      simp only [Ev.mk.injEq, true_and] at h1 ⊢
      omega
    simp only [hc, hh, hn, if_true, he]
    simp [h]
theorem readP_ok {l : List UInt8} (h : (readP l).2 = true) : okEv (readP l).1 ∧ lineL (readP l).1 = l := by
  unfold readP at h ⊢
  simp only [Bool.and_eq_true, decide_eq_true_eq] at h ⊢
  exact h.2
theorem scan_app : ∀ (l : List UInt8) (acc u : Nat) (c : UInt8), scanR acc l = some u → u ≤ 4096 → 48 ≤ c.toNat → c.toNat ≤ 57 → scanR acc (l ++ [c]) = some (10 * u + (c.toNat - 48)) := by
  intro l
  induction l with
  | nil =>
    intro acc u c h hu h1 h2
    simp only [scanR, Option.some.injEq] at h
    subst h
    rw [List.nil_append, scanR, if_neg (by omega), if_pos ⟨h1, h2⟩, scanR]
  | cons b r ih =>
    intro acc u c h hu h1 h2
    rw [scanR] at h
    rw [List.cons_append, scanR]
    split at h
    · simp only [Option.some.injEq] at h
      omega
    · rename_i hb
      rw [if_neg hb]
      split at h
      · rename_i hd
        rw [if_pos hd]
        exact ih _ _ _ h hu h1 h2
      · cases h
theorem scan_dec (n : Nat) (hn : n ≤ 4096) : scanR 0 (Lib.decDigits n) = some n := by
  induction n using Nat.strongRecOn with
  | ind n ih =>
    by_cases h : 9 < n
    · rw [dec_step h, scan_app _ 0 (n / 10) _ (ih (n / 10) (by omega) (by omega)) (by omega) (by rw [dig_toNat (by omega)]; omega) (by rw [dig_toNat (by omega)]; omega), dig_toNat (by omega)]
      congr 1
      omega
    · rw [dec_last (by omega), scanR, if_neg (by omega), if_pos ⟨by rw [dig_toNat (by omega)]; omega, by rw [dig_toNat (by omega)]; omega⟩, scanR, dig_toNat (by omega)]
      congr 1
      omega
theorem dec_ne10 (n : Nat) : ∀ c ∈ Lib.decDigits n, c ≠ 10 := by
  induction n using Nat.strongRecOn with
  | ind n ih =>
    intro c hc e
    by_cases h : 9 < n
    · rw [dec_step h] at hc
      rcases List.mem_append.1 hc with hc | hc
      · exact ih (n / 10) (by omega) c hc e
      · rw [List.mem_singleton.1 hc] at e
        have := congrArg UInt8.toNat e
        rw [dig_toNat (by omega)] at this
        simp at this
        omega
    · rw [dec_last (by omega)] at hc
      rw [List.mem_singleton.1 hc] at e
      have := congrArg UInt8.toNat e
      rw [dig_toNat (by omega)] at this
      simp at this
      omega
theorem heads_times : ∀ e ∈ heads16, e.times = 1 := by decide
theorem line_one {e : Ev} (h : e ∈ heads16) : lineL e = headC e := by
  have ho : okEv e := heads_ok e (heads16_eq ▸ h)
  have ht : e.times = 1 := heads_times e h
  have := line_split ho
  unfold tailL at this
  rw [if_pos ht, List.append_nil] at this
  rw [this, headC_one]
theorem goR_line {e : Ev} (h : okEv e) : ∀ hs : List Ev, (∀ x ∈ hs, x ∈ heads16) → oneE e ∈ hs → goR (lineL e) hs = (e, true) := by
  have hm : oneE e ∈ heads16 := heads16_eq ▸ oneE_mem h
  have h1 := h.1
  have h2 := h.2.1
  have hl := line_split h
  unfold tailL at hl
  intro hs
  induction hs with
  | nil => intro _ hmem; simp at hmem
  | cons x r ih =>
    intro hall hmem
    have hx : x ∈ heads16 := hall x (by simp)
    have hlx := line_one hx
    rw [goR, hlx]
    by_cases hxe : x = oneE e
    · subst hxe
      by_cases ht : e.times = 1
      · rw [if_pos ht, List.append_nil] at hl
        rw [if_pos hl, oneE_times ht]
      · rw [if_neg ht] at hl
        obtain ⟨c, q, hd, _, _⟩ := dec_head e.times.toNat
        have hlen : (lineL e).length = (headC (oneE e)).length + 3 + (Lib.decDigits e.times.toNat).length := by rw [hl]; simp; omega
        have hq : 1 ≤ (Lib.decDigits e.times.toNat).length := by rw [hd]; simp
        rw [if_neg (fun e => by have := congrArg List.length e; omega)]
        have htk : (lineL e).take ((headC (oneE e)).length + 3) = headC (oneE e) ++ [32, 42, 32] := by
          rw [hl, ← List.append_assoc, List.take_left' (by simp)]
        have hdr : (lineL e).drop ((headC (oneE e)).length + 3) = Lib.decDigits e.times.toNat := by
          rw [hl, ← List.append_assoc, List.drop_left' (by simp)]
        rw [if_neg (by rintro (h | h); · omega
                       · exact h htk), hdr, scan_dec _ (by omega)]
        have he : ({ oneE e with times := ((e.times.toNat : Nat) : Int) } : Ev) = e := by
          unfold oneE
          obtain ⟨t, who, kind, tw, n⟩ := e
          simp only [Ev.mk.injEq, true_and] at h1 ⊢
          omega
        simp only [he]
        rw [decide_eq_true h, decide_eq_true (p := ((e.times.toNat : Nat) : Int) ≠ 1) (by omega)]
        simp
    · have hne : headC x ≠ headC (oneE e) := fun e => hxe (heads_inj _ hx _ hm e)
      have hmr : oneE e ∈ r := by
        rcases List.mem_cons.1 hmem with h | h
        · exact absurd h.symm hxe
        · exact h
      have ih2 := ih (fun y hy => hall y (by simp [hy])) hmr
      have n1 : lineL e ≠ headC x := by
        intro hc
        have c1 := cut_no hx
        rw [← hc, hl] at c1
        by_cases ht : e.times = 1
        · rw [if_pos ht, List.append_nil, cut_no hm] at c1
          have := congrArg Prod.fst c1
          simp only at this
          rw [hl, if_pos ht, List.append_nil] at hc
          exact hne hc.symm
        · rw [if_neg ht, cut_sep hm] at c1
          have := congrArg (fun p => p.2.2) c1
          simp at this
      have n2 : (lineL e).take ((headC x).length + 3) ≠ headC x ++ [32, 42, 32] := by
        intro hc
        have hsp : lineL e = headC x ++ ([32, 42, 32] ++ (lineL e).drop ((headC x).length + 3)) := by
          rw [← List.append_assoc, ← hc, List.take_append_drop]
        have c1 := cut_sep hx ((lineL e).drop ((headC x).length + 3))
        rw [← hsp, hl] at c1
        by_cases ht : e.times = 1
        · rw [if_pos ht, List.append_nil, cut_no hm] at c1
          have := congrArg (fun p => p.2.2) c1
          simp at this
        · rw [if_neg ht, cut_sep hm] at c1
          have := congrArg Prod.fst c1
          exact hne this.symm
      rw [if_neg n1, if_pos (.inr n2)]
      exact ih2
theorem readR_line {e : Ev} (h : okEv e) : readR (lineL e) = (e, true) := goR_line h headsL (fun x hx => heads16_eq ▸ hx) (oneE_mem h)
theorem goR_ok {l : List UInt8} : ∀ hs : List Ev, (∀ x ∈ hs, x ∈ heads16) → (goR l hs).2 = true → okEv (goR l hs).1 ∧ lineL (goR l hs).1 = l := by
  intro hs
  induction hs with
  | nil => intro _ h; simp [goR] at h
  | cons x r ih =>
    intro hall
    have hx : x ∈ heads16 := hall x (by simp)
    have ih2 := ih (fun y hy => hall y (by simp [hy]))
    rw [goR]
    split
    · rename_i he
      exact fun _ => ⟨heads_ok x (heads16_eq ▸ hx), he.symm⟩
    · split
      · exact ih2
      · split
        · intro h; simp at h
        · intro h
          simp only [Bool.and_eq_true, decide_eq_true_eq] at h
          exact h.2
theorem readR_ok {l : List UInt8} (h : (readR l).2 = true) : okEv (readR l).1 ∧ lineL (readR l).1 = l := goR_ok headsL (fun x hx => heads16_eq ▸ hx) h
theorem read_agree (l : List UInt8) : (readP l).2 = (readR l).2 ∧ ((readP l).2 = true → (readP l).1 = (readR l).1) := by
  by_cases h : (readP l).2 = true
  · obtain ⟨h1, h2⟩ := readP_ok h
    have h3 := readR_line h1
    rw [h2] at h3
    rw [h3, h]
    exact ⟨rfl, fun _ => rfl⟩
  · refine ⟨?_, fun h' => absurd h' h⟩
    by_cases h4 : (readR l).2 = true
    · obtain ⟨h1, h2⟩ := readR_ok h4
      have h3 := readP_line h1
      rw [h2] at h3
      exact absurd (by rw [h3]) h
    · rw [Bool.not_eq_true] at h h4
      rw [h, h4]
end Go.Proofs.YtfgeomdfgjefdaaDoor
