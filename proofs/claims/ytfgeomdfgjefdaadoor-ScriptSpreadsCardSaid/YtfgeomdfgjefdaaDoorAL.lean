/- Plain: events folded and spread. -/
import Derived.Test.YtfgeomdfgjefdaaDoorAK
namespace Go.Proofs.YtfgeomdfgjefdaaDoor
open Go.RowKit
set_option linter.unusedVariables false
set_option linter.unusedSimpArgs false

def atT (e : Ev) (t : Int) : Ev := { e with times := t }
theorem atT_self (e : Ev) : atT e e.times = e := rfl
theorem likeE_iff (a b : Ev) : likeE a b = true ↔ atT a b.times = b := by unfold likeE atT; simp
theorem likeE_at {a b : Ev} (s t : Int) : likeE (atT a s) (atT b t) = likeE a b := by
  rw [Bool.eq_iff_iff, likeE_iff, likeE_iff]
  obtain ⟨a1, a2, a3, a4, a5⟩ := a
  obtain ⟨b1, b2, b3, b4, b5⟩ := b
  simp [atT]
theorem addE_at (r : List Ev) (x e : Ev) : addE (r ++ [x]) e = if likeE x e = true then (if x.times + e.times ≤ 4096 then r ++ [atT x (x.times + e.times)] else r ++ [atT x 4096] ++ [atT e (x.times + e.times - 4096)]) else r ++ [x] ++ [e] := addE_snoc r x e
theorem addE_like {x e : Ev} (h : likeE x e = true) (r : List Ev) (t : Int) : addE (r ++ [x]) (atT e t) = if x.times + t ≤ 4096 then r ++ [atT x (x.times + t)] else r ++ [atT x 4096] ++ [atT e (x.times + t - 4096)] := by
  have h2 : likeE x (atT e t) = true := by have := likeE_at (a := x) (b := e) x.times t; rw [atT_self] at this; rw [this]; exact h
  rw [addE_at, if_pos h2]
  rfl
theorem addE_unlike {x e : Ev} (h : ¬ likeE x e = true) (r : List Ev) (t : Int) : addE (r ++ [x]) (atT e t) = r ++ [x] ++ [atT e t] := by
  have h2 : ¬ likeE x (atT e t) = true := by have := likeE_at (a := x) (b := e) x.times t; rw [atT_self] at this; rw [this]; exact h
  rw [addE_at, if_neg h2]
theorem addE_self (r : List Ev) (e : Ev) (s t : Int) : addE (r ++ [atT e s]) (atT e t) = if s + t ≤ 4096 then r ++ [atT e (s + t)] else r ++ [atT e 4096] ++ [atT e (s + t - 4096)] :=
  addE_like (x := atT e s) (e := e) ((likeE_iff (atT e s) e).2 rfl) r t
def sumP (p : Ev → Bool) (l : List Ev) : Int := ((l.filter p).map Ev.times).sum
theorem sumP_app (p : Ev → Bool) (a b : List Ev) : sumP p (a ++ b) = sumP p a + sumP p b := by simp [sumP]
theorem sumP_one (p : Ev → Bool) (e : Ev) : sumP p [e] = if p e = true then e.times else 0 := by
  unfold sumP
  by_cases h : p e = true
  · rw [if_pos h]; simp [h]
  · rw [if_neg h]; simp [h]
theorem sumP_add (p : Ev → Bool) (hp : ∀ e t, p (atT e t) = p e) (out : List Ev) (e : Ev) : sumP p (addE out e) = sumP p (out ++ [e]) := by
  rcases nil_or_snoc out with rfl | ⟨r, x, rfl⟩
  · rfl
  · rw [addE_at]
    split
    · rename_i hl
      have hpe : p e = p x := by rw [← (likeE_iff x e).1 hl, hp]
      split
      · rw [sumP_app, sumP_app, sumP_app, sumP_one, sumP_one, sumP_one, hp, hpe, Int.add_assoc]
        congr 1
        show (if p x = true then x.times + e.times else 0) = _
        split <;> omega
      · rw [sumP_app, sumP_app, sumP_app, sumP_app, sumP_one, sumP_one, sumP_one, sumP_one, hp, hp, hpe]
        show _ + (if p x = true then (4096 : Int) else 0) + (if p x = true then x.times + e.times - 4096 else 0) = _
        split <;> omega
    · rfl
theorem sumP_foldl (p : Ev → Bool) (hp : ∀ e t, p (atT e t) = p e) : ∀ (l out : List Ev), sumP p (l.foldl addE out) = sumP p (out ++ l) := by
  intro l
  induction l with
  | nil => intro out; rw [List.append_nil]; rfl
  | cons e r ih =>
    intro out
    rw [List.foldl_cons, ih, sumP_app, sumP_add p hp, ← sumP_app, List.append_assoc, List.singleton_append]
theorem takes_at (of : List Ev) (e : Ev) (t : Int) : takes of (atT e t) = takes of e := by
  unfold takes
  have h : ∀ x, likeE (atT e t) x = likeE e x := fun x => by
    have := likeE_at (a := e) (b := x) t x.times
    rwa [atT_self] at this
  rw [show likeE (atT e t) = likeE e from funext h]
theorem steps_fold (l of : List Ev) : stepsN (foldN l) of = stepsN l of := by
  have := sumP_foldl (takes of) (takes_at of) l []
  rw [List.nil_append] at this
  exact this
theorem foldN_okL {l : List Ev} (h : okL l) : okL (foldN l) ∧ (foldN l).length ≤ l.length := by
  have := foldN_ok h l.length
  rw [List.take_length] at this
  exact ⟨⟨by have := h.1; omega, this.1⟩, this.2⟩
/-- Folded: of two that are alike, and stand side by side, the first is full. -/
def nf : List Ev → Prop
  | [] => True
  | [_] => True
  | x :: e :: t => (likeE x e = true → x.times = 4096) ∧ nf (e :: t)
theorem nf_snoc {e x : Ev} (he : likeE x e = true → x.times = 4096) : ∀ r : List Ev, nf (r ++ [x]) → nf (r ++ [x] ++ [e]) := by
  intro r
  induction r with
  | nil => intro _; exact ⟨he, trivial⟩
  | cons y r ih =>
    intro h
    cases r with
    | nil => exact ⟨h.1, ih trivial⟩
    | cons z r => exact ⟨h.1, ih h.2⟩
theorem nf_last {x x' : Ev} (hx : ∀ y, likeE y x' = likeE y x) : ∀ r : List Ev, nf (r ++ [x]) → nf (r ++ [x']) := by
  intro r
  induction r with
  | nil => intro _; trivial
  | cons y r ih =>
    intro h
    cases r with
    | nil => exact ⟨fun hl => h.1 (by rw [← hx]; exact hl), trivial⟩
    | cons z r => exact ⟨h.1, ih h.2⟩
theorem nf_mid {x e : Ev} {t : List Ev} : ∀ r : List Ev, nf (r ++ x :: e :: t) → likeE x e = true → x.times = 4096 := by
  intro r
  induction r with
  | nil => intro h; exact h.1
  | cons y r ih =>
    intro h
    cases r with
    | nil => exact ih h.2
    | cons z r => exact ih h.2
theorem like_last (x : Ev) (t : Int) (y : Ev) : likeE y (atT x t) = likeE y x := by
  have := likeE_at (a := y) (b := x) y.times t
  rwa [atT_self] at this
theorem nf_add {out : List Ev} {e : Ev} (h : nf out) : nf (addE out e) := by
  rcases nil_or_snoc out with rfl | ⟨r, x, rfl⟩
  · exact trivial
  · rw [addE_at]
    split
    · split
      · exact nf_last (like_last x _) r h
      · exact nf_snoc (fun _ => rfl) r (nf_last (like_last x _) r h)
    · rename_i hn
      exact nf_snoc (fun hl => absurd hl hn) r h
theorem nf_foldl : ∀ (l out : List Ev), nf out → nf (l.foldl addE out) := by
  intro l
  induction l with
  | nil => intro out h; exact h
  | cons e r ih => intro out h; exact ih _ (nf_add h)
theorem foldl_nf : ∀ (l out : List Ev), (∀ e ∈ l, 1 ≤ e.times) → nf (out ++ l) → l.foldl addE out = out ++ l := by
  intro l
  induction l with
  | nil => intro out _ _; simp
  | cons e r ih =>
    intro out hok h
    have ha : addE out e = out ++ [e] := by
      rcases nil_or_snoc out with rfl | ⟨q, x, rfl⟩
      · rfl
      · rw [addE_at]
        split
        · rename_i hl
          have hx : x.times = 4096 := nf_mid q (by simpa using h) hl
          have he := hok e (by simp)
          rw [if_neg (by omega)]
          have e1 : atT x 4096 = x := by rw [← hx]; rfl
          have e2 : atT e (x.times + e.times - 4096) = e := by rw [show x.times + e.times - 4096 = e.times from by omega]; rfl
          rw [e1, e2]
        · rfl
    rw [List.foldl_cons, ha, ih _ (fun y hy => hok y (by simp [hy])) (by simpa using h)]
    simp
theorem fold_fold {l : List Ev} (h : okL l) : foldN (foldN l) = foldN l := by
  have hk := (foldN_okL h).1
  have := foldl_nf (foldN l) [] (fun e he => (hk.2 e he).1) (by rw [List.nil_append]; exact nf_foldl l [] trivial)
  rw [List.nil_append] at this
  exact this
theorem add_two {out : List Ev} {e : Ev} {n : Int} (hout : ∀ x ∈ out, okEv x) (h1 : 1 ≤ n) (h2 : n + 1 ≤ 4096) : addE (addE out (atT e n)) (atT e 1) = addE out (atT e (n + 1)) := by
  have hself : ∀ s t, likeE (atT e s) (atT e t) = true := fun s t => by rw [likeE_at]; exact (likeE_iff e e).2 rfl
  rcases nil_or_snoc out with rfl | ⟨r, x, rfl⟩
  · rw [addE_nil, addE_nil, ← List.nil_append [atT e n], addE_at, if_pos (hself _ _)]
    rw [if_pos (by show n + 1 ≤ 4096; omega)]
    rfl
  · have hx := hout x (by simp)
    have hx1 := hx.1
    have hx2 := hx.2.1
    by_cases hl : likeE x e = true
    · rw [addE_like hl, addE_like hl]
      by_cases hs : x.times + n ≤ 4096
      · rw [if_pos hs, addE_like (by rw [show likeE (atT x (x.times + n)) e = likeE (atT x (x.times + n)) (atT e e.times) from rfl, likeE_at]; exact hl)]
        show (if x.times + n + 1 ≤ 4096 then r ++ [atT x (x.times + n + 1)] else r ++ [atT x 4096] ++ [atT e (x.times + n + 1 - 4096)]) = _
        rw [Int.add_assoc]
      · rw [if_neg hs, if_neg (by omega), addE_self]
        show (if x.times + n - 4096 + 1 ≤ 4096 then r ++ [atT x 4096] ++ [atT e (x.times + n - 4096 + 1)] else _) = _
        rw [if_pos (by omega)]
        congr 3
        omega
    · rw [addE_unlike hl, addE_unlike hl, addE_self]
      show (if n + 1 ≤ 4096 then r ++ [x] ++ [atT e (n + 1)] else _) = _
      rw [if_pos (by omega)]
theorem add_ok {out : List Ev} {e : Ev} (h : ∀ x ∈ out, okEv x) (he : okEv e) : ∀ x ∈ addE out e, okEv x := (addE_ok h he).1
theorem fold_rep {e : Ev} (he : okEv e) : ∀ (n : Nat) (out : List Ev), (∀ x ∈ out, okEv x) → 1 ≤ n → n ≤ 4096 → (List.replicate n (oneE e)).foldl addE out = addE out (atT e n) := by
  intro n
  induction n with
  | zero => intro out _ h; omega
  | succ n ih =>
    intro out hout _ h2
    by_cases hn : n = 0
    · subst hn
      rfl
    · rw [List.replicate_succ', List.foldl_append, ih out hout (by omega) (by omega), List.foldl_cons, List.foldl_nil]
      exact add_two hout (by omega) (by omega)
theorem fold_spreadl : ∀ (l out : List Ev), (∀ e ∈ l, okEv e) → (∀ x ∈ out, okEv x) → (spreadN l).foldl addE out = l.foldl addE out := by
  intro l
  induction l with
  | nil => intro out _ _; rfl
  | cons e r ih =>
    intro out hl hout
    have he := hl e (by simp)
    have h1 := he.1
    have h2 := he.2.1
    have e2 : atT e ((e.times.toNat : Nat) : Int) = e := by rw [show ((e.times.toNat : Nat) : Int) = e.times from by omega]; rfl
    unfold spreadN at ih ⊢
    rw [List.flatMap_cons, List.foldl_append, fold_rep he _ out hout (by omega) (by omega), e2, List.foldl_cons]
    exact ih _ (fun x hx => hl x (by simp [hx])) (add_ok hout he)
theorem fold_spread {l : List Ev} (h : ∀ e ∈ l, okEv e) : foldN (spreadN l) = foldN l := fold_spreadl l [] h (by simp)
theorem spread_len : ∀ l : List Ev, (∀ e ∈ l, okEv e) → ((spreadN l).length : Int) = stepsN l [] := by
  intro l
  induction l with
  | nil => intro _; rfl
  | cons e r ih =>
    intro h
    have he := (h e (by simp)).1
    have ih2 := ih (fun x hx => h x (by simp [hx]))
    have hs : stepsN (e :: r) [] = e.times + stepsN r [] := by
      unfold stepsN
      have : takes [] = fun _ => true := rfl
      rw [this]
      simp
    unfold spreadN at ih2 ⊢
    rw [hs, ← ih2, List.flatMap_cons, List.length_append, List.length_replicate]
    omega
theorem spread_ok {l : List Ev} (h : okL l) (h2 : stepsN l [] ≤ 4096) : okL (spreadN l) := by
  refine ⟨by have := spread_len l h.2; omega, fun x hx => ?_⟩
  unfold spreadN at hx
  obtain ⟨e, he, hx⟩ := List.mem_flatMap.1 hx
  rw [(List.mem_replicate.1 hx).2]
  exact okEv_times (h.2 e he) (by omega) (by omega)
end Go.Proofs.YtfgeomdfgjefdaaDoor
