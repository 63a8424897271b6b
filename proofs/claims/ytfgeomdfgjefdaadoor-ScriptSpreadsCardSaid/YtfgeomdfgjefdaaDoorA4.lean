/- Fold, plain; writing into rows of a call's own. -/
import Derived.Test.YtfgeomdfgjefdaaDoorA3
import Derived.OneCell
namespace Go.Proofs.YtfgeomdfgjefdaaDoor
open Go.RowKit
set_option linter.unusedVariables false
set_option linter.unusedSimpArgs false

theorem own_form {w : World} {base n m c : Nat} {e : TypeId} {size : Nat} {A : Option Addr} {xs : List Value} (h : w.ownsRow base e size (.slice A m c) n xs) (h0 : 0 < n) : ∃ g, A = some ⟨g, 0, none⟩ := by
  rcases h.2 with ⟨_, h1⟩ | ⟨g, cap, cur, e1, _⟩
  · omega
  · simp only [Value.slice.injEq] at e1
    exact ⟨g, e1.1⟩
theorem own_block {w : World} {base n : Nat} {e : TypeId} {size : Nat} {v : Value} {xs : List Value} (h : w.ownsRow base e size v n xs) {k : Nat} (hk : v.ownBlock = some k) : ∃ cur, w.heap[k]? = some (.cells cur e) ∧ k < w.heap.size := by
  rcases h.2 with ⟨rfl, _⟩ | ⟨g, cap, cur, rfl, hb, hg, _⟩
  · simp [Value.ownBlock] at hk
  · simp [Value.ownBlock] at hk
    subst hk
    exact ⟨cur, hg, (Array.getElem?_eq_some_iff.1 hg).1⟩
/-- A store into a cell of an own row. -/
theorem own_setCell {w : World} {base n g cap k size : Nat} {e : TypeId} {xs : List Value} (h : w.ownsRow base e size (.slice (some ⟨g, 0, none⟩) n cap) n xs) (u : Value) :
    (w.setCell ⟨g, k, none⟩ u).ownsRow base e size (.slice (some ⟨g, 0, none⟩) n cap) n (xs.set k u) := by
  rcases h.2 with ⟨h', _⟩ | ⟨g', cap', cur, h', hb, hg, hnc, hcm, hcs, htake⟩
  · simp at h'
  · simp only [Value.slice.injEq, Option.some.injEq, Addr.mk.injEq, and_true, true_and] at h'
    obtain ⟨rfl, rfl⟩ := h'
    refine ⟨by rw [List.length_set]; exact h.1, .inr ⟨g, cap, cur.setIfInBounds k u, rfl, hb, heap_setCell_same w g k cur e u hg, hnc, hcm, by simpa using hcs, ?_⟩⟩
    rw [← htake, Array.toList_setIfInBounds, List.take_set]
theorem own_cell {w : World} {base n g cap k size : Nat} {e : TypeId} {xs : List Value} {u : Value} (h : w.ownsRow base e size (.slice (some ⟨g, 0, none⟩) n cap) n xs) (hk : xs[k]? = some u) :
    w.cell? ⟨g, k, none⟩ = some u ∧ w.frozen? ⟨g, k, none⟩ = false := by
  refine ⟨?_, ?_⟩
  · have := h.cells (g := g) rfl k u hk
    rwa [addOff, Nat.zero_add] at this
  · obtain ⟨cur, hh, _⟩ := own_block h (k := g) rfl
    simp [World.frozen?, hh]
theorem fl_set_times (r : List Ev) (x : Ev) (t : Int) : (fl (r ++ [x])).set (r.length * 5 + 4) (.int .i64 t) = fl (r ++ [{ x with times := t }]) := by
  rw [fl_append, fl_append, List.set_append, if_neg (by rw [fl_len]; omega), fl_len]
  have : r.length * 5 + 4 - r.length * 5 = 4 := by omega
  rw [this]
  simp [fl, Ev.cs]
/-- The last one's Times are another number. -/
theorem OwS.set_last {w : World} {base g n cap : Nat} {r : List Ev} {x : Ev} (h : OwS w base (.slice (some ⟨g, 0, none⟩) n cap) (r ++ [x])) (hn : n = r.length + 1) (t : Int) :
    OwS (w.setCell ⟨g, r.length * 5 + 4, none⟩ (.int .i64 t)) base (.slice (some ⟨g, 0, none⟩) n cap) (r ++ [{ x with times := t }]) := by
  subst hn
  unfold OwS at h ⊢
  rw [List.length_append, List.length_singleton] at h ⊢
  rw [← fl_set_times r x t]
  exact own_setCell h _
theorem OwS.last {w : World} {base n cap : Nat} {A : Option Addr} {r : List Ev} {x : Ev} (h : OwS w base (.slice A n cap) (r ++ [x])) (hn : n = r.length + 1) : ∃ g, A = some ⟨g, 0, none⟩ ∧ base ≤ g ∧ g < w.heap.size ∧ r.length + 1 ≤ cap ∧
    w.cell? ⟨g, r.length * 5, none⟩ = some (.bool x.thr) ∧ w.cell? ⟨g, r.length * 5 + 1, none⟩ = some (.int .i64 x.who) ∧ w.cell? ⟨g, r.length * 5 + 2, none⟩ = some (.int .u8 x.kind) ∧
    w.cell? ⟨g, r.length * 5 + 3, none⟩ = some (.int .i64 x.tw) ∧ w.cell? ⟨g, r.length * 5 + 4, none⟩ = some (.int .i64 x.times) ∧ w.frozen? ⟨g, r.length * 5 + 4, none⟩ = false := by
  subst hn
  unfold OwS at h
  rw [List.length_append, List.length_singleton] at h
  obtain ⟨g, rfl⟩ := own_form h (by omega)
  have hg : ∀ j, j < 5 → (fl (r ++ [x]))[r.length * 5 + j]? = x.cs[j]? := fun j hj => by
    rw [fl_get _ _ _ hj, List.getElem?_append_right (Nat.le_refl _), Nat.sub_self]
    rfl
  have hc : r.length + 1 ≤ cap := by
    obtain ⟨A', c', e, h1, _⟩ := own_shape h
    injection e with _ _ e3
    omega
  exact ⟨g, rfl, (h.lt g rfl).1, (h.lt g rfl).2, hc, (own_cell h (hg 0 (by omega))).1, (own_cell h (hg 1 (by omega))).1, (own_cell h (hg 2 (by omega))).1, (own_cell h (hg 3 (by omega))).1, (own_cell h (hg 4 (by omega))).1, (own_cell h (hg 4 (by omega))).2⟩

def addE (out : List Ev) (e : Ev) : List Ev := match out.getLast? with
  | some x => if likeE x e = true then (if x.times + e.times ≤ 4096 then out.dropLast ++ [{ x with times := x.times + e.times }] else out.dropLast ++ [{ x with times := 4096 }] ++ [{ e with times := x.times + e.times - 4096 }]) else out ++ [e]
  | none => out ++ [e]
def foldN (l : List Ev) : List Ev := l.foldl addE []
def foldP (l : List Ev) : List Ev × Int := if okL l then (foldN l, 0) else ([], 2)
theorem addE_nil (e : Ev) : addE [] e = [e] := rfl
theorem addE_snoc (r : List Ev) (x e : Ev) : addE (r ++ [x]) e = if likeE x e = true then (if x.times + e.times ≤ 4096 then r ++ [{ x with times := x.times + e.times }] else r ++ [{ x with times := 4096 }] ++ [{ e with times := x.times + e.times - 4096 }]) else r ++ [x] ++ [e] := by
  unfold addE
  simp
theorem foldN_succ {l : List Ev} {k : Nat} {s : Ev} (hs : l[k]? = some s) : foldN (l.take (k + 1)) = addE (foldN (l.take k)) s := by
  unfold foldN
  rw [List.take_add_one, hs]
  simp
theorem okEv_times {e : Ev} (h : okEv e) {t : Int} (h1 : 1 ≤ t) (h2 : t ≤ 4096) : okEv { e with times := t } := ⟨h1, h2, h.2.2⟩
theorem nil_or_snoc (l : List Ev) : l = [] ∨ ∃ r x, l = r ++ [x] := by
  rcases List.eq_nil_or_concat l with h | ⟨r, x, h⟩
  · exact .inl h
  · exact .inr ⟨r, x, by rw [h, List.concat_eq_append]⟩
theorem addE_ok {out : List Ev} {e : Ev} (h : ∀ x ∈ out, okEv x) (he : okEv e) : (∀ x ∈ addE out e, okEv x) ∧ (addE out e).length ≤ out.length + 1 := by
  rcases nil_or_snoc out with rfl | ⟨r, x, rfl⟩
  · rw [addE_nil]
    exact ⟨fun y hy => by rw [List.mem_singleton.1 hy]; exact he, by simp⟩
  · rw [addE_snoc]
    have hx := h x (by simp)
    have hr : ∀ y ∈ r, okEv y := fun y hy => h y (by simp [hy])
    have h1 := hx.1
    have h2 := hx.2.1
    have h3 := he.1
    have h4 := he.2.1
    split
    · split
      · refine ⟨fun y hy => ?_, by simp⟩
        rcases List.mem_append.1 hy with hy | hy
        · exact hr y hy
        · rw [List.mem_singleton.1 hy]
          exact okEv_times hx (by omega) (by omega)
      · refine ⟨fun y hy => ?_, by simp⟩
        rcases List.mem_append.1 hy with hy | hy
        · rcases List.mem_append.1 hy with hy | hy
          · exact hr y hy
          · rw [List.mem_singleton.1 hy]
            exact okEv_times hx (by omega) (by omega)
        · rw [List.mem_singleton.1 hy]
          exact okEv_times he (by omega) (by omega)
    · refine ⟨fun y hy => ?_, by simp⟩
      rcases List.mem_append.1 hy with hy | hy
      · exact h y hy
      · rw [List.mem_singleton.1 hy]
        exact he
theorem foldN_ok {l : List Ev} (h : okL l) (k : Nat) : (∀ x ∈ foldN (l.take k), okEv x) ∧ (foldN (l.take k)).length ≤ k := by
  induction k with
  | zero => exact ⟨fun x hx => by simp [foldN] at hx, by simp [foldN]⟩
  | succ k ih =>
    by_cases hk : k < l.length
    · have hs : l[k]? = some l[k] := List.getElem?_eq_getElem hk
      rw [foldN_succ hs]
      have := addE_ok ih.1 (h.2 l[k] (List.getElem_mem _))
      exact ⟨this.1, by omega⟩
    · rw [List.take_of_length_le (by omega)] at ih ⊢
      exact ⟨ih.1, by omega⟩
end Go.Proofs.YtfgeomdfgjefdaaDoor
