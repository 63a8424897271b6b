/- What Push answers, plain; the state of its loop. -/
import Derived.Test.YtinjeoohklabpaaYL
namespace Go.Proofs.Ytinjeoohklabpaa
open Go.RowKit
set_option linter.unusedVariables false
set_option linter.unusedSimpArgs false

def pushGo (l0 : List (List Int)) : List (List Int) → Nat → List Int → List (List Int) × Int
  | cur, _, [] => (cur, 0)
  | cur, k, a :: r => if putE cur a = 0 then pushGo l0 (appAt cur k a) k r else (l0, putE cur a)
def pushP (l : List (List Int)) (k : Int) (ds : List Int) : List (List Int) × Int := if okQ l then (if 0 ≤ k ∧ k < l.length then pushGo l l k.toNat ds else (l, 11)) else ([], 2)
theorem pushGo_stop {l0 cur : List (List Int)} {k i : Nat} {ds : List Int} {a : Int} (ha : ds[i]? = some a) (h : putE cur a ≠ 0) : pushGo l0 cur k (ds.drop i) = (l0, putE cur a) := by
  obtain ⟨hi, rfl⟩ := List.getElem?_eq_some_iff.1 ha
  rw [List.drop_eq_getElem_cons hi, pushGo, if_neg h]
theorem pushGo_go {l0 cur : List (List Int)} {k i : Nat} {ds : List Int} {a : Int} (ha : ds[i]? = some a) (h : putE cur a = 0) : pushGo l0 cur k (ds.drop i) = pushGo l0 (appAt cur k a) k (ds.drop (i + 1)) := by
  obtain ⟨hi, rfl⟩ := List.getElem?_eq_some_iff.1 ha
  rw [List.drop_eq_getElem_cons hi, pushGo, if_pos h]
theorem pushGo_end {l0 cur : List (List Int)} {k : Nat} {ds : List Int} : pushGo l0 cur k (ds.drop ds.length) = (cur, 0) := by
  rw [List.drop_length, pushGo]
theorem many_app {l : List (List Int)} {k : Nat} {s : List Int} (a : Int) (hs : l[k]? = some s) : manyN (l.set k (s ++ [a])) = manyN l + 1 := by
  unfold manyN
  induction l generalizing k with
  | nil => simp at hs
  | cons x t ih =>
    cases k with
    | zero =>
      simp at hs
      subst hs
      simp
      omega
    | succ k =>
      simp at hs
      have := ih hs
      simp only [List.set_cons_succ, List.map_cons, List.sum_cons] at this ⊢
      omega
theorem putE_many {l : List (List Int)} {a : Int} (h : putE l a = 0) (hm : manyN l ≤ 16384) : manyN l ≤ 16383 := by
  unfold putE at h
  split at h
  · omega
  · split at h
    · omega
    · split at h
      · omega
      · omega
theorem appAt_eq {l : List (List Int)} {k : Nat} {s : List Int} (a : Int) (hs : l[k]? = some s) : appAt l k a = l.set k (s ++ [a]) := by unfold appAt; rw [hs]
theorem many_appAt {l : List (List Int)} {k : Nat} (hk : k < l.length) (a : Int) : manyN (appAt l k a) = manyN l + 1 := by
  rw [appAt_eq a (List.getElem?_eq_getElem hk), many_app a (List.getElem?_eq_getElem hk)]
theorem putE_cases (l : List (List Int)) (a : Int) : (a = 0 ∧ putE l a = 7) ∨ (a ≠ 0 ∧ inQ l a = true ∧ putE l a = 4) ∨ (a ≠ 0 ∧ inQ l a = false ∧ manyN l = 16384 ∧ putE l a = 6) ∨ (a ≠ 0 ∧ inQ l a = false ∧ manyN l ≠ 16384 ∧ putE l a = 0) := by
  unfold putE
  by_cases h0 : a = 0
  · exact .inl ⟨h0, if_pos h0⟩
  · rw [if_neg h0]
    cases h1 : inQ l a
    · by_cases h2 : manyN l = 16384
      · exact .inr (.inr (.inl ⟨h0, rfl, h2, by simp [h2]⟩))
      · exact .inr (.inr (.inr ⟨h0, rfl, h2, by simp [h2]⟩))
    · exact .inr (.inl ⟨h0, rfl, by simp⟩)
theorem small_of {l : List (List Int)} (h : fitQ l) : smallQ l := by
  refine ⟨by have := h.2.1; omega, fun s hs => ?_⟩
  obtain ⟨i, hi, rfl⟩ := List.mem_iff_getElem.1 hs
  have h1 := manyN_succ (List.getElem?_eq_getElem hi)
  have h2 := manyN_take l (i + 1)
  have := h.2.2
  omega

/-- The loop's state: the variable of the first operand, the result's, the crew's. -/
structure StP (w wr : World) (t : TypeId) (b : Nat) (A : Option Addr) (n c : Nat) (A1 : Option Addr) (c1 : Nat) (vs : List QV) (cur : List (List Int)) : Prop where
  own : OwQs wr (w.heap.size + 2) (.slice A1 n c1) vs cur
  len : cur.length = n
  many : manyN cur ≤ 16384
  box : BoxG wr b t A1 n c1
  below : Below w.heap.size w wr
  sz : w.heap.size + 2 ≤ wr.heap.size
  src : wr.cell? ⟨w.heap.size, 0, none⟩ = some (.slice A n c)
  res : wr.cell? ⟨w.heap.size + 1, 0, none⟩ = some (.slice none 0 0)
  rfr : wr.frozen? ⟨w.heap.size + 1, 0, none⟩ = false
theorem StP.rd {w wr : World} {t : TypeId} {b : Nat} {A : Option Addr} {n c : Nat} {A1 : Option Addr} {c1 : Nat} {vs : List QV} {cur : List (List Int)} (h : StP w wr t b A n c A1 c1 vs cur) : RdQ wr A1 vs cur := by
  obtain ⟨A', c', e, _, hr⟩ := h.own.shape
  injection e with e1 _ _
  rw [e1]
  exact hr
theorem StP.next {w wr w2 : World} {t : TypeId} {b : Nat} {A : Option Addr} {n c : Nat} {A1 : Option Addr} {c1 : Nat} {vs vs2 : List QV} {cur cur2 : List (List Int)} (h : StP w wr t b A n c A1 c1 vs cur)
    (ho : OwQs w2 (w.heap.size + 2) (.slice A1 n c1) vs2 cur2) (hl : cur2.length = n) (hm : manyN cur2 ≤ 16384) (hb : BoxG w2 b t A1 n c1) (hk : Below (w.heap.size + 2) wr w2) : StP w w2 t b A n c A1 c1 vs2 cur2 :=
  ⟨ho, hl, hm, hb, h.below.trans (hk.mono (by omega)), Nat.le_trans h.sz hk.size, (hk.cell (p := ⟨w.heap.size, 0, none⟩) (show _ < _ by simp)).trans h.src, (hk.cell (p := ⟨w.heap.size + 1, 0, none⟩) (show _ < _ by simp)).trans h.res, (hk.frozen (p := ⟨w.heap.size + 1, 0, none⟩) (show _ < _ by simp)).trans h.rfr⟩
theorem StP.later {w wr w2 : World} {t : TypeId} {b : Nat} {A : Option Addr} {n c : Nat} {A1 : Option Addr} {c1 : Nat} {vs : List QV} {cur : List (List Int)} (h : StP w wr t b A n c A1 c1 vs cur) (hb : Below wr.heap.size wr w2) : StP w w2 t b A n c A1 c1 vs cur :=
  h.next (h.own.below hb) h.len h.many (h.box.below hb) (hb.mono h.sz)
end Go.Proofs.Ytinjeoohklabpaa
