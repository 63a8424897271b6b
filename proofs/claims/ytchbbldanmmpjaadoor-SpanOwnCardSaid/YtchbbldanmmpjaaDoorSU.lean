/- What right spans in line are; where an address leads. Plain. -/
import Derived.Test.YtchbbldanmmpjaaDoorST
namespace Go.Proofs.YtchbbldanmmpjaaDoor
open Go.RowKit
set_option linter.unusedVariables false
set_option linter.unusedSimpArgs false

theorem okL_len {l : List SpanB} (h : okL l = true) : l.length ≤ 256 := by
  unfold okL at h
  simp only [Bool.and_eq_true, decide_eq_true_eq] at h
  exact h.1
theorem okL_to {l : List SpanB} (h : okL l = true) : okTo l l.length = true := by
  unfold okL at h
  simp only [Bool.and_eq_true, decide_eq_true_eq] at h
  exact h.2
theorem okL_right {l : List SpanB} (h : okL l = true) {i : Nat} {s : SpanB} (hs : l[i]? = some s) : rightP s = true :=
  atOk_right hs (okTo_at (okL_to h) (List.getElem?_eq_some_iff.1 hs).1)
theorem okL_next {l : List SpanB} (h : okL l = true) {i : Nat} {p s : SpanB} (hp : l[i]? = some p) (hs : l[i + 1]? = some s) : endP p ≤ s.first := by
  have := okTo_at (okL_to h) (List.getElem?_eq_some_iff.1 hs).1
  rw [atOk_next hp hs] at this
  simp only [Bool.and_eq_true, decide_eq_true_eq] at this
  exact this.2
theorem right_less {s : SpanB} (h : rightP s = true) : s.first < endP s ∧ 0 ≤ s.first := by
  have hp := rightP_parts h
  have := shapedP_pages hp.1
  unfold endP
  omega
theorem okL_before {l : List SpanB} (h : okL l = true) : ∀ (d a : Nat) (x y : SpanB), l[a]? = some x → l[a + d + 1]? = some y → endP x ≤ y.first := by
  intro d
  induction d with
  | zero => exact fun a x y hx hy => okL_next h hx hy
  | succ d ih =>
    intro a x y hx hy
    have hl := (List.getElem?_eq_some_iff.1 hy).1
    have hz : l[a + d + 1]? = some (l[a + d + 1]'(by omega)) := List.getElem?_eq_getElem _
    have h1 := ih a x _ hx hz
    have h2 := okL_next h hz (show l[a + d + 1 + 1]? = some y from hy)
    have h3 := right_less (okL_right h hz)
    omega
theorem okL_lt {l : List SpanB} (h : okL l = true) {a b : Nat} {x y : SpanB} (hab : a < b) (hx : l[a]? = some x) (hy : l[b]? = some y) : endP x ≤ y.first :=
  okL_before h (b - a - 1) a x y hx (by rw [show a + (b - a - 1) + 1 = b from by omega]; exact hy)
theorem okL_sorted {l : List SpanB} (h : okL l = true) : Sorted l (fun s => s.first) := by
  intro a b x y hab hx hy
  rcases Nat.lt_or_ge a b with hlt | hge
  · have h1 := okL_lt h hlt hx hy
    have h2 := right_less (okL_right h hx)
    show x.first ≤ y.first
    omega
  · obtain rfl : a = b := by omega
    rw [hx] at hy
    cases hy
    exact Int.le_refl _
theorem okL_sorted16 {l : List SpanB} (h : okL l = true) : Sorted l (fun s => s.first * 16) := by
  intro a b x y hab hx hy
  have := okL_sorted h a b x y hab hx hy
  show x.first * 16 ≤ y.first * 16
  have h3 : x.first ≤ y.first := this
  omega
/-- Of the span into which an address may lead: which slot, how far in. -/
def slotP (z off : Int) : Int := if 0 < z then off / z else 0
def restP (z off : Int) : Int := if 0 < z then off % z else off
def idxF (l : List SpanB) (x : Int) : Int := if foundP l (fun s => s.first * 16) x then (posP l (fun s => s.first * 16) x : Int) else (posP l (fun s => s.first * 16) x : Int) - 1
structure Fd where
  i : Int
  k : Int
  e : Int
deriving DecidableEq
def findIn (i : Int) (s : SpanB) (x : Int) : Fd :=
  if endP s * 16 ≤ x then ⟨0, 0, 3⟩ else if restP s.size (x - s.first * 16) = 0 ∧ bitP s.al (slotP s.size (x - s.first * 16)).toNat = true then ⟨i, slotP s.size (x - s.first * 16), 0⟩ else ⟨0, 0, 10⟩
def findOn (o : Option SpanB) (i x : Int) : Fd := match o with | some s => findIn i s x | none => ⟨0, 0, 3⟩
def findP (l : List SpanB) (x : Int) : Fd := if okL l = true then (if idxF l x < 0 then ⟨0, 0, 3⟩ else findOn l[(idxF l x).toNat]? (idxF l x) x) else ⟨0, 0, 2⟩
theorem posP_le (l : List SpanB) (key : SpanB → Int) (t : Int) : posP l key t ≤ l.length := by
  unfold posP
  induction l with
  | nil => simp
  | cons x r ih =>
    rw [List.takeWhile_cons]
    split
    · exact Nat.succ_le_succ ih
    · simp
theorem posP_less {l : List SpanB} {key : SpanB → Int} {t : Int} : ∀ {a : Nat}, a < posP l key t → ∀ s, l[a]? = some s → key s < t := by
  induction l with
  | nil => intro a ha; simp [posP] at ha
  | cons x r ih =>
    intro a ha s hs
    unfold posP at ha
    rw [List.takeWhile_cons] at ha
    by_cases hx : key x < t
    · simp only [hx, decide_true, if_true, List.length_cons] at ha
      cases a with
      | zero => simp at hs; subst hs; exact hx
      | succ a => exact ih (a := a) (by unfold posP; exact Nat.lt_of_succ_lt_succ ha) s (by simpa using hs)
    · simp [hx] at ha
theorem found_lt {l : List SpanB} {key : SpanB → Int} {t : Int} (h : foundP l key t = true) : ∃ s, l[posP l key t]? = some s ∧ key s = t := by
  unfold foundP at h
  split at h
  · rename_i s hs
    exact ⟨s, hs, by simpa using h⟩
  · cases h
/-- The span at the index begins no later than the address. -/
theorem idxF_at {l : List SpanB} {x : Int} {s : SpanB} (h0 : 0 ≤ idxF l x) (hs : l[(idxF l x).toNat]? = some s) : s.first * 16 ≤ x := by
  unfold idxF at h0 hs
  cases hf : foundP l (fun s => s.first * 16) x
  · rw [hf] at h0 hs
    simp only [Bool.false_eq_true, if_false] at h0 hs
    have := posP_less (l := l) (key := fun s => s.first * 16) (t := x) (a := ((posP l (fun s => s.first * 16) x : Int) - 1).toNat) (by omega) s hs
    have h3 : s.first * 16 < x := this
    omega
  · obtain ⟨s', h1, h2⟩ := found_lt hf
    rw [hf] at hs
    simp only [if_true, Int.toNat_natCast] at hs
    rw [h1] at hs
    cases hs
    have h3 : s.first * 16 = x := h2
    omega
theorem idxF_lt {l : List SpanB} {x : Int} (h0 : 0 ≤ idxF l x) : (idxF l x).toNat < l.length := by
  have h := posP_le l (fun s => s.first * 16) x
  unfold idxF at h0 ⊢
  cases hf : foundP l (fun s => s.first * 16) x
  · rw [hf] at h0
    simp only [Bool.false_eq_true, if_false] at h0 ⊢
    omega
  · obtain ⟨s', h1, h2⟩ := found_lt hf
    simp only [if_true, Int.toNat_natCast]
    exact (List.getElem?_eq_some_iff.1 h1).1
end Go.Proofs.YtchbbldanmmpjaaDoor
