/- What specials are, as numbers, and what is said of them; plain. -/
import Derived.Test.YtiapiajldchnmaaW0
namespace Go.Proofs.Ytiapiajldchnmaa
open Go.RowKit
set_option linter.unusedVariables false
set_option linter.unusedSimpArgs false

structure Sp where
  a : Int
  k : Int
  t : Int
deriving DecidableEq
def Sp.v (s : Sp) : Value := .agg #[.int .u64 s.a, .int .u8 s.k, .int .u64 s.t]
def Sp.cs (s : Sp) : List Value := [.int .u64 s.a, .int .u8 s.k, .int .u64 s.t]
theorem Sp.cs_len (s : Sp) : s.cs.length = 3 := rfl
def fl (l : List Sp) : List Value := l.flatMap Sp.cs
theorem fl_len (l : List Sp) : (fl l).length = l.length * 3 := flat_len Sp.cs 3 Sp.cs_len l
theorem fl_get (l : List Sp) (i j : Nat) (hj : j < 3) : (fl l)[i * 3 + j]? = (l[i]?).bind fun x => x.cs[j]? := flat_get Sp.cs 3 Sp.cs_len l i j hj
theorem fl_append (l m : List Sp) : fl (l ++ m) = fl l ++ fl m := by simp [fl]
theorem fl_one (l : List Sp) : ∀ u ∈ fl l, u.oneCell' = true := by
  intro u hu
  simp only [fl, List.mem_flatMap, Sp.cs, List.mem_cons, List.not_mem_nil, or_false] at hu
  obtain ⟨s, _, rfl | rfl | rfl⟩ := hu <;> rfl

def RdS (w : World) (A : Option Addr) (l : List Sp) : Prop := Rd w 3 A l.length (fl l)
theorem RdS.below {w w1 : World} {A : Option Addr} {l : List Sp} (h : RdS w A l) (hb : Below w.heap.size w w1) : RdS w1 A l := Rd.below h hb
theorem RdS.nil_ (w : World) (A : Option Addr) : RdS w A [] := Rd.nil_ w 3 A
theorem RdS.take_ {w : World} {A : Option Addr} {l : List Sp} (h : RdS w A l) (k : Nat) (hk : k ≤ l.length) : RdS w A (l.take k) := by
  have := Rd.take_ h k hk
  unfold RdS fl
  rw [flat_take Sp.cs 3 Sp.cs_len, List.length_take, Nat.min_eq_left hk]
  exact this
theorem RdS.len {w : World} {A : Option Addr} {l : List Sp} (h : RdS w A l) : l.length ≤ 9223372036854775807 := h.2.1
theorem RdS.at_ {w : World} {A : Option Addr} {l : List Sp} (h : RdS w A l) {i : Nat} {s : Sp} (hs : l[i]? = some s) : ∃ b o, A = some ⟨b, o, none⟩ ∧ b < w.heap.size ∧
    w.cell? ⟨b, o + i * 3, none⟩ = some (.int .u64 s.a) ∧ w.cell? ⟨b, o + i * 3 + 1, none⟩ = some (.int .u8 s.k) ∧ w.cell? ⟨b, o + i * 3 + 2, none⟩ = some (.int .u64 s.t) := by
  have hi : i < l.length := (List.getElem?_eq_some_iff.1 hs).1
  obtain ⟨b, o, e, hb, hc⟩ := h.2.2 (by omega)
  refine ⟨b, o, e, hb, ?_, ?_, ?_⟩
  · exact hc (i * 3 + 0) _ (by rw [fl_get l i 0 (by omega), hs]; rfl)
  · exact hc (i * 3 + 1) _ (by rw [fl_get l i 1 (by omega), hs]; rfl)
  · exact hc (i * 3 + 2) _ (by rw [fl_get l i 2 (by omega), hs]; rfl)

/-! ### What the document says -/
def oneP (s : Sp) : Bool := decide (0 < s.a) && (decide (0 < s.k) && decide (s.k < 3))
def isP (x k : Int) (s : Sp) : Bool := (s.a == x) && (s.k == k)
def finalP (l : List Sp) (x : Int) : Bool := l.any (isP x 1)
def cmpI (x y : Int) : Int := if x < y then -1 else if y < x then 1 else 0
def idxP (l : List Sp) (p : Sp → Bool) : Int := match l.findIdx? p with | some i => (i : Int) | none => -1
end Go.Proofs.Ytiapiajldchnmaa
