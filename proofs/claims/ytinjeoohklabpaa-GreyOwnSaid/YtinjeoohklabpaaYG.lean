/- What Pop answers, plain; queues that read, and whose words are from a block on. -/
import Derived.Test.YtinjeoohklabpaaYF
namespace Go.Proofs.Ytinjeoohklabpaa
open Go.RowKit
set_option linter.unusedVariables false
set_option linter.unusedSimpArgs false

structure Pp where
  q : List (List Int)
  a : Int
  st : Bool
  e : Int
def popOwn (l : List (List Int)) (k : Nat) (s : List Int) : Pp := ⟨l.set k s.dropLast, s.getLast?.getD 0, false, 0⟩
def popOther (l : List (List Int)) (b : Nat) : Pp := match l[b]? with
  | some (x :: r) => ⟨l.set b r, x, true, 0⟩
  | _ => ⟨l, 0, false, 3⟩
def popIn (l : List (List Int)) (k : Nat) : Pp := match l[k]? with
  | some s => if s.length = 0 then popOther l (bestTo l l.length) else popOwn l k s
  | none => ⟨l, 0, false, 11⟩
def popP (l : List (List Int)) (k : Int) : Pp := if okQ l then (if 0 ≤ k ∧ k < l.length then popIn l k.toNat else ⟨l, 0, false, 11⟩) else ⟨[], 0, false, 2⟩

/-- Words that may be written, from block base on. -/
def FrE (w : World) (base : Nat) (A : Option Addr) (s : List Int) : Prop := 0 < s.length → ∃ b o, A = some ⟨b, o, none⟩ ∧ base ≤ b ∧ ∀ j, j < s.length → w.frozen? ⟨b, o + j, none⟩ = false
structure FrQ (w : World) (base : Nat) (A : Option Addr) (vs : List QV) (l : List (List Int)) : Prop where
  rd : RdQ w A vs l
  fr : ∀ (i : Nat) v s, vs[i]? = some v → l[i]? = some s → FrE w base v.A s
  out : ∀ b o, A = some ⟨b, o, none⟩ → 0 < vs.length → base ≤ b
theorem OwE.fr {w : World} {base : Nat} {q : QV} {s : List Int} (h : OwE w base q s) : FrE w base q.A s := fun h0 => by
  obtain ⟨A, n, c⟩ := q
  obtain ⟨hn, hr⟩ := h
  simp only at hn
  subst hn
  obtain ⟨g, rfl⟩ := own_form hr h0
  refine ⟨g, 0, rfl, (hr.lt g rfl).1, fun j hj => ?_⟩
  rw [Nat.zero_add]
  exact (own_cell hr (us_get s j s[j] (List.getElem?_eq_getElem hj))).2
theorem OwQs.frq {w : World} {base n c : Nat} {A : Option Addr} {vs : List QV} {l : List (List Int)} (h : OwQs w base (.slice A n c) vs l) : FrQ w base A vs l := by
  obtain ⟨A', c', e, _, hr⟩ := h.shape
  injection e with e1 _ _
  subst e1
  refine ⟨hr, fun i v s hv hs => (h.each i v s hv hs).fr, fun b o e hn => ?_⟩
  obtain ⟨g, e'⟩ := own_form h.row hn
  have h' := (h.row.lt g (by rw [e']; rfl)).1
  rw [e] at e'
  injection e' with e'
  injection e' with e1 _
  omega
theorem FrQ.mono {w : World} {base base' : Nat} {A : Option Addr} {vs : List QV} {l : List (List Int)} (h : FrQ w base A vs l) (hb : base' ≤ base) : FrQ w base' A vs l :=
  ⟨h.rd, fun i v s hv hs h0 => by obtain ⟨b, o, e, hb', hf⟩ := h.fr i v s hv hs h0; exact ⟨b, o, e, Nat.le_trans hb hb', hf⟩, fun b o e hn => Nat.le_trans hb (h.out b o e hn)⟩
theorem Rd_set {w : World} {A : Option Addr} {n : Nat} {xs : List Value} (h : Rd w 1 A n xs) {p : Addr} (hp : ∀ b o, A = some ⟨b, o, none⟩ → 0 < n → p.block ≠ b) (u : Value) : Rd (w.setCell p u) 1 A n xs := by
  refine ⟨h.1, h.2.1, fun hn => ?_⟩
  obtain ⟨b, o, e, hb, hc⟩ := h.2.2 hn
  refine ⟨b, o, e, by rw [World.size_setCell]; exact hb, fun j v hv => ?_⟩
  rw [World.cell?_setCell_other]
  · exact hc j v hv
  · intro e'
    exact hp b o e hn (by rw [e'])
theorem FrQ.set_lo {w : World} {base : Nat} {A : Option Addr} {vs : List QV} {l : List (List Int)} (h : FrQ w base A vs l) {p : Addr} (hp : p.block < base) (hA : ∀ b o, A = some ⟨b, o, none⟩ → 0 < vs.length → base ≤ b) (u : Value) : FrQ (w.setCell p u) base A vs l := by
  refine ⟨⟨Rd_set h.rd.1 (fun b o e hn => by have := hA b o e hn; omega) u, h.rd.2.1, fun i v s hv hs => ?_⟩, fun i v s hv hs h0 => ?_, h.out⟩
  · have hE := h.rd.2.2 i v s hv hs
    refine ⟨hE.n, Rd_set hE.row (fun b o e hn => ?_) u⟩
    obtain ⟨b', o', e', hb', _⟩ := h.fr i v s hv hs hn
    rw [e] at e'
    injection e' with e'
    injection e' with e1 _
    omega
  · obtain ⟨b, o, e, hb, hf⟩ := h.fr i v s hv hs h0
    exact ⟨b, o, e, hb, fun j hj => by rw [World.frozen?_setCell]; exact hf j hj⟩
theorem FrQ.below {w w1 : World} {base : Nat} {A : Option Addr} {vs : List QV} {l : List (List Int)} (h : FrQ w base A vs l) (hb : Below w.heap.size w w1) : FrQ w1 base A vs l := by
  refine ⟨h.rd.below hb, fun i v s hv hs h0 => ?_, h.out⟩
  obtain ⟨b, o, e, hbb, hf⟩ := h.fr i v s hv hs h0
  obtain ⟨b', o', e', hlt, _⟩ := (h.rd.2.2 i v s hv hs).row.2.2 h0
  rw [e] at e'
  injection e' with e'
  injection e' with e1 _
  subst e1
  exact ⟨b, o, e, hbb, fun j hj => (hb.frozen (p := ⟨b, o + j, none⟩) hlt).trans (hf j hj)⟩
/-- One queue's slice is cut. -/
theorem OwQs.cut {W : World} {base G n c k : Nat} {vs : List QV} {l : List (List Int)} {v x : QV} {s s' : List Int} (h : OwQs W base (.slice (some ⟨G, 0, none⟩) n c) vs l) (hn : l.length = n) (hv : vs[k]? = some v) (hs : l[k]? = some s)
    (hx : x.n = s'.length) (hr : RdU W x.A s') (hf : FrE W base x.A s') (hb : ∀ b o, x.A = some ⟨b, o, none⟩ → v.v.ownBlock = some b) :
    FrQ (W.setCell ⟨G, k, none⟩ x.v) base (some ⟨G, 0, none⟩) (vs.set k x) (l.set k s') := by
  have hkl : k < vs.length := (List.getElem?_eq_some_iff.1 hv).1
  have hne : ∀ (i : Nat) y t, vs[i]? = some y → l[i]? = some t → ∀ b, y.v.ownBlock = some b → G ≠ b := fun i y t hy ht b hb' e => own_tag h.row (h.each i y t hy ht).row (by decide) (k := G) rfl (by rw [e]; exact hb')
  have hq := h.frq
  have hrow := h.row.set_in (by rw [h.len]; exact hn) (by rw [← hn, ← h.len]; exact hkl) x
  obtain ⟨A', c', e, _, hrd⟩ := hrow.shape
  injection e with e1 _ _
  subst e1
  refine ⟨⟨hrd, by rw [List.length_set, List.length_set]; exact h.len, fun i y t hy ht => ?_⟩, fun i y t hy ht => ?_, fun b o e _ => by injection e with e; injection e with e1 _; rw [← e1]; exact (h.row.lt G rfl).1⟩
  · by_cases e : i = k
    · subst e
      rw [List.getElem?_set_self hkl] at hy
      rw [List.getElem?_set_self (by rw [← h.len]; exact hkl)] at ht
      cases hy
      cases ht
      exact ⟨hx, Rd_set hr (fun b o e' _ => hne i v s hv hs b (hb b o e')) _⟩
    · rw [List.getElem?_set_ne (by omega)] at hy ht
      have hE := hq.rd.2.2 i y t hy ht
      refine ⟨hE.n, Rd_set hE.row (fun b o e' _ => hne i y t hy ht b ?_) _⟩
      simp [QV.v, e', Value.ownBlock]
  · by_cases e : i = k
    · subst e
      rw [List.getElem?_set_self hkl] at hy
      rw [List.getElem?_set_self (by rw [← h.len]; exact hkl)] at ht
      cases hy
      cases ht
      intro h0
      obtain ⟨b, o, e1, e2, e3⟩ := hf h0
      exact ⟨b, o, e1, e2, fun j hj => by rw [World.frozen?_setCell]; exact e3 j hj⟩
    · rw [List.getElem?_set_ne (by omega)] at hy ht
      intro h0
      obtain ⟨b, o, e1, e2, e3⟩ := hq.fr i y t hy ht h0
      exact ⟨b, o, e1, e2, fun j hj => by rw [World.frozen?_setCell]; exact e3 j hj⟩
def RetPop (p : Pp) (w : World) (e : Ending) (w' : World) : Prop := ∃ A c vs, e = .returned (.tuple #[.agg #[.slice A p.q.length c], .int .u64 p.a, .bool p.st, .int .i64 p.e]) ∧ FrQ w' w.heap.size A vs p.q ∧ Below w.heap.size w w'
theorem RdU.drop_ {w : World} {g : Nat} {x : Int} {l : List Int} (h : RdU w (some ⟨g, 0, none⟩) (x :: l)) : RdU w (some ⟨g, 1, none⟩) l := by
  refine ⟨by simp [us], by have := h.2.1; simp at this; omega, fun hn => ?_⟩
  obtain ⟨b, o, e, hb, hc⟩ := h.2.2 (by simp)
  injection e with e
  injection e with e1 e2
  subst e1
  subst e2
  refine ⟨g, 1, rfl, hb, fun j v hv => ?_⟩
  have := hc (j + 1) v (by simpa [us] using hv)
  rwa [Nat.zero_add, Nat.add_comm] at this
theorem RdU.take_ {w : World} {A : Option Addr} {l : List Int} (h : RdU w A l) (k : Nat) (hk : k ≤ l.length) : RdU w A (l.take k) := by
  have := Rd.take_ h k hk
  unfold RdU
  rw [List.length_take, Nat.min_eq_left hk, show us (l.take k) = (us l).take (k * 1) from by simp [us, List.map_take]]
  exact this
end Go.Proofs.Ytinjeoohklabpaa
