/- One word more in a queue of those that are a call's own. -/
import Derived.Test.YtinjeoohklabpaaYB
import Derived.Deep.AppendLies
namespace Go.Proofs.Ytinjeoohklabpaa
open Go.RowKit
set_option linter.unusedVariables false
set_option linter.unusedSimpArgs false

def appAt (l : List (List Int)) (k : Nat) (a : Int) : List (List Int) := match l[k]? with | some s => l.set k (s ++ [a]) | none => l
theorem appAt_len (l : List (List Int)) (k : Nat) (a : Int) : (appAt l k a).length = l.length := by
  unfold appAt
  split <;> simp
def putE (l : List (List Int)) (a : Int) : Int := if a = 0 then 7 else if inQ l a = true then 4 else if manyN l = 16384 then 6 else 0
def putQ (l : List (List Int)) (k : Nat) (a : Int) : List (List Int) := if putE l a = 0 then appAt l k a else l
theorem putQ_len (l : List (List Int)) (k : Nat) (a : Int) : (putQ l k a).length = l.length := by
  unfold putQ
  split
  · exact appAt_len l k a
  · rfl
/-- The crew's variable. -/
def BoxG (W : World) (b : Nat) (t : TypeId) (A : Option Addr) (n c : Nat) : Prop := W.heap[b]? = some (.cells #[.slice A n c] t (0, 0))
theorem BoxG.below {w w1 : World} {b : Nat} {t : TypeId} {A : Option Addr} {n c : Nat} (h : BoxG w b t A n c) (hb : Below w.heap.size w w1) : BoxG w1 b t A n c := (hb.block b (Array.getElem?_eq_some_iff.1 h).1).trans h
theorem BoxG.lt {w : World} {b : Nat} {t : TypeId} {A : Option Addr} {n c : Nat} (h : BoxG w b t A n c) : b < w.heap.size := (Array.getElem?_eq_some_iff.1 h).1
theorem BoxG.var {w : World} {b : Nat} {t : TypeId} {A : Option Addr} {n c : Nat} (h : BoxG w b t A n c) : VarG w b A n c := cell_of_one h
theorem BoxG.far {w : World} {b : Nat} {t e : TypeId} {A : Option Addr} {n c base m size : Nat} {v : Value} {xs : List Value} (h : BoxG w b t A n c) (h' : w.ownsRow base e size v m xs) (hne : t ≠ e) : some b ≠ v.ownBlock := fun e1 => by
  obtain ⟨cur, h2, _⟩ := own_block h' e1.symm
  rw [h] at h2
  simp only [Option.some.injEq, Obj.cells.injEq] at h2
  exact hne h2.2.1
theorem BoxG.grown {w w1 : World} {b : Nat} {t : TypeId} {A : Option Addr} {n c : Nat} {r : Option Nat} (h : BoxG w b t A n c) (hg : w.grownBy w1 r) (hr : some b ≠ r) : BoxG w1 b t A n c := (hg.block b h.lt hr).trans h
theorem BoxG.set_ne {w : World} {b : Nat} {t : TypeId} {A : Option Addr} {n c : Nat} (h : BoxG w b t A n c) {p : Addr} (hp : b ≠ p.block) (u : Value) : BoxG (w.setCell p u) b t A n c := (Below.heap_setCell w p u b hp).trans h

theorem OwV.grown {w w1 : World} {base : Nat} {v : Value} {l : List QV} {r : Option Nat} (h : OwV w base v l) (hg : w.grownBy w1 r) (hr : ∀ k, v.ownBlock = some k → r ≠ some k) : OwV w1 base v l := by
  refine ⟨h.1, ?_⟩
  rcases h.2 with hn | ⟨g, cap, cur, rfl, hg', hh, r'⟩
  · exact .inl hn
  · exact .inr ⟨g, cap, cur, rfl, hg', (hg.block g (Array.getElem?_eq_some_iff.1 hh).1 (fun e => hr g rfl e.symm)).trans hh, r'⟩
/-- One more in a queue of them. -/
theorem OwQs.app {W X w2 : World} {base G n c k g cap : Nat} {vs : List QV} {l : List (List Int)} {v : QV} {s : List Int} {a : Int} (h : OwQs W base (.slice (some ⟨G, 0, none⟩) n c) vs l) (hn : l.length = n) (hv : vs[k]? = some v) (hs : l[k]? = some s)
    (hX : Below W.heap.size W X) (ho : OwU w2 base (.slice (some ⟨g, 0, none⟩) (s.length + 1) cap) (s ++ [a])) (hg : X.grownBy w2 v.v.ownBlock) (hat : v.v.ownBlock = some g ∨ g = X.heap.size) :
    OwQs (w2.setCell ⟨G, k, none⟩ (.slice (some ⟨g, 0, none⟩) (s.length + 1) cap)) base (.slice (some ⟨G, 0, none⟩) n c) (vs.set k ⟨some ⟨g, 0, none⟩, s.length + 1, cap⟩) (l.set k (s ++ [a])) := by
  have hkl : k < vs.length := (List.getElem?_eq_some_iff.1 hv).1
  have hX2 := h.below hX
  have hE := hX2.each k v s hv hs
  have hrow : OwV w2 base (.slice (some ⟨G, 0, none⟩) n c) vs := hX2.row.grown hg (fun j hj e => own_tag hX2.row hE.row (by decide) hj e)
  have hap : ∀ (i : Nat) y, i ≠ k → vs[i]? = some y → Apart y v := fun i y hi hy => by
    rcases Nat.lt_or_ge i k with h1 | h1
    · exact h.apart i k y v h1 hy hv
    · exact (h.apart k i v y (by omega) hv hy).symm
  have hap2 : ∀ (i : Nat) y, i ≠ k → vs[i]? = some y → Apart y ⟨some ⟨g, 0, none⟩, s.length + 1, cap⟩ := fun i y hi hy j hj hj' => by
    have e : g = j := by simpa [QV.v, Value.ownBlock] using hj'
    subst e
    rcases hat with h1 | h1
    · exact hap i y hi hy g hj h1
    · have hil : i < l.length := by rw [← h.len]; exact (List.getElem?_eq_some_iff.1 hy).1
      obtain ⟨_, _, h2⟩ := own_block (h.each i y l[i] hy (List.getElem?_eq_getElem hil)).row hj
      have := hX.size
      omega
  refine ⟨hrow.set_in (by rw [h.len]; exact hn) (by rw [← hn, ← h.len]; exact hkl) ⟨some ⟨g, 0, none⟩, s.length + 1, cap⟩, by rw [List.length_set, List.length_set]; exact h.len, fun i y t hy ht => ?_, fun i j y z hij hy hz => ?_⟩
  · by_cases e : i = k
    · subst e
      rw [List.getElem?_set_self hkl] at hy
      rw [List.getElem?_set_self (by rw [← h.len]; exact hkl)] at ht
      cases hy
      cases ht
      exact OwE.set_out (q := ⟨some ⟨g, 0, none⟩, s.length + 1, cap⟩) ⟨by simp, ho⟩ hrow _
    · rw [List.getElem?_set_ne (by omega)] at hy ht
      exact ((hX2.each i y t hy ht).grown hg (fun j hj e' => hap i y e hy j hj e')).set_out hrow _
  · by_cases e : j = k
    · subst e
      rw [List.getElem?_set_self hkl] at hz
      cases hz
      rw [List.getElem?_set_ne (by omega)] at hy
      exact hap2 i y (by omega) hy
    · rw [List.getElem?_set_ne (by omega)] at hz
      by_cases e2 : i = k
      · subst e2
        rw [List.getElem?_set_self hkl] at hy
        cases hy
        exact (hap2 j z e hz).symm
      · rw [List.getElem?_set_ne (by omega)] at hy
        exact h.apart i j y z hij hy hz
theorem step_appU1 {ops : Array Oper} {o : Oper} {act : Act} {w : World} {K : Act → World → Prop} {Q : Exit → Act → World → Prop} {E : Prop}
    (hg : o.guard = none) (s x : Operand) (hop : o.op = Op.call { callee := Callee.builtin Builtin.append, args := #[s, x], argTypes := #[25, 25] })
    (base : Nat) (v : Value) (l0 : List Int) (a : Int) (B : Nat) (hs : act.eval s = v) (hx : act.eval x = .slice (some ⟨B, 0, none⟩) 1 1)
    (hown : OwU w base v l0) (hr : w.cell? ⟨B, 0, none⟩ = some (.int .u64 a)) (hlen : l0.length ≤ 100000) (hbase : base ≤ w.heap.size)
    (h : ∀ g cap w', OwU w' base (.slice (some ⟨g, 0, none⟩) (l0.length + 1) cap) (l0 ++ [a]) → w.grownBy w' v.ownBlock → (v.ownBlock = some g ∨ g = w.heap.size) → K (act.put o.dst (.slice (some ⟨g, 0, none⟩) (l0.length + 1) cap)) w') :
    if Region.wanted o (yielded ops act.tmps) = true then Oper.wp Try.prog o act w K Q else E := by
  obtain ⟨i, hi, hz0, hz1, hz2⟩ := info_parts infoU
  refine step_append_lies (P := Try.prog) w hg s x 25 hop base 30 i _ 1 8 Try.underlying25 hi hz0 hz1 hz2 rfl (by omega) v l0.length (us l0) hs hown ⟨B, 0, none⟩ 1 1 (us [a]) hx rfl (fun j u hu => ?_) (us_one _) (by omega) (by simp only [maxLen]; omega) (by omega) hbase _ rfl
    (fun g cap w' h1 h2 h3 _ => h g cap w' (by unfold OwU; rw [List.length_append, show us (l0 ++ [a]) = us l0 ++ us [a] from by simp [us]]; exact h1) h2 h3)
  have hj : j = 0 := by
    have := (List.getElem?_eq_some_iff.1 hu).1
    simp [us] at this
    exact this
  subst hj
  simp [us] at hu
  rw [addOff, Nat.zero_add, hr, hu]
def PutP (base b : Nat) (A : Option Addr) (c : Nat) (l : List (List Int)) (k : Nat) (a : Int) (w : World) (e : Ending) (w' : World) : Prop :=
  ∃ vs', e = .returned (.int .i64 (putE l a)) ∧ OwQs w' base (.slice A l.length c) vs' (putQ l k a) ∧ BoxG w' b 48 A l.length c ∧ Below base w w'
end Go.Proofs.Ytinjeoohklabpaa
