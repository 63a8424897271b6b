/- What of GreyOnce speaks of no code: the state of its loop; how a list of bytes reads. -/
import Derived.Test.YtinjeoohklabpaaYS
namespace Go.Proofs.Ytinjeoohklabpaa
open Go.ChangeShapes Go.WideShapes Go.Deep Go.RowKit
set_option linter.unusedVariables false
set_option linter.unusedSimpArgs false

structure OnceS (l cur : List (List Int)) (ps : List Int) (j : Nat) : Prop where
  ok : okQ cur
  wd : WdQ cur
  len : cur.length = l.length
  many : manyN cur + j = manyN l
  pl : ps.length = j
  le : ∀ y, hasN cur y ≤ hasN l y
  out : ∀ x ∈ ps, hasN cur x = 0
theorem OnceS.start {l : List (List Int)} (ho : okQ l) (hw : WdQ l) : OnceS l l [] 0 := ⟨ho, hw, rfl, rfl, rfl, fun _ => Nat.le_refl _, fun x hx => by cases hx⟩
theorem OnceS.popIn {l cur : List (List Int)} {ps : List Int} {j k : Nat} (h : OnceS l cur ps j) (hk : k < l.length) : popP cur k = popIn cur k := by
  unfold popP
  rw [if_pos h.ok, if_pos (by rw [h.len]; omega)]
  rfl
theorem OnceS.took {l cur : List (List Int)} {ps : List Int} {j k : Nat} (h : OnceS l cur ps j) (hj : j < manyN l) (hk : k < l.length) : Took cur k (popP cur k) := by
  rw [h.popIn hk]
  rcases popIn_cases (l := cur) (k := k) (by rw [h.len]; exact hk) with h1 | h1
  · have := h.many
    omega
  · exact h1
theorem OnceS.fin {l cur : List (List Int)} {ps : List Int} (h : OnceS l cur ps (manyN l)) (hk : 0 < l.length) : popP cur 0 = ⟨cur, 0, false, 3⟩ := by
  have h0 := h.popIn (k := 0) hk
  rcases popIn_cases (l := cur) (k := 0) (by rw [h.len]; exact hk) with h1 | h1
  · exact h0.trans h1.1
  · have := h.many
    have := h1.many
    omega
theorem OnceS.next {l cur : List (List Int)} {ps : List Int} {j k : Nat} {r : Pp} (h : OnceS l cur ps j) (ht : Took cur k r) : OnceS l r.q (ps ++ [r.a]) (j + 1) := by
  refine ⟨ht.ok h.ok, ht.wd h.wd, by rw [ht.len, h.len], by have := h.many; have := ht.many; omega, by rw [List.length_append, h.pl]; rfl, fun y => ?_, fun x hx => ?_⟩
  · have := h.le y
    have := ht.has y
    omega
  · rcases List.mem_append.1 hx with hx | hx
    · have := h.out x hx
      have := ht.has x
      omega
    · rw [List.mem_singleton.1 hx]
      exact (ht.one h.ok).2.1
theorem OnceS.one {l cur : List (List Int)} {ps : List Int} {j k : Nat} {r : Pp} (h : OnceS l cur ps j) (ho : okQ l) (ht : Took cur k r) : hasN l r.a = 1 := by
  have h1 := (ht.one h.ok).1
  have h2 := h.le r.a
  have h3 := (okQ_has.1 ho).2.2 r.a
  omega
theorem OnceS.new {l cur : List (List Int)} {ps : List Int} {j k : Nat} {r : Pp} (h : OnceS l cur ps j) (ht : Took cur k r) {q : Nat} {x : Int} (hx : ps[q]? = some x) : r.a ≠ x := fun e => by
  have h1 := (ht.one h.ok).1
  have h2 := h.out x (List.mem_of_getElem? hx)
  rw [← e] at h2
  omega

/-! ### Worlds -/
theorem Rd_grown {w w' : World} {A : Option Addr} {n : Nat} {xs : List Value} {r : Option Nat} (h : Rd w 1 A n xs) (hg : w.grownBy w' r) (hA : ∀ b o, A = some ⟨b, o, none⟩ → 0 < n → some b ≠ r) : Rd w' 1 A n xs := by
  refine ⟨h.1, h.2.1, fun hn => ?_⟩
  obtain ⟨b, o, e, hb, hc⟩ := h.2.2 hn
  exact ⟨b, o, e, Nat.lt_of_lt_of_le hb hg.size, fun j v hv => (hg.cell_far ⟨b, o + j, none⟩ hb (hA b o e hn)).trans (hc j v hv)⟩
theorem FrQ.grown {w w' : World} {base : Nat} {A : Option Addr} {vs : List QV} {l : List (List Int)} {r : Option Nat} (h : FrQ w base A vs l) (hg : w.grownBy w' r) (hr : ∀ k, r = some k → k < base) : FrQ w' base A vs l := by
  have hne : ∀ b, base ≤ b → some b ≠ r := fun b hb e => by have := hr b e.symm; omega
  refine ⟨⟨Rd_grown h.rd.1 hg (fun b o e hn => hne b (h.out b o e hn)), h.rd.2.1, fun i v s hv hs => ?_⟩, fun i v s hv hs h0 => ?_, h.out⟩
  · have hE := h.rd.2.2 i v s hv hs
    refine ⟨hE.n, Rd_grown hE.row hg (fun b o e hn => ?_)⟩
    obtain ⟨b', o', e', hb', _⟩ := h.fr i v s hv hs hn
    rw [e] at e'
    injection e' with e'
    injection e' with e1 _
    subst e1
    exact hne b hb'
  · obtain ⟨b, o, e, hb, hf⟩ := h.fr i v s hv hs h0
    obtain ⟨b', o', e', hlt, _⟩ := (h.rd.2.2 i v s hv hs).row.2.2 h0
    rw [e] at e'
    injection e' with e'
    injection e' with e1 _
    subst e1
    exact ⟨b, o, e, hb, fun j hj => (hg.frozen_far ⟨b, o + j, none⟩ hlt (hne b hb)).trans (hf j hj)⟩
/-- Behind the region that pops. -/
def CutO (wr : World) (n : Nat) (q : List (List Int)) (x : Int) (x11 x12 x14 : Value) (wx : World) : Prop :=
  ∃ b A c vs, x11 = .pointer (some ⟨b, 0, none⟩) ∧ x12 = .int .u64 x ∧ x14 = .int .i64 0 ∧ wx.cell? ⟨b, 0, none⟩ = some (.slice A n c) ∧ wr.heap.size ≤ b ∧ FrQ wx wr.heap.size A vs q ∧ Below wr.heap.size wr wx
theorem cutO_al {wr w5 : World} {n c base : Nat} {q : List (List Int)} {x : Int} {A : Option Addr} {vs : List QV} (hq : FrQ w5 base A vs q) (hb : Below wr.heap.size wr w5) (hz : wr.heap.size ≤ base) :
    CutO wr n q x (.pointer (some ⟨w5.heap.size, 0, none⟩)) (.int .u64 x) (.int .i64 0) (w5.alloc (.cells #[.slice A n c] 24)) :=
  ⟨_, A, c, vs, rfl, rfl, rfl, by go_simp, hb.size, (hq.mono hz).below (balloc (Below.refl _ _) _), balloc hb _⟩
theorem cutO_pre {wr w5 : World} {n c : Nat} {q : List (List Int)} {x : Int} {A : Option Addr} {vs : List QV} {u : Value} (hq : FrQ w5 (wr.heap.size + 1) A vs q) (hb : Below wr.heap.size wr w5) (hc : w5.cell? ⟨wr.heap.size, 0, none⟩ = some u) :
    CutO wr n q x (.pointer (some ⟨wr.heap.size, 0, none⟩)) (.int .u64 x) (.int .i64 0) (w5.setCell ⟨wr.heap.size, 0, none⟩ (.slice A n c)) :=
  ⟨_, A, c, vs, rfl, rfl, rfl, World.cell?_setCell_same _ _ _ hc, Nat.le_refl _, (hq.set_lo (p := ⟨wr.heap.size, 0, none⟩) (Nat.lt_succ_self _) hq.out _).mono (Nat.le_succ _), hb.setCell (Nat.le_refl _) _⟩
def RetTk (n : Nat) (q : List (List Int)) (x : Int) (st : Bool) (w : World) (e : Ending) (w' : World) : Prop := ∃ A c vs, e = .returned (.tuple #[.agg #[.slice A n c], .int .u64 x, .bool st, .int .i64 0]) ∧ FrQ w' w.heap.size A vs q ∧ Below w.heap.size w w'
/-- The loop's state. -/
structure OnceR (l : List (List Int)) (w3 : World) (b7 : Nat) (P : Value) (ps : List Int) (wr : World) (A : Option Addr) (c : Nat) (vs : List QV) (cur : List (List Int)) (j : Nat) : Prop where
  pl : OnceS l cur ps j
  own : OwU wr (b7 + 1) P ps
  rd : RdQ wr A vs cur
  cell : wr.cell? ⟨b7, 0, none⟩ = some (.slice A l.length c)
  fr : wr.frozen? ⟨b7, 0, none⟩ = false
  below : Below b7 w3 wr
  sz : b7 + 1 ≤ wr.heap.size
theorem OnceR.far {l : List (List Int)} {w3 : World} {b7 : Nat} {P : Value} {ps : List Int} {wr : World} {A : Option Addr} {c : Nat} {vs : List QV} {cur : List (List Int)} {j : Nat} (h : OnceR l w3 b7 P ps wr A c vs cur j) {k : Nat} (hk : P.ownBlock = some k) : b7 + 1 ≤ k ∧ k < wr.heap.size := by
  obtain ⟨_, _, h2⟩ := own_block h.own hk
  exact ⟨(h.own.lt k hk).1, h2⟩
theorem OnceR.next {l : List (List Int)} {w3 : World} {b7 : Nat} {P v' : Value} {ps ps' : List Int} {wr : World} {A A5 : Option Addr} {c c5 : Nat} {vs vs5 : List QV} {cur q : List (List Int)} {j : Nat} (h : OnceR l w3 b7 P ps wr A c vs cur j) {W w6 : World}
    (hW : Below wr.heap.size wr W) (hq : FrQ W wr.heap.size A5 vs5 q) (ho : OwU w6 (b7 + 1) v' ps') (hg : W.grownBy w6 P.ownBlock) (hpl : OnceS l q ps' (j + 1)) :
    OnceR l w3 b7 v' ps' (w6.setCell ⟨b7, 0, none⟩ (.slice A5 l.length c5)) A5 c5 vs5 q (j + 1) := by
  have hb7 : b7 < wr.heap.size := Nat.lt_of_succ_le h.sz
  have hne : some b7 ≠ P.ownBlock := fun e => by have := (h.far e.symm).1; omega
  have hc6 := (hg.cell_far ⟨b7, 0, none⟩ (Nat.lt_of_lt_of_le hb7 hW.size) hne).trans (cell_later hW h.cell)
  have hf6 := (hg.frozen_far ⟨b7, 0, none⟩ (Nat.lt_of_lt_of_le hb7 hW.size) hne).trans ((hW.frozen (p := ⟨b7, 0, none⟩) hb7).trans h.fr)
  have hq6 := hq.grown hg (fun k hk => (h.far hk).2)
  have hB : Below b7 w3 W := bthenB h.below (by omega) hW
  refine ⟨hpl, ho.set_lo (by simp) _, ((hq6.set_lo (p := ⟨b7, 0, none⟩) hb7 hq6.out _)).rd, World.cell?_setCell_same _ _ _ hc6, (World.frozen?_setCell _ _ _ _).trans hf6, ?_, ?_⟩
  · exact (hB.grown hg (by have := hW.size; omega) (fun k hk => by have := (h.far hk).1; omega)).setCell (by simp) _
  · rw [World.size_setCell]
    have := hW.size
    have := hg.size
    omega

/-! ### A list of bytes -/
def RdB (w : World) (A : Option Addr) (n : Nat) : Prop := n ≤ 9223372036854775807 ∧ ∀ i, i < n → ∃ b o, A = some ⟨b, o, none⟩ ∧ b < w.heap.size ∧ ∃ x : Nat, x < 256 ∧ w.cell? ⟨b, o + i, none⟩ = some (.int .u8 x)
theorem RdB.below {w w1 : World} {A : Option Addr} {n : Nat} (h : RdB w A n) (hb : Below w.heap.size w w1) : RdB w1 A n := ⟨h.1, fun i hi => by
  obtain ⟨b, o, e, hlt, x, hx, hc⟩ := h.2 i hi
  exact ⟨b, o, e, Nat.lt_of_lt_of_le hlt hb.size, x, hx, cell_later hb hc⟩⟩
section
variable {H : Type} {enc : TypeId × Value → H} {w : World} {base : Nat} {spare : Nat → Bool} {held : Bool}
theorem cellsB : Try.prog.cellsOf 5 = 1 := by kernel_rfl
theorem wf_u8 {x : Int} (h : (Lit.int .u8 x).wf = true) : 0 ≤ x ∧ x < 256 := by
  simp only [Lit.wf, Bool.and_eq_true, decide_eq_true_eq] at h
  exact ⟨h.1, Int.lt_of_le_of_lt h.2 (by decide)⟩
theorem openBs {fuel : Nat} {cs : List Value} {x : DataW H × List MemPlace} (h : DataW.trod enc Try.prog w base spare held fuel 41 cs = some x) :
    ∃ A n c, cs = [.slice A n c] ∧ RdB w A n := by
  rcases open_slice Try.underlying41 h with ⟨hcs, hx⟩ | ⟨a, len, cap, m, n, D, Pl, hcs, hb, hl, hm, hmm, hx, hi⟩
  · exact ⟨none, 0, 0, hcs, by omega, fun i hi => by omega⟩
  · have hlm : len ≤ m := by rw [hmm]; split <;> omega
    refine ⟨some a, len, cap, hcs, by simp only [maxLen] at hm; omega, fun i hil => ?_⟩
    obtain ⟨cs', hc, ht⟩ := hi i (by omega)
    rw [cellsB] at hc
    obtain ⟨_, _, hat⟩ := World.cells?_some hc
    obtain ⟨z, rfl, _, hw⟩ := DataW.trod_int Try.underlying5 ht
    have h0 := hat 0 (by omega)
    rw [Go.Deep.add_add] at h0
    simp only [Nat.mul_one, Nat.add_zero] at h0
    have hz := wf_u8 hw
    obtain ⟨zn, rfl⟩ := Int.eq_ofNat_of_zero_le hz.1
    obtain ⟨ab, ao, asp⟩ := a
    have hsp : asp = none := by
      obtain ⟨cs1, hc1, ht1⟩ := hi 0 (by omega)
      rw [cellsB] at hc1
      obtain ⟨_, _, hat1⟩ := World.cells?_some hc1
      obtain ⟨z1, rfl, _, _⟩ := DataW.trod_int Try.underlying5 ht1
      have h1 := hat1 0 (by omega)
      rw [Go.Deep.add_add] at h1
      simp only [Nat.mul_one, Nat.add_zero] at h1
      cases asp with
      | none => rfl
      | some q => simp [Addr.add, World.cell?] at h1; split at h1 <;> simp at h1
    subst hsp
    rw [addOff] at h0
    exact ⟨ab, ao, rfl, World.block_lt_of_cell? w _ h0, zn, by omega, h0⟩
theorem openB {r : Reach} {b0 : Nat} {v : Value} {d : DataW H} {p : List MemPlace} (hv : Value.okWide Try.prog w r b0 41 v) (h : DataW.Trod enc Try.prog w base spare held 41 v d p) :
    ∃ A n c, v = .slice A n c ∧ RdB w A n := by
  obtain ⟨a0, len, cap, rfl⟩ := okWide_slice Try.underlying41 hv
  obtain ⟨fuel, hf⟩ := h
  obtain ⟨A, n, c, e, hr⟩ := openBs hf
  simp [Value.cells] at e
  obtain ⟨rfl, rfl, rfl⟩ := e
  exact ⟨_, _, _, rfl, hr⟩
end
end Go.Proofs.Ytinjeoohklabpaa
