/- How an argument that is a heap reads. -/
import Derived.Test.YtieijfefnedifaaGreatDoorMH1H3
import Derived.Test.YtieijfefnedifaaGreatDoorRows
import Derived.WalkKit
import Derived.ProofKit
import Derived.OpenShut
import Derived.ChangeOld
import Derived.SizedLaws
import Derived.Deep.Slices
import Derived.Deep.Fields
import Derived.ChangeSame
import Derived.Lib.SmallJoins
import Derived.Lib.LaidTab
namespace Go.Proofs.YtieijfefnedifaaGreatDoor
open Go.RowKit
set_option linter.unusedVariables false
set_option linter.unusedSimpArgs false
set_option maxRecDepth 100000
open Go.ChangeShapes Go.WideShapes Go.Deep Go.RowKit
section
variable {H : Type} {enc : TypeId × Value → H} {w : World} {base : Nat} {spare : Nat → Bool} {held : Bool}

theorem cells26 : Tryz.prog.cellsOf 44 = 8 := by kernel_rfl
theorem cells24 : Tryz.prog.cellsOf 26 = 2 := by kernel_rfl
theorem cells22 : Tryz.prog.cellsOf 22 = 1 := by kernel_rfl
theorem cells33 : Tryz.prog.cellsOf 46 = 1 := by kernel_rfl
theorem cells3 : Tryz.prog.cellsOf 3 = 1 := by kernel_rfl
theorem cells4 : Tryz.prog.cellsOf 4 = 1 := by kernel_rfl

theorem wf_u64 {x : Int} (h : (Lit.int .u64 x).wf = true) : 0 ≤ x ∧ x < 18446744073709551616 := by
  simp only [Lit.wf, Bool.and_eq_true, decide_eq_true_eq] at h
  exact ⟨h.1, Int.lt_of_le_of_lt h.2 (by decide)⟩
theorem wf_i64 {x : Int} (h : (Lit.int .i64 x).wf = true) : -9223372036854775808 ≤ x ∧ x ≤ 9223372036854775807 := by
  simp only [Lit.wf, Bool.and_eq_true, decide_eq_true_eq] at h
  exact ⟨h.1, h.2⟩

theorem openW {fuel : Nat} {cs : List Value} {x : DataW H × List MemPlace} (h : DataW.trod enc Tryz.prog w base spare held fuel 22 cs = some x) :
    ∃ A c l, cs = [.slice A (List.length l) c] ∧ l.length ≤ c ∧ (∀ x ∈ l, 0 ≤ x ∧ x < 18446744073709551616) ∧ RdU w A l := by
  rcases open_slice Tryz.underlying22 h with ⟨hcs, hx⟩ | ⟨a, len, cap, m, n, D, Pl, hcs, hb, hl, hm, hmm, hx, hi⟩
  · exact ⟨none, 0, [], hcs, Nat.le_refl _, by simp, RdU.nil_ _ _⟩
  · have hlm : len ≤ m := by rw [hmm]; split <;> omega
    have hel : ∀ i, i < len → ∃ z : Int, (0 ≤ z ∧ z < 18446744073709551616) ∧ w.cell? (a.add i) = some (.int .u64 z) := by
      intro i hil
      obtain ⟨cs', hc, ht⟩ := hi i (by omega)
      rw [cells33] at hc
      obtain ⟨_, _, hat⟩ := World.cells?_some hc
      obtain ⟨z, rfl, _, hw⟩ := DataW.trod_int Tryz.underlying46 ht
      have h0 := hat 0 (by omega)
      rw [Go.Deep.add_add] at h0
      simp only [Nat.mul_one, Nat.add_zero] at h0
      exact ⟨z, wf_u64 hw, h0⟩
    obtain ⟨f, hf⟩ : ∃ f : Nat → Int, ∀ i, i < len → (0 ≤ f i ∧ f i < 18446744073709551616) ∧ w.cell? (a.add i) = some (.int .u64 (f i)) := by
      refine ⟨fun i => if hil : i < len then (hel i hil).choose else 0, fun i hil => ?_⟩
      simp only [dif_pos hil]
      exact (hel i hil).choose_spec
    have hL : ((List.range len).map f).length = len := by simp
    refine ⟨some a, cap, (List.range len).map f, by rw [hL]; exact hcs, by rw [hL]; exact hl, ?_, ?_⟩
    · intro x hx
      simp only [List.mem_map, List.mem_range] at hx
      obtain ⟨i, hil, rfl⟩ := hx
      exact (hf i hil).1
    have hmx : len ≤ 9223372036854775807 := by simp only [maxLen] at hm; omega
    refine ⟨by rw [us_len, Nat.mul_one], by rw [hL]; exact hmx, fun hn => ?_⟩
    rw [hL] at hn
    obtain ⟨ab, ao, asp⟩ := a
    have hsp : asp = none := by
      have h0 := (hf 0 hn).2
      cases asp with
      | none => rfl
      | some q => simp [Addr.add, World.cell?] at h0; split at h0 <;> simp at h0
    subst hsp
    have hlt : ab < w.heap.size := World.block_lt_of_cell? w _ (hf 0 hn).2
    refine ⟨ab, ao, rfl, hlt, fun j u hu => ?_⟩
    have hjl : j < len := by
      have := (List.getElem?_eq_some_iff.1 hu).1
      rw [us_len, hL] at this
      exact this
    have h1 := (hf j hjl).2
    rw [addOff] at h1
    simp [us, List.getElem?_map, List.getElem?_range, hjl] at hu
    rw [h1]
    exact congrArg some hu
/-- The cells of bits. -/
theorem el24 {fuel : Nat} {cs : List Value} {x : DataW H × List MemPlace} (h : DataW.trod enc Tryz.prog w base spare held fuel 26 cs = some x) :
    ∃ v b, cs = [.int .i64 (BitV.n v), .slice v.A v.m v.c] ∧ RdB w v b := by
  obtain ⟨xs, n, _, _, hl, hxl, hf⟩ := DataW.trod_struct Tryz.underlying26 h
  rw [cells24] at hl
  match cs, hl with
  | [c0, c1], _ =>
    have h0 : DataW.trod enc Tryz.prog w base spare held n 3 (List.take (Tryz.prog.cellsOf 3) [c0, c1]) = xs[0]? := hf 0 _ rfl
    have h1 : DataW.trod enc Tryz.prog w base spare held n 22 (List.take (Tryz.prog.cellsOf 22) [c1]) = xs[1]? := hf 1 _ rfl
    rw [cells3] at h0
    rw [cells22] at h1
    simp only [List.take_succ_cons, List.take_zero] at h0 h1
    rw [List.getElem?_eq_getElem (by rw [hxl]; decide)] at h0 h1
    obtain ⟨a, e0, _, w0⟩ := DataW.trod_int Tryz.underlying3 h0
    obtain ⟨A, c, l, e1, hc, hw, hr⟩ := openW h1
    simp only [List.cons.injEq, and_true] at e0 e1
    subst e0 e1
    have := wf_i64 w0
    exact ⟨⟨a, A, l.length, c⟩, ⟨a, l⟩, rfl, ⟨rfl, rfl, hc, this.1, this.2, hw, hr⟩⟩
/-- The cells of a span. -/
theorem el26 {fuel : Nat} {cs : List Value} {x : DataW H × List MemPlace} (h : DataW.trod enc Tryz.prog w base spare held fuel 44 cs = some x) :
    ∃ (v : SpanV) (s : SpanB), cs = v.cs ∧ RdN w v s := by
  obtain ⟨xs, n, _, _, hl, hxl, hf⟩ := DataW.trod_struct Tryz.underlying44 h
  rw [cells26] at hl
  match cs, hl with
  | [c0, c1, c2, c3, c4, c5, c6, c7], _ =>
    have h0 : DataW.trod enc Tryz.prog w base spare held n 3 (List.take (Tryz.prog.cellsOf 3) [c0, c1, c2, c3, c4, c5, c6, c7]) = xs[0]? := hf 0 _ rfl
    have h1 : DataW.trod enc Tryz.prog w base spare held n 3 (List.take (Tryz.prog.cellsOf 3) [c1, c2, c3, c4, c5, c6, c7]) = xs[1]? := hf 1 _ rfl
    have h2 : DataW.trod enc Tryz.prog w base spare held n 3 (List.take (Tryz.prog.cellsOf 3) [c2, c3, c4, c5, c6, c7]) = xs[2]? := hf 2 _ rfl
    have h3 : DataW.trod enc Tryz.prog w base spare held n 26 (List.take (Tryz.prog.cellsOf 26) [c3, c4, c5, c6, c7]) = xs[3]? := hf 3 _ rfl
    have h4 : DataW.trod enc Tryz.prog w base spare held n 26 (List.take (Tryz.prog.cellsOf 26) [c5, c6, c7]) = xs[4]? := hf 4 _ rfl
    have h5 : DataW.trod enc Tryz.prog w base spare held n 4 (List.take (Tryz.prog.cellsOf 4) [c7]) = xs[5]? := hf 5 _ rfl
    rw [cells3] at h0 h1 h2
    rw [cells24] at h3 h4
    rw [cells4] at h5
    simp only [List.take_succ_cons, List.take_zero] at h0 h1 h2 h3 h4 h5
    rw [List.getElem?_eq_getElem (by rw [hxl]; decide)] at h0 h1 h2 h3 h4 h5
    obtain ⟨a, e0, _, w0⟩ := DataW.trod_int Tryz.underlying3 h0
    obtain ⟨b, e1, _, w1⟩ := DataW.trod_int Tryz.underlying3 h1
    obtain ⟨c, e2, _, w2⟩ := DataW.trod_int Tryz.underlying3 h2
    obtain ⟨v3, b3, e3, r3⟩ := el24 h3
    obtain ⟨v4, b4, e4, r4⟩ := el24 h4
    obtain ⟨t, e5, _⟩ := DataW.trod_bool Tryz.underlying4 h5
    simp only [List.cons.injEq, and_true] at e0 e1 e2 e3 e4 e5
    obtain ⟨e3, e3'⟩ := e3
    obtain ⟨e4, e4'⟩ := e4
    subst e0 e1 e2 e3 e3' e4 e4' e5
    exact ⟨⟨a, b, c, v3, v4, t⟩, ⟨a, b, c, b3, b4, t⟩, rfl, ⟨rfl, rfl, rfl, rfl, r3, r4, wf_i64 w0, wf_i64 w1, wf_i64 w2⟩⟩
/-- A list of spans' cells. -/
theorem elS {fuel : Nat} {cs : List Value} {x : DataW H × List MemPlace} (h : DataW.trod enc Tryz.prog w base spare held fuel 29 cs = some x) :
    ∃ A c vs l, cs = [.slice A (List.length l) c] ∧ RdL w A vs l ∧ l.length ≤ c := by
  rcases open_slice Tryz.underlying29 h with ⟨hcs, hx⟩ | ⟨a, len, cap, m, n, D, Pl, hcs, hb, hl, hm, hmm, hx, hi⟩
  · exact ⟨none, 0, [], [], hcs, ⟨RdS.nil_ _ _, rfl, by simp⟩, Nat.le_refl _⟩
  · have hlm : len ≤ m := by rw [hmm]; split <;> omega
    have hel : ∀ i, i < len → ∃ q : SpanV × SpanB, RdN w q.1 q.2 ∧ ∀ j, j < 8 → w.cell? (a.add (i * 8 + j)) = q.1.cs[j]? := by
      intro i hil
      obtain ⟨cs', hc, ht⟩ := hi i (by omega)
      rw [cells26] at hc
      obtain ⟨_, _, hat⟩ := World.cells?_some hc
      obtain ⟨v, s, rfl, hr⟩ := el26 ht
      exact ⟨(v, s), hr, fun j hj => by rw [← Go.Deep.add_add]; exact hat j hj⟩
    obtain ⟨f, hf'⟩ : ∃ f : Nat → SpanV × SpanB, ∀ i, i < len → RdN w (f i).1 (f i).2 ∧ ∀ j, j < 8 → w.cell? (a.add (i * 8 + j)) = (f i).1.cs[j]? := by
      refine ⟨fun i => if hil : i < len then (hel i hil).choose else (⟨0, 0, 0, ⟨0, none, 0, 0⟩, ⟨0, none, 0, 0⟩, false⟩, ⟨0, 0, 0, ⟨0, []⟩, ⟨0, []⟩, false⟩), fun i hil => ?_⟩
      simp only [dif_pos hil]
      exact (hel i hil).choose_spec
    have hL : ((List.range len).map fun i => (f i).1).length = len := by simp
    have hM : ((List.range len).map fun i => (f i).2).length = len := by simp
    refine ⟨some a, cap, (List.range len).map fun i => (f i).1, (List.range len).map fun i => (f i).2, by rw [hM]; exact hcs, ⟨?_, by rw [hL, hM], ?_⟩, by rw [hM]; exact hl⟩
    · have hmx : len ≤ 9223372036854775807 := by simp only [maxLen] at hm; omega
      refine ⟨by rw [fl_len], by rw [hL]; exact hmx, fun hn => ?_⟩
      rw [hL] at hn
      obtain ⟨ab, ao, asp⟩ := a
      have hsp : asp = none := by
        have h0 := (hf' 0 hn).2 0 (by omega)
        cases asp with
        | none => rfl
        | some q => simp [Addr.add, World.cell?, SpanV.cs] at h0; split at h0 <;> simp at h0
      subst hsp
      have hlt : ab < w.heap.size := by
        have h0 := (hf' 0 hn).2 0 (by omega)
        exact World.block_lt_of_cell? w _ (h0.trans rfl)
      refine ⟨ab, ao, rfl, hlt, fun j u hu => ?_⟩
      have hjl : j < (fl ((List.range len).map fun i => (f i).1)).length := (List.getElem?_eq_some_iff.1 hu).1
      rw [fl_len, hL] at hjl
      obtain ⟨i, k, hk, rfl⟩ : ∃ i k, k < 8 ∧ j = i * 8 + k := ⟨j / 8, j % 8, by omega, by omega⟩
      have hil : i < len := by omega
      have h1 := (hf' i hil).2 k hk
      rw [addOff] at h1
      rw [fl_get _ _ _ hk] at hu
      have h2 : ((List.range len).map fun i => (f i).1)[i]? = some (f i).1 := by simp [List.getElem?_map, List.getElem?_range, hil]
      rw [h2] at hu
      rw [h1]
      simpa using hu
    · intro i v s h1 h2
      have hil : i < len := by
        have := (List.getElem?_eq_some_iff.1 h1).1
        rw [hL] at this
        exact this
      simp [List.getElem?_map, List.getElem?_range, hil] at h1 h2
      subst h1 h2
      exact (hf' i hil).1
theorem cellsA : Tryz.prog.cellsOf 24 = 1 := by kernel_rfl
theorem cellsP : Tryz.prog.cellsOf 28 = 2 := by kernel_rfl
theorem cellsL : Tryz.prog.cellsOf 29 = 1 := by kernel_rfl
theorem cellsH : Tryz.prog.cellsOf 31 = 4 := by kernel_rfl
theorem elA {fuel : Nat} {cs : List Value} {x : DataW H × List MemPlace} (h : DataW.trod enc Tryz.prog w base spare held fuel 24 cs = some x) :
    ∃ A c l, cs = [.slice A (List.length l) c] ∧ l.length ≤ c ∧ (∀ x ∈ l, 0 ≤ x ∧ x < 18446744073709551616) ∧ RdU w A l := by
  obtain ⟨xs, n, _, _, hl, hxl, hf⟩ := DataW.trod_struct Tryz.underlying24 h
  rw [cellsA] at hl
  match cs, hl with
  | [c0], _ =>
    have h0 : DataW.trod enc Tryz.prog w base spare held n 22 (List.take (Tryz.prog.cellsOf 22) [c0]) = xs[0]? := hf 0 _ rfl
    rw [cells22] at h0
    simp only [List.take_succ_cons, List.take_zero] at h0
    rw [List.getElem?_eq_getElem (by rw [hxl]; decide)] at h0
    exact openW h0
theorem elP {fuel : Nat} {cs : List Value} {x : DataW H × List MemPlace} (h : DataW.trod enc Tryz.prog w base spare held fuel 28 cs = some x) :
    ∃ v b, cs = [.int .i64 (BitV.n v), .slice v.A v.m v.c] ∧ RdB w v b := by
  obtain ⟨xs, n, _, _, hl, hxl, hf⟩ := DataW.trod_struct Tryz.underlying28 h
  rw [cellsP] at hl
  match cs, hl with
  | [c0, c1], _ =>
    have h0 : DataW.trod enc Tryz.prog w base spare held n 26 (List.take (Tryz.prog.cellsOf 26) [c0, c1]) = xs[0]? := hf 0 _ rfl
    rw [cells24] at h0
    simp only [List.take_succ_cons, List.take_zero] at h0
    rw [List.getElem?_eq_getElem (by rw [hxl]; decide)] at h0
    exact el24 h0
/-- An argument that is a heap. -/
theorem open31 {r : Reach} {b0 : Nat} {v : Value} {d : DataW H} {p : List MemPlace} (hv : Value.okWide Tryz.prog w r b0 31 v) (h : DataW.Trod enc Tryz.prog w base spare held 31 v d p) : ∃ (u : HeapV) (s : HeapB), v = u.v ∧ RdH w u s := by
  obtain ⟨cs, rfl, hsz⟩ := okWide_struct Tryz.underlying31 hv
  obtain ⟨fuel, hf⟩ := h
  obtain ⟨xs, n, _, _, hl, hxl, hf⟩ := DataW.trod_struct Tryz.underlying31 hf
  rw [cellsH] at hl
  have hcl : cs.toList.length = 4 := by simpa [Value.cells] using hl
  have e0 : (Value.agg cs).cells.toList = cs.toList := by simp [Value.cells]
  rw [e0] at hf
  obtain ⟨c0, c1, c2, c3, hcs⟩ : ∃ c0 c1 c2 c3, cs.toList = [c0, c1, c2, c3] := by
    match hq : cs.toList, hcl with
    | [c0, c1, c2, c3], _ => exact ⟨c0, c1, c2, c3, rfl⟩
  rw [hcs] at hf
  have h0 : DataW.trod enc Tryz.prog w base spare held n 24 (List.take (Tryz.prog.cellsOf 24) [c0, c1, c2, c3]) = xs[0]? := hf 0 _ rfl
  have h1 : DataW.trod enc Tryz.prog w base spare held n 28 (List.take (Tryz.prog.cellsOf 28) [c1, c2, c3]) = xs[1]? := hf 1 _ rfl
  have h2 : DataW.trod enc Tryz.prog w base spare held n 29 (List.take (Tryz.prog.cellsOf 29) [c3]) = xs[2]? := hf 2 _ rfl
  rw [cellsA] at h0
  rw [cellsP] at h1
  rw [cellsL] at h2
  simp only [List.take_succ_cons, List.take_zero] at h0 h1 h2
  rw [List.getElem?_eq_getElem (by rw [hxl]; decide)] at h0 h1 h2
  obtain ⟨A0, k0, l0, q0, hk0, hw0, hr0⟩ := elA h0
  obtain ⟨v1, b1, q1, hr1⟩ := elP h1
  obtain ⟨A2, k2, vs, l2, q2, hr2, hk2⟩ := elS h2
  simp only [List.cons.injEq, and_true] at q0 q1 q2
  obtain ⟨q1, q1'⟩ := q1
  subst q0 q1 q1' q2
  refine ⟨⟨A0, l0.length, k0, v1, A2, l2.length, k2, vs⟩, ⟨l0, b1, l2⟩, ?_, ⟨rfl, hk0, hw0, hr0, hr1, rfl, hk2, hr2⟩⟩
  have e2 : cs = #[.slice A0 l0.length k0, .int .i64 v1.n, .slice v1.A v1.m v1.c, .slice A2 l2.length k2] := by
    apply Array.toList_inj.1
    rw [hcs]
  rw [e2]
  rfl
end

/-! ### The library's table, which the rows list -/
theorem gTab : Tryz.prog.globalNamed "math/bits.deBruijn64tab" = some 0 := by kernel_rfl
theorem gTabType : (Tryz.prog.globals[0]?).map (·.type) = some 170 := by kernel_rfl
theorem cells96 : Tryz.prog.cellsOf 170 = 64 := by kernel_rfl
theorem cells5 : Tryz.prog.cellsOf 5 = 1 := by kernel_rfl
theorem tab_of_laid {W : World} (h : laidMetH Tryz.prog [("math/bits.deBruijn64tab", Rows.laid_math_bits_deBruijn64tab)] W) : Tab W := by
  have ht : Lib.TabIs Tryz.prog W "math/bits.deBruijn64tab" .u8 (Lib.deBruijn64tab.map fun (n : Nat) => (n : Int)) :=
    Lib.tabIs_of_head (rest := []) gTab gTabType Tryz.underlying170 Tryz.underlying5 cells5 cells96 h
  have hc : TabAt 0 Lib.deBruijn64tab W := by
    intro j hj
    rw [ht.cell gTab j (by rw [List.length_map]; exact hj)]
    rw [List.getD_eq_getElem?_getD, List.getD_eq_getElem?_getD, List.getElem?_map, List.getElem?_eq_getElem hj]
    rfl
  exact ⟨World.block_lt_of_cell? W ⟨0, 0, none⟩ (hc 0 (by decide)), hc⟩
/-- A world for the witness. -/
noncomputable def laidWorld (os : Os) : World :=
  { World.holding Tryz.prog os ⟨#[], #[], []⟩ with heap := (World.holding Tryz.prog os ⟨#[], #[], []⟩).heap.modify 0 fun
      | .cells _ t frozen => .cells (Lib.deBruijn64tab.map fun (n : Nat) => Value.int .u8 (n : Int)).toArray t frozen
      | o => o }
end Go.Proofs.YtieijfefnedifaaGreatDoor
