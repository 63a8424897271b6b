/- How arguments read; what the listed variables hold. -/
import Derived.Test.YtfgeomdfgjefdaaDoorRows
import Derived.Test.YtfgeomdfgjefdaaDoorAP
import Derived.WalkKit
import Derived.ProofKit
import Derived.OpenShut
import Derived.ChangeOld
import Derived.SizedLaws
import Derived.Deep.Slices
import Derived.Deep.Fields
import Derived.ChangeSame
import Derived.Lib.SmallJoins
import Derived.Lib.LaidTab
import Derived.LaidSub
import Derived.MakeChecks
import Derived.Lay
namespace Go.Proofs.YtfgeomdfgjefdaaDoor
open Go.ChangeShapes Go.WideShapes Go.Deep Go.RowKit
set_option linter.unusedVariables false
set_option linter.unusedSimpArgs false
set_option maxRecDepth 100000
section
variable {H : Type} {enc : TypeId × Value → H} {w : World} {base : Nat} {spare : Nat → Bool} {held : Bool}

theorem cells41 : Tryd.prog.cellsOf 41 = 5 := by kernel_rfl
theorem cells39 : Tryd.prog.cellsOf 39 = 2 := by kernel_rfl
theorem cells37 : Tryd.prog.cellsOf 37 = 1 := by kernel_rfl
theorem cells3 : Tryd.prog.cellsOf 3 = 1 := by kernel_rfl
theorem cells4 : Tryd.prog.cellsOf 4 = 1 := by kernel_rfl
theorem wf_u8 {x : Int} (h : (Lit.int .u8 x).wf = true) : 0 ≤ x := by
  simp only [Lit.wf, Bool.and_eq_true, decide_eq_true_eq] at h
  exact h.1
/-- The cells of a task. -/
theorem el39 {fuel : Nat} {cs : List Value} {x : DataW H × List MemPlace} (h : DataW.trod enc Tryd.prog w base spare held fuel 39 cs = some x) : ∃ k n : Int, cs = [.int .u8 k, .int .i64 n] ∧ 0 ≤ k := by
  obtain ⟨xs, n, _, _, hl, hxl, hf⟩ := DataW.trod_struct Tryd.underlying39 h
  rw [cells39] at hl
  match cs, hl with
  | [c0, c1], _ =>
    have h0 : DataW.trod enc Tryd.prog w base spare held n 37 (List.take (Tryd.prog.cellsOf 37) [c0, c1]) = xs[0]? := hf 0 _ rfl
    have h1 : DataW.trod enc Tryd.prog w base spare held n 3 (List.take (Tryd.prog.cellsOf 3) [c1]) = xs[1]? := hf 1 _ rfl
    rw [cells37] at h0
    rw [cells3] at h1
    simp only [List.take_succ_cons, List.take_zero] at h0 h1
    rw [List.getElem?_eq_getElem (by rw [hxl]; decide)] at h0 h1
    obtain ⟨a, e0, _, w0⟩ := DataW.trod_int Tryd.underlying37 h0
    obtain ⟨b, e1, _, w1⟩ := DataW.trod_int Tryd.underlying3 h1
    simp only [List.cons.injEq, and_true] at e0 e1
    subst e0 e1
    exact ⟨a, b, rfl, wf_u8 w0⟩
/-- The cells of an event. -/
theorem el41 {fuel : Nat} {cs : List Value} {x : DataW H × List MemPlace} (h : DataW.trod enc Tryd.prog w base spare held fuel 41 cs = some x) : ∃ e : Ev, cs = e.cs ∧ 0 ≤ e.kind := by
  obtain ⟨xs, n, _, _, hl, hxl, hf⟩ := DataW.trod_struct Tryd.underlying41 h
  rw [cells41] at hl
  match cs, hl with
  | [c0, c1, c2, c3, c4], _ =>
    have h0 : DataW.trod enc Tryd.prog w base spare held n 4 (List.take (Tryd.prog.cellsOf 4) [c0, c1, c2, c3, c4]) = xs[0]? := hf 0 _ rfl
    have h1 : DataW.trod enc Tryd.prog w base spare held n 3 (List.take (Tryd.prog.cellsOf 3) [c1, c2, c3, c4]) = xs[1]? := hf 1 _ rfl
    have h2 : DataW.trod enc Tryd.prog w base spare held n 39 (List.take (Tryd.prog.cellsOf 39) [c2, c3, c4]) = xs[2]? := hf 2 _ rfl
    have h3 : DataW.trod enc Tryd.prog w base spare held n 3 (List.take (Tryd.prog.cellsOf 3) [c4]) = xs[3]? := hf 3 _ rfl
    rw [cells4] at h0
    rw [cells3] at h1 h3
    rw [cells39] at h2
    simp only [List.take_succ_cons, List.take_zero] at h0 h1 h2 h3
    rw [List.getElem?_eq_getElem (by rw [hxl]; decide)] at h0 h1 h2 h3
    obtain ⟨t, e0, _⟩ := DataW.trod_bool Tryd.underlying4 h0
    obtain ⟨a, e1, _, w1⟩ := DataW.trod_int Tryd.underlying3 h1
    obtain ⟨k, q, e2, hk⟩ := el39 h2
    obtain ⟨b, e3, _, w3⟩ := DataW.trod_int Tryd.underlying3 h3
    simp only [List.cons.injEq, and_true] at e0 e1 e2 e3
    obtain ⟨e2, e2'⟩ := e2
    subst e0 e1 e2 e2' e3
    exact ⟨⟨t, a, k, q, b⟩, rfl, hk⟩
/-- An argument that is a list of events. -/
theorem open22 {r : Reach} {b0 : Nat} {v : Value} {d : DataW H} {p : List MemPlace} (hv : Value.okWide Tryd.prog w r b0 22 v) (h : DataW.Trod enc Tryd.prog w base spare held 22 v d p) :
    ∃ A c l, v = .slice A (List.length l) c ∧ RdS w A l ∧ (∀ e ∈ l, 0 ≤ e.kind) := by
  obtain ⟨a0, len, cap, rfl⟩ := okWide_slice Tryd.underlying22 hv
  obtain ⟨fuel, hf⟩ := h
  rcases open_slice Tryd.underlying22 hf with ⟨hcs, hx⟩ | ⟨a, len', cap', m, n, D, Pl, hcs, hb, hl, hm, hmm, hx, hi⟩
  · simp [Value.cells] at hcs
    obtain ⟨rfl, rfl, rfl⟩ := hcs
    exact ⟨none, 0, [], rfl, RdS.nil_ _ _, by simp⟩
  · simp [Value.cells] at hcs
    obtain ⟨rfl, rfl, rfl⟩ := hcs
    have hlm : len ≤ m := by rw [hmm]; split <;> omega
    have hel : ∀ i, i < len → ∃ q : Ev, 0 ≤ q.kind ∧ ∀ j, j < 5 → w.cell? (a.add (i * 5 + j)) = q.cs[j]? := by
      intro i hil
      obtain ⟨cs', hc, ht⟩ := hi i (by omega)
      rw [cells41] at hc
      obtain ⟨_, _, hat⟩ := World.cells?_some hc
      obtain ⟨e, rfl, hr⟩ := el41 ht
      exact ⟨e, hr, fun j hj => by rw [← Go.Deep.add_add]; exact hat j hj⟩
    obtain ⟨f, hf'⟩ : ∃ f : Nat → Ev, ∀ i, i < len → 0 ≤ (f i).kind ∧ ∀ j, j < 5 → w.cell? (a.add (i * 5 + j)) = (f i).cs[j]? := by
      refine ⟨fun i => if hil : i < len then (hel i hil).choose else zeroEv, fun i hil => ?_⟩
      simp only [dif_pos hil]
      exact (hel i hil).choose_spec
    have hL : ((List.range len).map f).length = len := by simp
    refine ⟨some a, cap, (List.range len).map f, by rw [hL], ?_, fun e he => ?_⟩
    · have hmx : len ≤ 9223372036854775807 := by simp only [maxLen] at hm; omega
      refine ⟨by rw [fl_len], by rw [hL]; exact hmx, fun hn => ?_⟩
      rw [hL] at hn
      obtain ⟨ab, ao, asp⟩ := a
      have hsp : asp = none := by
        have h0 := (hf' 0 hn).2 0 (by omega)
        cases asp with
        | none => rfl
        | some q => simp [Addr.add, World.cell?, Ev.cs] at h0; split at h0 <;> simp at h0
      subst hsp
      have hlt : ab < w.heap.size := by
        have h0 := (hf' 0 hn).2 0 (by omega)
        exact World.block_lt_of_cell? w _ (h0.trans rfl)
      refine ⟨ab, ao, rfl, hlt, fun j u hu => ?_⟩
      have hjl : j < (fl ((List.range len).map f)).length := (List.getElem?_eq_some_iff.1 hu).1
      rw [fl_len, hL] at hjl
      obtain ⟨i, k, hk, rfl⟩ : ∃ i k, k < 5 ∧ j = i * 5 + k := ⟨j / 5, j % 5, by omega, by omega⟩
      have hil : i < len := by omega
      have h1 := (hf' i hil).2 k hk
      rw [addOff] at h1
      rw [fl_get _ _ _ hk] at hu
      have h2 : ((List.range len).map f)[i]? = some (f i) := by simp [List.getElem?_map, List.getElem?_range, hil]
      rw [h2] at hu
      rw [h1]
      simpa using hu
    · simp only [List.mem_map, List.mem_range] at he
      obtain ⟨i, hil, rfl⟩ := he
      exact (hf' i hil).1
/-- An argument that is an event. -/
theorem open41 {r : Reach} {b0 : Nat} {v : Value} {d : DataW H} {p : List MemPlace} (hv : Value.okWide Tryd.prog w r b0 41 v) (h : DataW.Trod enc Tryd.prog w base spare held 41 v d p) : ∃ e : Ev, v = e.v ∧ 0 ≤ e.kind := by
  obtain ⟨cs, rfl, hsz⟩ := okWide_struct Tryd.underlying41 hv
  obtain ⟨fuel, hf⟩ := h
  obtain ⟨e, hs, hr⟩ := el41 hf
  refine ⟨e, ?_, hr⟩
  have e1 : cs.toList = e.cs := by simpa [Value.cells] using hs
  have e2 : cs = e.cs.toArray := by rw [← e1]
  rw [e2]
  rfl
/-- An argument that is a text. -/
theorem open9 {r : Reach} {b0 : Nat} {v : Value} {d : DataW H} {p : List MemPlace} (hv : Value.okWide Tryd.prog w r b0 9 v) (h : DataW.Trod enc Tryd.prog w base spare held 9 v d p) : ∃ l : List UInt8, v = strV l ∧ l.length ≤ 9223372036854775807 := by
  obtain ⟨s, rfl⟩ := okWide_string Tryd.underlying9 hv
  obtain ⟨fuel, hf⟩ := h
  obtain ⟨s2, hs, _, hz⟩ := DataW.trod_string Tryd.underlying9 hf
  have hs' : [Value.string s] = [Value.string s2] := hs
  injection hs' with hs1 _
  injection hs1 with hs2
  subst hs2
  refine ⟨s.data.toList, rfl, ?_⟩
  have : s.data.toList.length = s.size := Array.length_toList
  rw [this]
  unfold maxLen at hz
  omega

end

/-! ### The library's variables, which the rows list -/
theorem g_tab : Tryd.prog.globalNamed "internal/strconv.uint64pow10" = some 5 := by kernel_rfl
theorem t_tab : (Tryd.prog.globals[5]?).map (·.type) = some 121 := by kernel_rfl
theorem cells121 : Tryd.prog.cellsOf 121 = 20 := by kernel_rfl
theorem cells73 : Tryd.prog.cellsOf 73 = 1 := by kernel_rfl
theorem g_syn : Tryd.prog.globalNamed "strconv.ErrSyntax" = some 3 := by kernel_rfl
theorem t_syn : (Tryd.prog.globals[3]?).map (·.type) = some 53 := by kernel_rfl
theorem g_rng : Tryd.prog.globalNamed "strconv.ErrRange" = some 4 := by kernel_rfl
theorem t_rng : (Tryd.prog.globals[4]?).map (·.type) = some 53 := by kernel_rfl
def laidL : List (String × DataW Unit) := Rows.scriptReadsRow.laid
theorem plainL : (laidL.all fun x => x.2.handleName?.isNone) = true := by kernel_rfl
theorem cut_tab : (laidL.filter fun x => x.1 == "internal/strconv.uint64pow10") = [("internal/strconv.uint64pow10", Lib.tabData .u64 Lib.pow10Tab)] := by kernel_rfl
theorem cut_syn : (laidL.filter fun x => x.1 == "strconv.ErrSyntax") = [("strconv.ErrSyntax", Rows.laid_strconv_ErrSyntax)] := by kernel_rfl
theorem cut_rng : (laidL.filter fun x => x.1 == "strconv.ErrRange") = [("strconv.ErrRange", Rows.laid_strconv_ErrRange)] := by kernel_rfl
theorem iface_cell {W : World} {name : String} {nm : String} {d : DataW Unit} {g : Nat} (hg : Tryd.prog.globalNamed name = some g) (ht : (Tryd.prog.globals[g]?).map (·.type) = some 53) (h : laidMet Tryd.prog [(name, .iface nm d)] W) : ∃ te pe, W.cell? ⟨g, 0, none⟩ = some (.iface te pe) := by
  obtain ⟨ps, ⟨g', t', cs, fuel, p, q, hg', ht', hvar, hd, _, _⟩, _⟩ := h
  obtain rfl := Option.some.inj (hg.symm.trans hg')
  obtain rfl := Option.some.inj (ht.symm.trans ht')
  obtain ⟨f1, u, v, hcs, _, _⟩ := iface_of_trod Tryd.underlying53 hd
  have h1 := World.var?_cell hg hvar 0
  refine ⟨u, v, h1.trans ?_⟩
  rw [← Array.getElem?_toList, hcs]
  rfl
theorem env_of_laid {W : World} (hL : laidMetH Tryd.prog laidL W) (hS : W.ShapedOpen Tryd.prog) : Env W := by
  rw [MakeChecks.laidMetH_plain _ _ _ plainL] at hL
  have h1 := hL.filter fun x => x.1 == "internal/strconv.uint64pow10"
  have h2 := hL.filter fun x => x.1 == "strconv.ErrSyntax"
  have h3 := hL.filter fun x => x.1 == "strconv.ErrRange"
  rw [cut_tab] at h1
  rw [cut_syn] at h2
  rw [cut_rng] at h3
  exact ⟨Tryd.laysM145.s1_3 W hS, iface_cell g_syn t_syn h2, iface_cell g_rng t_rng h3, Lib.tabIs_of_head g_tab t_tab Tryd.underlying121 Tryd.underlying73 cells73 cells121 h1⟩
end Go.Proofs.YtfgeomdfgjefdaaDoor
