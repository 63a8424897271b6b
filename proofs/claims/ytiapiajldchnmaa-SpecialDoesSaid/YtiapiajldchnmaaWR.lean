/- How an argument that is a list of specials, or a special, reads. -/
import Derived.Test.YtiapiajldchnmaaRows
import Derived.Test.YtiapiajldchnmaaWP
import Derived.WalkKit
import Derived.ProofKit
import Derived.OpenShut
import Derived.ShutString
import Derived.ChangeOld
import Derived.SizedLaws
import Derived.Deep.Slices
import Derived.Deep.Fields
import Derived.ChangeSame
import Derived.Lib.SmallJoins
namespace Go.Proofs.Ytiapiajldchnmaa
open Go.ChangeShapes Go.WideShapes Go.Deep Go.RowKit
set_option linter.unusedVariables false
set_option linter.unusedSimpArgs false
section
variable {H : Type} {enc : TypeId × Value → H} {w : World} {base : Nat} {spare : Nat → Bool} {held : Bool}

theorem cells41 : Try.prog.cellsOf 41 = 3 := by kernel_rfl
theorem cells23 : Try.prog.cellsOf 23 = 1 := by kernel_rfl
theorem cells24 : Try.prog.cellsOf 24 = 1 := by kernel_rfl
theorem bytes41 : Try.prog.bytesOf 41 = 24 := by kernel_rfl

theorem el41 {fuel : Nat} {cs : List Value} {x : DataW H × List MemPlace} (h : DataW.trod enc Try.prog w base spare held fuel 41 cs = some x) : ∃ s : Sp, cs = s.cs := by
  obtain ⟨xs, n, _, _, hl, hxl, hf⟩ := DataW.trod_struct Try.underlying41 h
  rw [cells41] at hl
  match cs, hl with
  | [c0, c1, c2], _ =>
    have h0 : DataW.trod enc Try.prog w base spare held n 23 (List.take (Try.prog.cellsOf 23) [c0, c1, c2]) = xs[0]? := hf 0 _ rfl
    have h1 : DataW.trod enc Try.prog w base spare held n 24 (List.take (Try.prog.cellsOf 24) [c1, c2]) = xs[1]? := hf 1 _ rfl
    have h2 : DataW.trod enc Try.prog w base spare held n 23 (List.take (Try.prog.cellsOf 23) [c2]) = xs[2]? := hf 2 _ rfl
    rw [cells23] at h0 h2
    rw [cells24] at h1
    simp only [List.take_succ_cons, List.take_zero] at h0 h1 h2
    rw [List.getElem?_eq_getElem (by rw [hxl]; decide)] at h0 h1 h2
    obtain ⟨a, e0, _, _⟩ := DataW.trod_int Try.underlying23 h0
    obtain ⟨b, e1, _, _⟩ := DataW.trod_int Try.underlying24 h1
    obtain ⟨c, e2, _, _⟩ := DataW.trod_int Try.underlying23 h2
    simp only [List.cons.injEq, and_true] at e0 e1 e2
    subst e0 e1 e2
    exact ⟨⟨a, b, c⟩, rfl⟩

theorem open22 {r : Reach} {b0 : Nat} {v : Value} {d : DataW H} {p : List MemPlace} (hv : Value.okWide Try.prog w r b0 22 v) (h : DataW.Trod enc Try.prog w base spare held 22 v d p) :
    ∃ A c l, v = .slice A l.length c ∧ RdS w A l ∧ l.length ≤ c ∧ (l = [] ∨ ∃ es sp, d = .slice es sp ∧ l.length = es.length) := by
  obtain ⟨a0, len, cap, rfl⟩ := okWide_slice Try.underlying22 hv
  obtain ⟨fuel, hf⟩ := h
  rcases open_slice Try.underlying22 hf with ⟨hcs, hx⟩ | ⟨a, len', cap', m, n, D, Pl, hcs, hb, hl, hm, hmm, hx, hi⟩
  · simp [Value.cells] at hcs
    obtain ⟨rfl, rfl, rfl⟩ := hcs
    exact ⟨none, 0, [], rfl, RdS.nil_ _ _, Nat.le_refl _, .inl rfl⟩
  · simp [Value.cells] at hcs
    obtain ⟨rfl, rfl, rfl⟩ := hcs
    have hlm : len ≤ m := by rw [hmm]; split <;> omega
    have hel : ∀ i, i < len → ∃ s : Sp, ∀ j, j < 3 → w.cell? (a.add (i * 3 + j)) = s.cs[j]? := by
      intro i hil
      obtain ⟨cs', hc, ht⟩ := hi i (by omega)
      rw [cells41] at hc
      obtain ⟨_, _, hat⟩ := World.cells?_some hc
      obtain ⟨s, rfl⟩ := el41 ht
      exact ⟨s, fun j hj => by rw [← Go.Deep.add_add]; exact hat j hj⟩
    obtain ⟨f, hf'⟩ : ∃ f : Nat → Sp, ∀ i, i < len → ∀ j, j < 3 → w.cell? (a.add (i * 3 + j)) = (f i).cs[j]? := by
      refine ⟨fun i => if hil : i < len then (hel i hil).choose else ⟨0, 0, 0⟩, fun i hil => ?_⟩
      simp only [dif_pos hil]
      exact (hel i hil).choose_spec
    have hL : ((List.range len).map f).length = len := by simp
    refine ⟨some a, cap, (List.range len).map f, by rw [hL], ?_, by rw [hL]; exact hl, .inr ⟨_, _, (Prod.mk.inj hx).1, by rw [hL]; simp⟩⟩
    have hmx : len ≤ 9223372036854775807 := by simp only [maxLen] at hm; omega
    refine ⟨by rw [fl_len], by rw [hL]; exact hmx, fun hn => ?_⟩
    rw [hL] at hn
    obtain ⟨ab, ao, asp⟩ := a
    have hsp : asp = none := by
      have h0 := hf' 0 hn 0 (by omega)
      cases asp with
      | none => rfl
      | some q => simp [Addr.add, World.cell?, Sp.cs] at h0; split at h0 <;> simp at h0
    subst hsp
    have hlt : ab < w.heap.size := by
      have h0 := hf' 0 hn 0 (by omega)
      exact World.block_lt_of_cell? w _ (h0.trans rfl)
    refine ⟨ab, ao, rfl, hlt, fun j u hu => ?_⟩
    have hjl : j < (fl ((List.range len).map f)).length := (List.getElem?_eq_some_iff.1 hu).1
    rw [fl_len, hL] at hjl
    obtain ⟨i, k, hk, rfl⟩ : ∃ i k, k < 3 ∧ j = i * 3 + k := ⟨j / 3, j % 3, by omega, by omega⟩
    have hil : i < len := by omega
    have h1 := hf' i hil k hk
    rw [addOff] at h1
    rw [fl_get _ _ _ hk] at hu
    have h2 : ((List.range len).map f)[i]? = some (f i) := by simp [List.getElem?_map, List.getElem?_range, hil]
    rw [h2] at hu
    rw [h1]
    simpa using hu
theorem sized22 {ts : List TypeId} {ds : List (DataW H)} {j : Nat} {d : DataW H} {l : List Sp} (hsz : (DataW.weightsEach Try.prog ts ds).all (· ≤ reachBytes) = true) (ht : ts[j]? = some 22) (hd : ds[j]? = some d)
    (h : l = [] ∨ ∃ es sp, d = .slice es sp ∧ l.length = es.length) : l.length * 24 ≤ 140737488351232 := by
  rcases h with rfl | ⟨es, sp, rfl, hl⟩
  · simp
  · have z := sized_slice hsz ht hd Try.underlying22
    rw [bytes41] at z
    have : l.length * 24 ≤ (es.length + sp.length) * 24 := Nat.mul_le_mul_right _ (by omega)
    exact Nat.le_trans this z
theorem open41 {r : Reach} {b0 : Nat} {v : Value} {d : DataW H} {p : List MemPlace} (hv : Value.okWide Try.prog w r b0 41 v) (h : DataW.Trod enc Try.prog w base spare held 41 v d p) : ∃ s : Sp, v = s.v := by
  obtain ⟨cs, rfl, hsz⟩ := okWide_struct Try.underlying41 hv
  obtain ⟨fuel, hf⟩ := h
  obtain ⟨s, hs⟩ := el41 hf
  refine ⟨s, ?_⟩
  have e : cs.toList = s.cs := by simpa [Value.cells] using hs
  have e2 : cs = s.cs.toArray := by rw [← e]
  rw [e2]
  rfl
end
end Go.Proofs.Ytiapiajldchnmaa
