/- How an argument that is a Grey, or a list of words, reads; and how much of it there may be. -/
import Derived.Test.YtinjeoohklabpaaRows
import Derived.Test.YtinjeoohklabpaaYN
import Derived.WalkKit
import Derived.ProofKit
import Derived.OpenShut
import Derived.ChangeOld
import Derived.SizedLaws
import Derived.Deep.Slices
import Derived.Deep.Fields
import Derived.ChangeSame
import Derived.Lib.SmallJoins
namespace Go.Proofs.Ytinjeoohklabpaa
open Go.ChangeShapes Go.WideShapes Go.Deep Go.RowKit
set_option linter.unusedVariables false
set_option linter.unusedSimpArgs false
section
variable {H : Type} {enc : TypeId × Value → H} {w : World} {base : Nat} {spare : Nat → Bool} {held : Bool}
theorem cellsU : Try.prog.cellsOf 30 = 1 := by kernel_rfl
theorem cellsV : Try.prog.cellsOf 25 = 1 := by kernel_rfl
theorem cellsQ : Try.prog.cellsOf 22 = 1 := by kernel_rfl
theorem cellsG : Try.prog.cellsOf 24 = 1 := by kernel_rfl
theorem bytesU : Try.prog.bytesOf 30 = 8 := by kernel_rfl
theorem bytesV : Try.prog.bytesOf 25 = 24 := by kernel_rfl
theorem wf_u64 {x : Int} (h : (Lit.int .u64 x).wf = true) : 0 ≤ x ∧ x < 18446744073709551616 := by
  simp only [Lit.wf, Bool.and_eq_true, decide_eq_true_eq] at h
  exact ⟨h.1, Int.lt_of_le_of_lt h.2 (by decide)⟩
theorem wf_i64 {x : Int} (h : (Lit.int .i64 x).wf = true) : -9223372036854775808 ≤ x ∧ x ≤ 9223372036854775807 := by
  simp only [Lit.wf, Bool.and_eq_true, decide_eq_true_eq] at h
  exact ⟨h.1, h.2⟩

/-- What of a datum takes room takes no more than the form lets in. -/
def Wt (t : TypeId) (d : DataW H) : Prop := ∀ n ∈ d.weights Try.prog t, n ≤ reachBytes
theorem wt_arg {ts : List TypeId} {ds : List (DataW H)} {j : Nat} {t : TypeId} {d : DataW H} (h : (DataW.weightsEach Try.prog ts ds).all (· ≤ reachBytes) = true) (ht : ts[j]? = some t) (hd : ds[j]? = some d) : Wt t d := fun n hn => by
  have := List.all_eq_true.1 h n (DataW.weights_mem_each ht hd n hn)
  simpa using this
theorem wt_agg {t e : TypeId} {x : DataW H × List MemPlace} {xs : List (DataW H × List MemPlace)} {fs : Array Field} {d : DataW H} {ps : List MemPlace} {j : Nat} (h : Wt t x.1) (hx : x = (.agg (xs.map (·.1)), ps)) (hu : Try.prog.underlying t = some (.struct fs))
    (ht : (fs.toList.map (·.type))[j]? = some e) (hd : (xs.map (·.1))[j]? = some d) : Wt e d := fun n hn => h n (by
  rw [hx]
  simp only [DataW.weights, hu]
  exact DataW.weights_mem_each ht hd n hn)
theorem wt_all {e : TypeId} {d : DataW H} {n : Nat} (hn : n ∈ d.weights Try.prog e) : ∀ {l : List (DataW H)}, d ∈ l → n ∈ DataW.weightsAll Try.prog e l := by
  intro l
  induction l with
  | nil => intro h; cases h
  | cons x r ih =>
    intro h
    rw [DataW.weightsAll, List.mem_append]
    rcases List.mem_cons.1 h with rfl | h
    · exact .inl hn
    · exact .inr (ih h)
theorem openWs {fuel : Nat} {cs : List Value} {x : DataW H × List MemPlace} (h : DataW.trod enc Try.prog w base spare held fuel 25 cs = some x) :
    ∃ A c l, cs = [.slice A (List.length l) c] ∧ l.length ≤ c ∧ (∀ x ∈ l, 0 ≤ x ∧ x < 18446744073709551616) ∧ RdU w A l ∧ (Wt 25 x.1 → l.length * 8 ≤ reachBytes) := by
  rcases open_slice Try.underlying25 h with ⟨hcs, hx⟩ | ⟨a, len, cap, m, n, D, Pl, hcs, hb, hl, hm, hmm, hx, hi⟩
  · exact ⟨none, 0, [], hcs, Nat.le_refl _, by simp, RdU.nil_ _ _, fun _ => by simp⟩
  · have hlm : len ≤ m := by rw [hmm]; split <;> omega
    have hel : ∀ i, i < len → ∃ z : Int, (0 ≤ z ∧ z < 18446744073709551616) ∧ w.cell? (a.add i) = some (.int .u64 z) := by
      intro i hil
      obtain ⟨cs', hc, ht⟩ := hi i (by omega)
      rw [cellsU] at hc
      obtain ⟨_, _, hat⟩ := World.cells?_some hc
      obtain ⟨z, rfl, _, hw⟩ := DataW.trod_int Try.underlying30 ht
      have h0 := hat 0 (by omega)
      rw [Go.Deep.add_add] at h0
      simp only [Nat.mul_one, Nat.add_zero] at h0
      exact ⟨z, wf_u64 hw, h0⟩
    obtain ⟨f, hf⟩ : ∃ f : Nat → Int, ∀ i, i < len → (0 ≤ f i ∧ f i < 18446744073709551616) ∧ w.cell? (a.add i) = some (.int .u64 (f i)) := by
      refine ⟨fun i => if hil : i < len then (hel i hil).choose else 0, fun i hil => ?_⟩
      simp only [dif_pos hil]
      exact (hel i hil).choose_spec
    have hL : ((List.range len).map f).length = len := by simp
    refine ⟨some a, cap, (List.range len).map f, by rw [hL]; exact hcs, by rw [hL]; exact hl, ?_, ?_⟩
    · intro x hx
      simp only [List.mem_map, List.mem_range] at hx
      obtain ⟨i, hil, rfl⟩ := hx
      exact (hf i hil).1
    have hmx : len ≤ 9223372036854775807 := by simp only [maxLen] at hm; omega
    refine ⟨?_, fun hz => by
      have := hz ((((List.range len).map D).length + ((List.range (m - len)).map fun j => D (len + j)).length) * Try.prog.bytesOf 30) (by rw [hx]; simp [DataW.weights, Try.underlying25])
      rw [bytesU] at this
      simp at this ⊢
      omega⟩
    refine ⟨by rw [us_len, Nat.mul_one], by rw [hL]; exact hmx, fun hn => ?_⟩
    rw [hL] at hn
    obtain ⟨ab, ao, asp⟩ := a
    have hsp : asp = none := by
      have h0 := (hf 0 hn).2
      cases asp with
      | none => rfl
      | some q => simp [Addr.add, World.cell?] at h0; split at h0 <;> simp at h0
    subst hsp
    have hlt : ab < w.heap.size := World.block_lt_of_cell? w _ (hf 0 hn).2
    refine ⟨ab, ao, rfl, hlt, fun j u hu => ?_⟩
    have hjl : j < len := by
      have := (List.getElem?_eq_some_iff.1 hu).1
      rw [us_len, hL] at this
      exact this
    have h1 := (hf j hjl).2
    rw [addOff] at h1
    simp [us, List.getElem?_map, List.getElem?_range, hjl] at hu
    rw [h1]
    exact congrArg some hu

theorem openQs {fuel : Nat} {cs : List Value} {x : DataW H × List MemPlace} (h : DataW.trod enc Try.prog w base spare held fuel 22 cs = some x) :
    ∃ A c vs l, cs = [.slice A (List.length l) c] ∧ l.length ≤ c ∧ RdQ w A vs l ∧ WdQ l ∧ (Wt 22 x.1 → smallQ l) := by
  rcases open_slice Try.underlying22 h with ⟨hcs, hx⟩ | ⟨a, len, cap, m, n, D, Pl, hcs, hb, hl, hm, hmm, hx, hi⟩
  · exact ⟨none, 0, [], [], hcs, Nat.le_refl _, ⟨RdV.nil_ _ _, rfl, by simp⟩, (fun x hx => by simp at hx), fun _ => ⟨by simp, fun s hs => by cases hs⟩⟩
  · have hlm : len ≤ m := by rw [hmm]; split <;> omega
    have hel : ∀ i, i < len → ∃ q : QV × List Int, (RdE w q.1 q.2 ∧ (∀ x ∈ q.2, 0 ≤ x ∧ x < 18446744073709551616) ∧ (Wt 25 (D i) → q.2.length * 8 ≤ reachBytes)) ∧ w.cell? (a.add i) = some (.slice q.1.A q.1.n q.1.c) := by
      intro i hil
      obtain ⟨cs', hc, ht⟩ := hi i (by omega)
      rw [cellsV] at hc
      obtain ⟨_, _, hat⟩ := World.cells?_some hc
      obtain ⟨A, c, l, rfl, _, hw, hr, hz⟩ := openWs ht
      have h0 := hat 0 (by omega)
      rw [Go.Deep.add_add] at h0
      simp only [Nat.mul_one, Nat.add_zero] at h0
      exact ⟨(⟨A, l.length, c⟩, l), ⟨⟨rfl, hr⟩, hw, hz⟩, h0⟩
    obtain ⟨f, hf'⟩ : ∃ f : Nat → QV × List Int, ∀ i, i < len → (RdE w (f i).1 (f i).2 ∧ (∀ x ∈ (f i).2, 0 ≤ x ∧ x < 18446744073709551616) ∧ (Wt 25 (D i) → (f i).2.length * 8 ≤ reachBytes)) ∧ w.cell? (a.add i) = some (.slice (f i).1.A (f i).1.n (f i).1.c) := by
      refine ⟨fun i => if hil : i < len then (hel i hil).choose else (⟨none, 0, 0⟩, []), fun i hil => ?_⟩
      simp only [dif_pos hil]
      exact (hel i hil).choose_spec
    have hL : ((List.range len).map fun i => (f i).1).length = len := by simp
    have hM : ((List.range len).map fun i => (f i).2).length = len := by simp
    refine ⟨some a, cap, (List.range len).map fun i => (f i).1, (List.range len).map fun i => (f i).2, by rw [hM]; exact hcs, by rw [hM]; exact hl, ⟨?_, by rw [hL, hM], ?_⟩, ?_, ?_⟩
    · have hmx : len ≤ 9223372036854775807 := by simp only [maxLen] at hm; omega
      refine ⟨by rw [sl_len, Nat.mul_one], by rw [hL]; exact hmx, fun hn => ?_⟩
      rw [hL] at hn
      obtain ⟨ab, ao, asp⟩ := a
      have hsp : asp = none := by
        have h0 := (hf' 0 hn).2
        cases asp with
        | none => rfl
        | some q => simp [Addr.add, World.cell?] at h0; split at h0 <;> simp at h0
      subst hsp
      have hlt : ab < w.heap.size := World.block_lt_of_cell? w _ (hf' 0 hn).2
      refine ⟨ab, ao, rfl, hlt, fun j u hu => ?_⟩
      have hjl : j < len := by
        have := (List.getElem?_eq_some_iff.1 hu).1
        rw [sl_len, hL] at this
        exact this
      have h1 := (hf' j hjl).2
      rw [addOff] at h1
      simp [sl, List.getElem?_map, List.getElem?_range, hjl] at hu
      rw [h1]
      exact congrArg some hu
    · intro i v s h1 h2
      have hil : i < len := by
        have := (List.getElem?_eq_some_iff.1 h1).1
        rw [hL] at this
        exact this
      simp [List.getElem?_map, List.getElem?_range, hil] at h1 h2
      subst h1 h2
      exact (hf' i hil).1.1
    · intro x hx
      obtain ⟨s, hs, hxs⟩ := List.mem_flatten.1 hx
      simp only [List.mem_map, List.mem_range] at hs
      obtain ⟨i, hi, rfl⟩ := hs
      exact (hf' i hi).1.2.1 x hxs
    · intro hz
      have hd : x.1 = .slice ((List.range len).map D) ((List.range (m - len)).map fun j => D (len + j)) := by rw [hx]
      have e0 := hz ((((List.range len).map D).length + ((List.range (m - len)).map fun j => D (len + j)).length) * Try.prog.bytesOf 25) (by rw [hd]; simp [DataW.weights, Try.underlying22])
      refine ⟨?_, fun s hs => ?_⟩
      · rw [bytesV] at e0
        simp [reachBytes] at e0 ⊢
        omega
      · simp only [List.mem_map, List.mem_range] at hs
        obtain ⟨i, hi, rfl⟩ := hs
        refine Nat.le_trans ((hf' i hi).1.2.2 (fun n hn => hz n ?_)) (by decide)
        rw [hd]
        simp only [DataW.weights, Try.underlying22, List.mem_cons, List.mem_append]
        exact .inr (.inl (wt_all hn (by simp only [List.mem_map, List.mem_range]; exact ⟨i, hi, rfl⟩)))
/-- An argument that is a Grey. -/
theorem openG {r : Reach} {b0 : Nat} {v : Value} {d : DataW H} {p : List MemPlace} (hv : Value.okWide Try.prog w r b0 24 v) (h : DataW.Trod enc Try.prog w base spare held 24 v d p) :
    ∃ A c vs l, v = .agg #[.slice A (List.length l) c] ∧ RdQ w A vs l ∧ WdQ l ∧ (Wt 24 d → smallQ l) := by
  obtain ⟨cs, rfl, hsz⟩ := okWide_struct Try.underlying24 hv
  obtain ⟨fuel, hf0⟩ := h
  obtain ⟨xs, n, _, hxx, hl, hxl, hf⟩ := DataW.trod_struct Try.underlying24 hf0
  rw [cellsG] at hl
  have hcs : ∃ c0, cs = #[c0] := by
    simp only [Value.cells] at hl
    match cs, hl with
    | ⟨[c0]⟩, _ => exact ⟨c0, rfl⟩
  obtain ⟨c0, rfl⟩ := hcs
  have h0 : DataW.trod enc Try.prog w base spare held n 22 (List.take (Try.prog.cellsOf 22) [c0]) = xs[0]? := hf 0 _ rfl
  rw [cellsQ] at h0
  simp only [List.take_succ_cons, List.take_zero] at h0
  rw [List.getElem?_eq_getElem (by rw [hxl]; decide)] at h0
  obtain ⟨A, c, vs, l, e0, _, hr, hw, hz⟩ := openQs h0
  simp only [List.cons.injEq, and_true] at e0
  subst e0
  exact ⟨A, c, vs, l, rfl, hr, hw, fun hz' => hz (wt_agg (x := (d, p)) hz' hxx Try.underlying24 (j := 0) rfl (by rw [List.getElem?_map, List.getElem?_eq_getElem (by rw [hxl]; decide)]; rfl))⟩
/-- An argument that is a list of words. -/
theorem openU {r : Reach} {b0 : Nat} {v : Value} {d : DataW H} {p : List MemPlace} (hv : Value.okWide Try.prog w r b0 25 v) (h : DataW.Trod enc Try.prog w base spare held 25 v d p) :
    ∃ A c l, v = .slice A (List.length l) c ∧ RdU w A l ∧ (∀ x ∈ l, 0 ≤ x ∧ x < 18446744073709551616) := by
  obtain ⟨a0, len, cap, rfl⟩ := okWide_slice Try.underlying25 hv
  obtain ⟨fuel, hf⟩ := h
  obtain ⟨A, c, l, e, _, hw, hr, _⟩ := openWs hf
  simp [Value.cells] at e
  obtain ⟨rfl, rfl, rfl⟩ := e
  exact ⟨_, _, l, rfl, hr, hw⟩
end
end Go.Proofs.Ytinjeoohklabpaa
