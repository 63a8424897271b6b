/- How an argument that is a span, or a list of spans, reads; and how much of it there may be. -/
import Derived.Test.YtchbbldanmmpjaaDoorUR
namespace Go.Proofs.YtchbbldanmmpjaaDoor
open Go.ChangeShapes Go.WideShapes Go.Deep Go.RowKit
set_option linter.unusedVariables false
set_option linter.unusedSimpArgs false
section
variable {H : Type} {enc : TypeId × Value → H} {w : World} {base : Nat} {spare : Nat → Bool} {held : Bool}
theorem bytes33 : Tryd.prog.bytesOf 33 = 8 := by kernel_rfl
theorem bytes26 : Tryd.prog.bytesOf 26 = 96 := by kernel_rfl
/-- What of a datum takes room takes no more than the form lets in. -/
def Wt (t : TypeId) (d : DataW H) : Prop := ∀ n ∈ d.weights Tryd.prog t, n ≤ reachBytes
theorem wt_arg {ts : List TypeId} {ds : List (DataW H)} {j : Nat} {t : TypeId} {d : DataW H} (h : (DataW.weightsEach Tryd.prog ts ds).all (· ≤ reachBytes) = true) (ht : ts[j]? = some t) (hd : ds[j]? = some d) : Wt t d := fun n hn => by
  have := List.all_eq_true.1 h n (DataW.weights_mem_each ht hd n hn)
  simpa using this
theorem wt_agg {t e : TypeId} {x : DataW H × List MemPlace} {xs : List (DataW H × List MemPlace)} {fs : Array Field} {d : DataW H} {ps : List MemPlace} {j : Nat} (h : Wt t x.1) (hx : x = (.agg (xs.map (·.1)), ps)) (hu : Tryd.prog.underlying t = some (.struct fs))
    (ht : (fs.toList.map (·.type))[j]? = some e) (hd : (xs.map (·.1))[j]? = some d) : Wt e d := fun n hn => h n (by
  rw [hx]
  simp only [DataW.weights, hu]
  exact DataW.weights_mem_each ht hd n hn)
theorem wt_all {e : TypeId} {d : DataW H} {n : Nat} (hn : n ∈ d.weights Tryd.prog e) : ∀ {l : List (DataW H)}, d ∈ l → n ∈ DataW.weightsAll Tryd.prog e l := by
  intro l
  induction l with
  | nil => intro h; cases h
  | cons x r ih =>
    intro h
    rw [DataW.weightsAll, List.mem_append]
    rcases List.mem_cons.1 h with rfl | h
    · exact .inl hn
    · exact .inr (ih h)
theorem openWs {fuel : Nat} {cs : List Value} {x : DataW H × List MemPlace} (h : DataW.trod enc Tryd.prog w base spare held fuel 22 cs = some x) :
    ∃ A c l, cs = [.slice A (List.length l) c] ∧ l.length ≤ c ∧ (∀ x ∈ l, 0 ≤ x ∧ x < 18446744073709551616) ∧ RdU w A l ∧ (Wt 22 x.1 → l.length * 8 ≤ reachBytes) := by
  rcases open_slice Tryd.underlying22 h with ⟨hcs, hx⟩ | ⟨a, len, cap, m, n, D, Pl, hcs, hb, hl, hm, hmm, hx, hi⟩
  · exact ⟨none, 0, [], hcs, Nat.le_refl _, by simp, RdU.nil_ _ _, fun _ => by simp⟩
  · have hlm : len ≤ m := by rw [hmm]; split <;> omega
    have hel : ∀ i, i < len → ∃ z : Int, (0 ≤ z ∧ z < 18446744073709551616) ∧ w.cell? (a.add i) = some (.int .u64 z) := by
      intro i hil
      obtain ⟨cs', hc, ht⟩ := hi i (by omega)
      rw [cells33] at hc
      obtain ⟨_, _, hat⟩ := World.cells?_some hc
      obtain ⟨z, rfl, _, hw⟩ := DataW.trod_int Tryd.underlying33 ht
      have h0 := hat 0 (by omega)
      rw [Go.Deep.add_add] at h0
      simp only [Nat.mul_one, Nat.add_zero] at h0
      exact ⟨z, wf_u64 hw, h0⟩
    obtain ⟨f, hf⟩ : ∃ f : Nat → Int, ∀ i, i < len → (0 ≤ f i ∧ f i < 18446744073709551616) ∧ w.cell? (a.add i) = some (.int .u64 (f i)) := by
      refine ⟨fun i => if hil : i < len then (hel i hil).choose else 0, fun i hil => ?_⟩
      simp only [dif_pos hil]
      exact (hel i hil).choose_spec
    have hL : ((List.range len).map f).length = len := by simp
    refine ⟨some a, cap, (List.range len).map f, by rw [hL]; exact hcs, by rw [hL]; exact hl, ?_, ?_⟩
    · intro x hx
      simp only [List.mem_map, List.mem_range] at hx
      obtain ⟨i, hil, rfl⟩ := hx
      exact (hf i hil).1
    have hmx : len ≤ 9223372036854775807 := by simp only [maxLen] at hm; omega
    refine ⟨?_, fun hz => by
      have := hz ((((List.range len).map D).length + ((List.range (m - len)).map fun j => D (len + j)).length) * Tryd.prog.bytesOf 33) (by rw [hx]; simp [DataW.weights, Tryd.underlying22])
      rw [bytes33] at this
      simp at this ⊢
      omega⟩
    refine ⟨by rw [us_len, Nat.mul_one], by rw [hL]; exact hmx, fun hn => ?_⟩
    rw [hL] at hn
    obtain ⟨ab, ao, asp⟩ := a
    have hsp : asp = none := by
      have h0 := (hf 0 hn).2
      cases asp with
      | none => rfl
      | some q => simp [Addr.add, World.cell?] at h0; split at h0 <;> simp at h0
    subst hsp
    have hlt : ab < w.heap.size := World.block_lt_of_cell? w _ (hf 0 hn).2
    refine ⟨ab, ao, rfl, hlt, fun j u hu => ?_⟩
    have hjl : j < len := by
      have := (List.getElem?_eq_some_iff.1 hu).1
      rw [us_len, hL] at this
      exact this
    have h1 := (hf j hjl).2
    rw [addOff] at h1
    simp [us, List.getElem?_map, List.getElem?_range, hjl] at hu
    rw [h1]
    exact congrArg some hu
/-- The cells of bits, and how many there may be. -/
theorem el24s {fuel : Nat} {cs : List Value} {x : DataW H × List MemPlace} (h : DataW.trod enc Tryd.prog w base spare held fuel 24 cs = some x) :
    ∃ v b, cs = [.int .i64 (BitV.n v), .slice v.A v.m v.c] ∧ RdB w v b ∧ (Wt 24 x.1 → b.w.length * 8 ≤ reachBytes) := by
  obtain ⟨xs, n, _, hxx, hl, hxl, hf⟩ := DataW.trod_struct Tryd.underlying24 h
  rw [cells24] at hl
  match cs, hl with
  | [c0, c1], _ =>
    have h0 : DataW.trod enc Tryd.prog w base spare held n 3 (List.take (Tryd.prog.cellsOf 3) [c0, c1]) = xs[0]? := hf 0 _ rfl
    have h1 : DataW.trod enc Tryd.prog w base spare held n 22 (List.take (Tryd.prog.cellsOf 22) [c1]) = xs[1]? := hf 1 _ rfl
    rw [cells3] at h0
    rw [cells22] at h1
    simp only [List.take_succ_cons, List.take_zero] at h0 h1
    rw [List.getElem?_eq_getElem (by rw [hxl]; decide)] at h0 h1
    obtain ⟨a, e0, _, w0⟩ := DataW.trod_int Tryd.underlying3 h0
    obtain ⟨A, c, l, e1, hc, hw, hr, hsm⟩ := openWs h1
    simp only [List.cons.injEq, and_true] at e0 e1
    subst e0 e1
    have := wf_i64 w0
    exact ⟨⟨a, A, l.length, c⟩, ⟨a, l⟩, rfl, ⟨rfl, rfl, hc, this.1, this.2, hw, hr⟩, fun hz => hsm (wt_agg hz hxx Tryd.underlying24 (j := 1) rfl (by rw [List.getElem?_map, List.getElem?_eq_getElem (by rw [hxl]; decide)]; rfl))⟩
/-- The cells of a span. -/
theorem el26s {fuel : Nat} {cs : List Value} {x : DataW H × List MemPlace} (h : DataW.trod enc Tryd.prog w base spare held fuel 26 cs = some x) :
    ∃ (v : SpanV) (s : SpanB), cs = v.cs ∧ RdN w v s ∧ (Wt 26 x.1 → smallS s) := by
  obtain ⟨xs, n, _, hxx, hl, hxl, hf⟩ := DataW.trod_struct Tryd.underlying26 h
  rw [cells26] at hl
  match cs, hl with
  | [c0, c1, c2, c3, c4, c5, c6, c7], _ =>
    have h0 : DataW.trod enc Tryd.prog w base spare held n 3 (List.take (Tryd.prog.cellsOf 3) [c0, c1, c2, c3, c4, c5, c6, c7]) = xs[0]? := hf 0 _ rfl
    have h1 : DataW.trod enc Tryd.prog w base spare held n 3 (List.take (Tryd.prog.cellsOf 3) [c1, c2, c3, c4, c5, c6, c7]) = xs[1]? := hf 1 _ rfl
    have h2 : DataW.trod enc Tryd.prog w base spare held n 3 (List.take (Tryd.prog.cellsOf 3) [c2, c3, c4, c5, c6, c7]) = xs[2]? := hf 2 _ rfl
    have h3 : DataW.trod enc Tryd.prog w base spare held n 24 (List.take (Tryd.prog.cellsOf 24) [c3, c4, c5, c6, c7]) = xs[3]? := hf 3 _ rfl
    have h4 : DataW.trod enc Tryd.prog w base spare held n 24 (List.take (Tryd.prog.cellsOf 24) [c5, c6, c7]) = xs[4]? := hf 4 _ rfl
    have h5 : DataW.trod enc Tryd.prog w base spare held n 4 (List.take (Tryd.prog.cellsOf 4) [c7]) = xs[5]? := hf 5 _ rfl
    rw [cells3] at h0 h1 h2
    rw [cells24] at h3 h4
    rw [cells4] at h5
    simp only [List.take_succ_cons, List.take_zero] at h0 h1 h2 h3 h4 h5
    rw [List.getElem?_eq_getElem (by rw [hxl]; decide)] at h0 h1 h2 h3 h4 h5
    obtain ⟨a, e0, _, w0⟩ := DataW.trod_int Tryd.underlying3 h0
    obtain ⟨b, e1, _, w1⟩ := DataW.trod_int Tryd.underlying3 h1
    obtain ⟨c, e2, _, w2⟩ := DataW.trod_int Tryd.underlying3 h2
    obtain ⟨v3, b3, e3, r3, z3⟩ := el24s h3
    obtain ⟨v4, b4, e4, r4, z4⟩ := el24s h4
    obtain ⟨t, e5, _⟩ := DataW.trod_bool Tryd.underlying4 h5
    simp only [List.cons.injEq, and_true] at e0 e1 e2 e3 e4 e5
    obtain ⟨e3, e3'⟩ := e3
    obtain ⟨e4, e4'⟩ := e4
    subst e0 e1 e2 e3 e3' e4 e4' e5
    exact ⟨⟨a, b, c, v3, v4, t⟩, ⟨a, b, c, b3, b4, t⟩, rfl, ⟨rfl, rfl, rfl, rfl, r3, r4, wf_i64 w0, wf_i64 w1, wf_i64 w2⟩, fun hz => ⟨Nat.le_trans (z3 (wt_agg hz hxx Tryd.underlying26 (j := 3) rfl (by rw [List.getElem?_map, List.getElem?_eq_getElem (by rw [hxl]; decide)]; rfl))) (by decide), Nat.le_trans (z4 (wt_agg hz hxx Tryd.underlying26 (j := 4) rfl (by rw [List.getElem?_map, List.getElem?_eq_getElem (by rw [hxl]; decide)]; rfl))) (by decide)⟩⟩
/-- An argument that is a list of spans. -/
theorem open27s {r : Reach} {b0 : Nat} {v : Value} {d : DataW H} {p : List MemPlace} (hv : Value.okWide Tryd.prog w r b0 27 v) (h : DataW.Trod enc Tryd.prog w base spare held 27 v d p) :
    ∃ A c vs l, v = .slice A (List.length l) c ∧ RdL w A vs l ∧ l.length ≤ c ∧ (Wt 27 d → smallL l) := by
  obtain ⟨a0, len, cap, rfl⟩ := okWide_slice Tryd.underlying27 hv
  obtain ⟨fuel, hf⟩ := h
  rcases open_slice Tryd.underlying27 hf with ⟨hcs, hx⟩ | ⟨a, len', cap', m, n, D, Pl, hcs, hb, hl, hm, hmm, hx, hi⟩
  · simp [Value.cells] at hcs
    obtain ⟨rfl, rfl, rfl⟩ := hcs
    exact ⟨none, 0, [], [], rfl, ⟨RdS.nil_ _ _, rfl, by simp⟩, Nat.le_refl _, fun _ => ⟨by simp, fun s hs => by cases hs⟩⟩
  · simp [Value.cells] at hcs
    obtain ⟨rfl, rfl, rfl⟩ := hcs
    have hlm : len ≤ m := by rw [hmm]; split <;> omega
    have hel : ∀ i, i < len → ∃ q : SpanV × SpanB, (RdN w q.1 q.2 ∧ (Wt 26 (D i) → smallS q.2)) ∧ ∀ j, j < 8 → w.cell? (a.add (i * 8 + j)) = q.1.cs[j]? := by
      intro i hil
      obtain ⟨cs', hc, ht⟩ := hi i (by omega)
      rw [cells26] at hc
      obtain ⟨_, _, hat⟩ := World.cells?_some hc
      obtain ⟨v, s, rfl, hr, hz⟩ := el26s ht
      exact ⟨(v, s), ⟨hr, hz⟩, fun j hj => by rw [← Go.Deep.add_add]; exact hat j hj⟩
    obtain ⟨f, hf'⟩ : ∃ f : Nat → SpanV × SpanB, ∀ i, i < len → (RdN w (f i).1 (f i).2 ∧ (Wt 26 (D i) → smallS (f i).2)) ∧ ∀ j, j < 8 → w.cell? (a.add (i * 8 + j)) = (f i).1.cs[j]? := by
      refine ⟨fun i => if hil : i < len then (hel i hil).choose else (⟨0, 0, 0, ⟨0, none, 0, 0⟩, ⟨0, none, 0, 0⟩, false⟩, ⟨0, 0, 0, ⟨0, []⟩, ⟨0, []⟩, false⟩), fun i hil => ?_⟩
      simp only [dif_pos hil]
      exact (hel i hil).choose_spec
    have hL : ((List.range len).map fun i => (f i).1).length = len := by simp
    have hM : ((List.range len).map fun i => (f i).2).length = len := by simp
    refine ⟨some a, cap, (List.range len).map fun i => (f i).1, (List.range len).map fun i => (f i).2, by rw [hM], ⟨?_, by rw [hL, hM], ?_⟩, by rw [hM]; exact hl, ?_⟩
    · have hmx : len ≤ 9223372036854775807 := by simp only [maxLen] at hm; omega
      refine ⟨by rw [fl_len], by rw [hL]; exact hmx, fun hn => ?_⟩
      rw [hL] at hn
      obtain ⟨ab, ao, asp⟩ := a
      have hsp : asp = none := by
        have h0 := (hf' 0 hn).2 0 (by omega)
        cases asp with
        | none => rfl
        | some q => simp [Addr.add, World.cell?, SpanV.cs] at h0; split at h0 <;> simp at h0
      subst hsp
      have hlt : ab < w.heap.size := by
        have h0 := (hf' 0 hn).2 0 (by omega)
        exact World.block_lt_of_cell? w _ (h0.trans rfl)
      refine ⟨ab, ao, rfl, hlt, fun j u hu => ?_⟩
      have hjl : j < (fl ((List.range len).map fun i => (f i).1)).length := (List.getElem?_eq_some_iff.1 hu).1
      rw [fl_len, hL] at hjl
      obtain ⟨i, k, hk, rfl⟩ : ∃ i k, k < 8 ∧ j = i * 8 + k := ⟨j / 8, j % 8, by omega, by omega⟩
      have hil : i < len := by omega
      have h1 := (hf' i hil).2 k hk
      rw [addOff] at h1
      rw [fl_get _ _ _ hk] at hu
      have h2 : ((List.range len).map fun i => (f i).1)[i]? = some (f i).1 := by simp [List.getElem?_map, List.getElem?_range, hil]
      rw [h2] at hu
      rw [h1]
      simpa using hu
    · intro i v s h1 h2
      have hil : i < len := by
        have := (List.getElem?_eq_some_iff.1 h1).1
        rw [hL] at this
        exact this
      simp [List.getElem?_map, List.getElem?_range, hil] at h1 h2
      subst h1 h2
      exact (hf' i hil).1.1
    · intro hz
      have hd : d = .slice ((List.range len).map D) ((List.range (m - len)).map fun j => D (len + j)) := (Prod.mk.inj hx).1
      have e0 := hz ((((List.range len).map D).length + ((List.range (m - len)).map fun j => D (len + j)).length) * Tryd.prog.bytesOf 26) (by rw [hd]; simp [DataW.weights, Tryd.underlying27])
      refine ⟨?_, fun s hs => ?_⟩
      · rw [bytes26] at e0
        simp [reachBytes] at e0 ⊢
        omega
      · simp only [List.mem_map, List.mem_range] at hs
        obtain ⟨i, hi, rfl⟩ := hs
        refine (hf' i hi).1.2 (fun n hn => hz n ?_)
        rw [hd]
        simp only [DataW.weights, Tryd.underlying27, List.mem_cons, List.mem_append]
        exact .inr (.inl (wt_all hn (by simp only [List.mem_map, List.mem_range]; exact ⟨i, hi, rfl⟩)))
/-- An argument that is a span. -/
theorem open26s {r : Reach} {b0 : Nat} {v : Value} {d : DataW H} {p : List MemPlace} (hv : Value.okWide Tryd.prog w r b0 26 v) (h : DataW.Trod enc Tryd.prog w base spare held 26 v d p) : ∃ (u : SpanV) (s : SpanB), v = u.v ∧ RdN w u s ∧ (Wt 26 d → smallS s) := by
  obtain ⟨cs, rfl, hsz⟩ := okWide_struct Tryd.underlying26 hv
  obtain ⟨fuel, hf⟩ := h
  obtain ⟨u, s, hs, hr, hz⟩ := el26s hf
  refine ⟨u, s, ?_, hr, hz⟩
  have e : cs.toList = u.cs := by simpa [Value.cells] using hs
  have e2 : cs = u.cs.toArray := by rw [← e]
  rw [e2]
  rfl

end
end Go.Proofs.YtchbbldanmmpjaaDoor
