/- Queues of a call's own; the walk of the reference's Copy. -/
import Derived.Test.YtinjeoohklabpaaY2
import Derived.Deep.RegionLaw
namespace Go.Proofs.Ytinjeoohklabpaa
open Go.RowKit
set_option linter.unusedVariables false
set_option linter.unusedSimpArgs false

theorem own_block {w : World} {base n : Nat} {e : TypeId} {size : Nat} {v : Value} {xs : List Value} (h : w.ownsRow base e size v n xs) {k : Nat} (hk : v.ownBlock = some k) : ∃ cur, w.heap[k]? = some (.cells cur e) ∧ k < w.heap.size := by
  rcases h.2 with ⟨rfl, _⟩ | ⟨g, cap, cur, rfl, hb, hh, _⟩
  · cases hk
  · have : g = k := by simpa [Value.ownBlock] using hk
    subst this
    exact ⟨cur, hh, (Array.getElem?_eq_some_iff.1 hh).1⟩
theorem own_tag {w : World} {base base' n n' : Nat} {e e' : TypeId} {size size' : Nat} {v u : Value} {xs ys : List Value} (h : w.ownsRow base e size v n xs) (h' : w.ownsRow base' e' size' u n' ys) (hne : e ≠ e') {k : Nat} (hk : v.ownBlock = some k) : u.ownBlock ≠ some k := by
  intro hu
  obtain ⟨c1, h1, _⟩ := own_block h hk
  obtain ⟨c2, h2, _⟩ := own_block h' hu
  rw [h1] at h2
  simp only [Option.some.injEq, Obj.cells.injEq] at h2
  exact hne h2.2.1
/-- Two rows, told apart. -/
def Apart (x y : QV) : Prop := ∀ k, x.v.ownBlock = some k → y.v.ownBlock ≠ some k
theorem Apart.symm {x y : QV} (h : Apart x y) : Apart y x := fun k hy hx => h k hx hy
structure OwE (w : World) (base : Nat) (q : QV) (l : List Int) : Prop where
  n : q.n = l.length
  row : OwU w base q.v l
theorem OwE.below {w w1 : World} {base : Nat} {q : QV} {l : List Int} (h : OwE w base q l) (hb : Below w.heap.size w w1) : OwE w1 base q l := ⟨h.n, h.row.below hb⟩
theorem OwE.mono {w : World} {base base' : Nat} {q : QV} {l : List Int} (h : OwE w base q l) (hb : base' ≤ base) : OwE w base' q l := ⟨h.n, h.row.mono hb⟩
theorem OwE.grown {w w1 : World} {base : Nat} {q : QV} {l : List Int} {r : Option Nat} (h : OwE w base q l) (hg : w.grownBy w1 r) (hr : ∀ k, q.v.ownBlock = some k → r ≠ some k) : OwE w1 base q l := ⟨h.n, h.row.grown hg hr⟩
theorem OwE.rd {w : World} {base : Nat} {q : QV} {l : List Int} (h : OwE w base q l) : RdE w q l := by
  obtain ⟨hn, hr⟩ := h
  obtain ⟨A, n, c⟩ := q
  simp only at hn
  subst hn
  exact ⟨rfl, own_rd hr⟩
structure OwQs (w : World) (base : Nat) (v : Value) (vs : List QV) (l : List (List Int)) : Prop where
  row : OwV w base v vs
  len : vs.length = l.length
  each : ∀ (i : Nat) x s, vs[i]? = some x → l[i]? = some s → OwE w base x s
  apart : ∀ (i j : Nat) x y, i < j → vs[i]? = some x → vs[j]? = some y → Apart x y
theorem OwQs.below {w w1 : World} {base : Nat} {v : Value} {vs : List QV} {l : List (List Int)} (h : OwQs w base v vs l) (hb : Below w.heap.size w w1) : OwQs w1 base v vs l :=
  ⟨h.row.below hb, h.len, fun i x s h1 h2 => (h.each i x s h1 h2).below hb, h.apart⟩
theorem OwQs.mono {w : World} {base base' : Nat} {v : Value} {vs : List QV} {l : List (List Int)} (h : OwQs w base v vs l) (hb : base' ≤ base) : OwQs w base' v vs l :=
  ⟨h.row.mono hb, h.len, fun i x s h1 h2 => (h.each i x s h1 h2).mono hb, h.apart⟩
theorem OwQs.shape {w : World} {base : Nat} {v : Value} {vs : List QV} {l : List (List Int)} (h : OwQs w base v vs l) : ∃ A c, v = .slice A l.length c ∧ l.length ≤ c ∧ RdQ w A vs l := by
  obtain ⟨A, c, rfl, h1, h2⟩ := h.row.shape
  rw [h.len] at h1 ⊢
  exact ⟨A, c, rfl, h1, h2, h.len, fun i x s hx hs => (h.each i x s hx hs).rd⟩
theorem OwV.set_lo {w : World} {base : Nat} {v : Value} {l : List QV} (h : OwV w base v l) {p : Addr} (hp : p.block < base) (u : Value) : OwV (w.setCell p u) base v l := ownsRow_setCell_below h hp u
theorem OwU.set_lo {w : World} {base : Nat} {v : Value} {l : List Int} (h : OwU w base v l) {p : Addr} (hp : p.block < base) (u : Value) : OwU (w.setCell p u) base v l := ownsRow_setCell_below h hp u
theorem OwQs.set_lo {w : World} {base : Nat} {v : Value} {vs : List QV} {l : List (List Int)} (h : OwQs w base v vs l) {p : Addr} (hp : p.block < base) (u : Value) : OwQs (w.setCell p u) base v vs l :=
  ⟨h.row.set_lo hp u, h.len, fun i x s h1 h2 => ⟨(h.each i x s h1 h2).n, (h.each i x s h1 h2).row.set_lo hp u⟩, h.apart⟩
theorem OwQs.nil_ (w : World) (base : Nat) : OwQs w base (.slice none 0 0) [] [] := ⟨OwV.nil_ _ _, rfl, fun i x s h => by simp at h, fun i j x y _ h => by simp at h⟩
theorem OwQs.snoc {w w1 : World} {base : Nat} {v v' : Value} {vs : List QV} {l : List (List Int)} {x : QV} {s : List Int} (h : OwQs w base v vs l) (hx : OwE w base x s) (hap : ∀ (i : Nat) y, vs[i]? = some y → Apart y x)
    (ho : OwV w1 base v' (vs ++ [x])) (hg : w.grownBy w1 v.ownBlock) : OwQs w1 base v' (vs ++ [x]) (l ++ [s]) := by
  have hk : ∀ {q : QV} {t : List Int}, OwE w base q t → OwE w1 base q t := fun {q t} hq => hq.grown hg (fun k hk e => own_tag h.row hq.row (by decide) e hk)
  refine ⟨ho, by simp [h.len], fun i y t hy ht => ?_, fun i j y z hij hy hz => ?_⟩
  · rcases Nat.lt_or_ge i vs.length with hi | hi
    · rw [List.getElem?_append_left hi] at hy
      rw [List.getElem?_append_left (by rw [← h.len]; exact hi)] at ht
      exact hk (h.each i y t hy ht)
    · rw [List.getElem?_append_right hi] at hy
      rw [List.getElem?_append_right (by rw [← h.len]; exact hi)] at ht
      obtain ⟨e1, e2⟩ : i - vs.length = 0 ∧ y = x := by
        rcases hj : i - vs.length with _ | j
        · rw [hj] at hy; simp at hy; exact ⟨rfl, hy.symm⟩
        · rw [hj] at hy; simp at hy
      rw [← h.len, e1] at ht
      simp at ht
      subst e2
      subst ht
      exact hk hx
  · rcases Nat.lt_or_ge j vs.length with hj | hj
    · rw [List.getElem?_append_left hj] at hz
      rw [List.getElem?_append_left (by omega)] at hy
      exact h.apart i j y z hij hy hz
    · rw [List.getElem?_append_right hj] at hz
      obtain ⟨e1, e2⟩ : j - vs.length = 0 ∧ z = x := by
        rcases hj : j - vs.length with _ | j
        · rw [hj] at hz; simp at hz; exact ⟨rfl, hz.symm⟩
        · rw [hj] at hz; simp at hz
      subst e2
      rw [List.getElem?_append_left (by omega)] at hy
      exact hap i y hy
def OwQ (w : World) (base : Nat) (v : Value) (l : List (List Int)) : Prop := ∃ vs, OwQs w base v vs l
def RetG (l : List (List Int)) (w : World) (e : Ending) (w' : World) : Prop := ∃ v, e = .returned (.agg #[v]) ∧ OwQ w' w.heap.size v l ∧ Below w.heap.size w w'
def smallQ (l : List (List Int)) : Prop := l.length * 24 ≤ 140737488355328 ∧ ∀ s ∈ l, s.length * 8 ≤ 140737488355328

theorem step_appU {ops : Array Oper} {o : Oper} {a : Act} {w : World} {K : Act → World → Prop} {Q : Exit → Act → World → Prop} {E : Prop}
    (hg : o.guard = none) (s x : Operand) (hop : o.op = Op.call { callee := Callee.builtin Builtin.append, args := #[s, x], argTypes := #[25, 25] })
    (base : Nat) (v : Value) (l0 l1 : List Int) (m c : Nat) (hm : l1.length = m) (A : Option Addr) (hs : a.eval s = v) (hx : a.eval x = .slice A m c)
    (hown : OwU w base v l0) (hr : RdU w A l1) (hbytes : (l0.length + l1.length) * 8 ≤ 140737488355328) (hbase : base ≤ w.heap.size)
    (h : ∀ v' w', OwU w' base v' (l0 ++ l1) → w.grownBy w' v.ownBlock → K (a.put o.dst v') w') :
    if Region.wanted o (yielded ops a.tmps) = true then Oper.wp Try.prog o a w K Q else E := by
  have hw : Region.wanted o (yielded ops a.tmps) = true := by simp [Region.wanted, hg]
  rw [if_pos hw]
  subst hm
  obtain ⟨v', w', hr', h2, h3⟩ := run_append_rd (P := Try.prog) w base 25 o.type 30 _ 1 8 Try.underlying25 infoU rfl (by omega) v l0.length (us l0) hown A l1.length c (us l1) hr (us_one l1) hbytes (by omega) hbase
  unfold Oper.wp execOp
  simp only [hop, resolve, invoke, builtin, Sem.run_bind, Sem.run_pure, Result.andThen_ok, List.map_toArray, List.map_cons, List.map_nil, hs, hx, hr']
  exact h _ _ (by unfold OwU; rw [List.length_append, show us (l0 ++ l1) = us l0 ++ us l1 from by simp [us]]; exact h2) h3
theorem step_appV {ops : Array Oper} {o : Oper} {a : Act} {w : World} {K : Act → World → Prop} {Q : Exit → Act → World → Prop} {E : Prop}
    (hg : o.guard = none) (s x : Operand) (hop : o.op = Op.call { callee := Callee.builtin Builtin.append, args := #[s, x], argTypes := #[22, 22] })
    (base : Nat) (v : Value) (l0 l1 : List QV) (m c : Nat) (hm : l1.length = m) (A : Option Addr) (hs : a.eval s = v) (hx : a.eval x = .slice A m c)
    (hown : OwV w base v l0) (hr : RdV w A l1) (hbytes : (l0.length + l1.length) * 24 ≤ 140737488355328) (hbase : base ≤ w.heap.size)
    (h : ∀ v' w', OwV w' base v' (l0 ++ l1) → w.grownBy w' v.ownBlock → K (a.put o.dst v') w') :
    if Region.wanted o (yielded ops a.tmps) = true then Oper.wp Try.prog o a w K Q else E := by
  have hw : Region.wanted o (yielded ops a.tmps) = true := by simp [Region.wanted, hg]
  rw [if_pos hw]
  subst hm
  obtain ⟨v', w', hr', h2, h3⟩ := run_append_rd (P := Try.prog) w base 22 o.type 25 _ 1 24 Try.underlying22 infoV rfl (by omega) v l0.length (sl l0) hown A l1.length c (sl l1) hr (sl_one l1) hbytes (by omega) hbase
  unfold Oper.wp execOp
  simp only [hop, resolve, invoke, builtin, Sem.run_bind, Sem.run_pure, Result.andThen_ok, List.map_toArray, List.map_cons, List.map_nil, hs, hx, hr']
  exact h _ _ (by unfold OwV; rw [List.length_append, show sl (l0 ++ l1) = sl l0 ++ sl l1 from by simp [sl]]; exact h2) h3

/-- The copy as far as it has come: three variables, then rows of its own. -/
structure AccQ (w W : World) (v : Value) (vs : List QV) (l : List (List Int)) : Prop where
  own : OwQs W (w.heap.size + 3) v vs l
  below : Below w.heap.size w W
  sz : w.heap.size + 3 ≤ W.heap.size
  cell : W.cell? ⟨w.heap.size + 2, 0, none⟩ = some v
  free : W.frozen? ⟨w.heap.size + 2, 0, none⟩ = false
  res : W.cell? ⟨w.heap.size + 1, 0, none⟩ = some (.slice none 0 0)
  rfr : W.frozen? ⟨w.heap.size + 1, 0, none⟩ = false
theorem RdV.made (w : World) (x : QV) : RdV (w.alloc (.cells #[x.v] 25)) (some ⟨w.heap.size, 0, none⟩) [x] := by
  have h := World.ownsRow_lit (base := w.heap.size) (e := 25) (size := 1) w #[x.v] 1 (Nat.le_refl _) (by simp [maxLen]) rfl
  exact own_rd h
/-- One more. -/
theorem AccQ.put {w W w2 : World} {v : Value} {vs : List QV} {l : List (List Int)} {x : QV} {s : List Int} (h : AccQ w W v vs l) (hb : Below W.heap.size W w2) (hx : OwE w2 W.heap.size x s) :
    OwV (w2.alloc (.cells #[x.v] 25)) (w.heap.size + 3) v vs ∧ RdV (w2.alloc (.cells #[x.v] 25)) (some ⟨w2.heap.size, 0, none⟩) [x] ∧ w.heap.size + 3 ≤ (w2.alloc (.cells #[x.v] 25)).heap.size ∧
      ∀ v' w4, OwV w4 (w.heap.size + 3) v' (vs ++ [x]) → (w2.alloc (.cells #[x.v] 25)).grownBy w4 v.ownBlock →
        AccQ w (w4.setCell ⟨w.heap.size + 2, 0, none⟩ v') v' (vs ++ [x]) (l ++ [s]) ∧ w4.cell? ⟨w.heap.size + 2, 0, none⟩ = some v ∧ w4.frozen? ⟨w.heap.size + 2, 0, none⟩ = false := by
  have ha := balloc (Below.refl w2.heap.size w2) (.cells #[x.v] 25)
  have hO3 := (h.own.below hb).below ha
  have hX3 : OwE (w2.alloc (.cells #[x.v] 25)) (w.heap.size + 3) x s := (hx.mono h.sz).below ha
  have hz3 := Nat.le_trans h.sz (Nat.le_trans hb.size ha.size)
  have hap : ∀ (i : Nat) y, vs[i]? = some y → Apart y x := fun i y hy k hk hxk => by
    have hi : i < l.length := by rw [← h.own.len]; exact (List.getElem?_eq_some_iff.1 hy).1
    obtain ⟨_, _, h1⟩ := own_block (h.own.each i y l[i] hy (List.getElem?_eq_getElem hi)).row hk
    have h2 := (hx.row.lt k hxk).1
    omega
  refine ⟨hO3.row, RdV.made w2 x, hz3, fun v' w4 ho hg => ?_⟩
  have hne : ∀ j, j < w.heap.size + 3 → some j ≠ v.ownBlock := fun j hj e => by
    have := (h.own.row.lt j e.symm).1
    omega
  have hbA := bthen hb ha
  have hc : ∀ j u, j < w.heap.size + 3 → W.cell? ⟨j, 0, none⟩ = some u → w4.cell? ⟨j, 0, none⟩ = some u := fun j u hj hu => hg.cell (cell_later hbA hu) (hne j hj)
  have hf : ∀ j, j < w.heap.size + 3 → W.frozen? ⟨j, 0, none⟩ = false → w4.frozen? ⟨j, 0, none⟩ = false := fun j hj hu => by
    have h1 : (w2.alloc (.cells #[x.v] 25)).frozen? ⟨j, 0, none⟩ = false := (hbA.frozen (p := ⟨j, 0, none⟩) (show j < _ from Nat.lt_of_lt_of_le hj h.sz)).trans hu
    rw [← h1]
    simp only [World.frozen?, hg.block j (by omega) (hne j hj)]
  have hcv := hc _ _ (by omega) h.cell
  have hfv := hf _ (by omega) h.free
  refine ⟨⟨(hO3.snoc hX3 hap ho hg).set_lo (by simp) _, (bgrown (bthen h.below hbA) hg (fun k hk => by have := (h.own.row.lt k hk).1; omega)).setCell (by simp) _, Nat.le_trans hz3 (by rw [World.size_setCell]; exact hg.size),
    World.cell?_setCell_same _ _ _ hcv, by rw [World.frozen?_setCell]; exact hfv, ?_, by rw [World.frozen?_setCell]; exact hf _ (by omega) h.rfr⟩, hcv, hfv⟩
  rw [World.cell?_setCell_other]
  · exact hc _ _ (by omega) h.res
  · simp

set_option maxRecDepth 100000 in
set_option maxHeartbeats 8000000 in
theorem copyQ (A : Option Addr) (c : Nat) (vs : List QV) (l : List (List Int)) (w : World) (h : RdQ w A vs l) (hz : smallQ l) :
    Calls Try.prog 9 #[.agg #[.slice A l.length c]] w (RetG l w) := by
  have hl := h.len
  have H := Lib.hid h
  have HZ := Lib.hid hz
  have HA0 : Hid (AccQ w (((w.alloc (.cells #[.slice A l.length c] 24)).alloc (.cells #[.slice none 0 0] 24)).alloc (.cells #[.slice none 0 0] 24)) (.slice none 0 0) [] []) :=
    ⟨OwQs.nil_ _ _, balloc (balloc (balloc (Below.refl _ _) _) _) _, by simp, by go_simp, by go_simp, by go_simp, by go_simp⟩
  clear h hz
  go_enter Try.func9, Try.ntmps9
  go_wp2
  go_loopw [9] (fun i wr => ∃ (k : Nat) (v : Value) (us : List QV), i = .int .i64 k ∧ k ≤ l.length ∧ Hid (AccQ w wr v us (l.take k))) (fun i _ => l.length - (intOf i).toNat)
  case atStart => exact ⟨0, _, [], rfl, Nat.zero_le _, HA0.out⟩
  case round =>
    clear HA0
    obtain ⟨k, v, us, rfl, hk, HA⟩ := hrel
    by_cases hlt : k < l.length
    · have hs : l[k]? = some l[k] := List.getElem?_eq_getElem hlt
      have hts : l.take (k + 1) = l.take k ++ [l[k]] := List.take_succ_eq_append_getElem hlt
      have hsm := HZ.out.2 l[k] (List.getElem_mem hlt)
      generalize l[k] = s at hs hts hsm
      obtain ⟨q, bv, ov, hvi, hA, hbv, c0, hR⟩ := H.out.at_ hs
      subst hA
      have hsl := hR.len
      obtain ⟨q1, q2, q3⟩ := q
      simp only at c0 hR
      have c0 := cell_later HA.out.below c0
      have HT := Lib.hid hts
      have F3 := HA.out.cell
      have hsz := HA.out.sz
      have hz2 : w.heap.size + 2 < wr.heap.size := by omega
      have hba : Below wr.heap.size wr (wr.alloc (.cells #[] 30)).drew := (balloc (Below.refl _ wr) _).drew
      have HBA := Lib.hid hba
      have HOa : Hid (OwU (wr.alloc (.cells #[] 30)).drew wr.heap.size (.slice (some ⟨wr.heap.size, 0, none⟩) 0 0) []) := (made_empty wr).below (Below.refl _ _).drew
      have HRa := Lib.hid (hR.below (bthen HA.out.below hba))
      have HY : Hid ((([] : List Int).length + s.length) * 8 ≤ 140737488355328) := by show _ ≤ _; simpa using hsm
      have HS : Hid (wr.heap.size ≤ (wr.alloc (.cells #[] 30)).drew.heap.size) := hba.size
      have HYV : Hid ((us.length + ([⟨none, 0, 0⟩] : List QV).length) * 24 ≤ 140737488355328) := by
        show _ ≤ _
        have h1 := HZ.out.1
        have h2 := HA.out.own.len
        rw [List.length_take] at h2
        simp only [List.length_singleton]
        omega
      clear hR hvi hs hts hsm hba
      go_wp2
      go_region_law (first
        | (refine step_appU rfl (.tmp 15) (.tmp 16) rfl wr.heap.size (.slice (some ⟨wr.heap.size, 0, none⟩) 0 0) [] s s.length _ rfl _ rfl rfl HOa.out HRa.out HY.out HS.out ?_; intro v1 w2 ho hg; have hbw : Below wr.heap.size wr w2 := bgrown HBA.out hg (fun k hk => by cases hk; exact Nat.le_refl _); have f3 := cell_later hbw F3; obtain ⟨A1, c1, hv1, hc1, hr1⟩ := OwU.shape (l := s) ho; subst hv1; obtain ⟨hO3, hX3, hS3, hP⟩ := HA.out.put (x := ⟨A1, s.length, c1⟩) hbw ⟨rfl, ho⟩; have z3 : w.heap.size + 2 < w2.heap.size := Nat.lt_of_lt_of_le hz2 hbw.size; simp only [QV.v] at hO3 hX3 hS3 hP; have HO3 := Lib.hid hO3; have HX3 := Lib.hid hX3; have HS3 := Lib.hid hS3; have HP := Lib.hid hP; clear ho hg hbw F3 hc1 hr1 hO3 hX3 hS3 hP)
        | (refine step_appV rfl (.tmp 14) (.tmp 18) rfl (w.heap.size + 3) v us [⟨A1, s.length, c1⟩] 1 1 rfl (some ⟨w2.heap.size, 0, none⟩) rfl rfl HO3.out HX3.out HYV.out HS3.out ?_; intro v' w4 ho hg; obtain ⟨hA4, hc4, hf4⟩ := HP.out v' w4 ho hg; obtain ⟨A2, c2, hv2, hc2, hr2⟩ := OwV.shape (l := us ++ [⟨A1, s.length, c1⟩]) ho; subst hv2; simp only [List.length_append, List.length_singleton] at hA4; have HA4 := Lib.hid hA4; clear ho hg hA4 hc2 hr2))
      all_goals
        go_wp2
        go_roundw
        case rel =>
          refine ⟨k + 1, .slice A2 (us.length + 1) c2, us ++ [⟨A1, s.length, c1⟩], by go_num, by omega, ?_⟩
          rw [HT.out]
          exact HA4.out
        case measure => simp [intOf]; omega
    · obtain rfl : k = l.length := by omega
      have h0 := HA.out
      rw [List.take_length] at h0
      have HA1 := Lib.hid h0
      have F3 := h0.cell
      have F2 := h0.res
      have Z2 := h0.rfr
      obtain ⟨A1, c1, hv1, _, _⟩ := h0.own.shape
      subst hv1
      clear h0 HA
      go_wp2
      have e2 : (wr.setCell ⟨w.heap.size + 1, 0, none⟩ (.slice A1 l.length c1)).cell? ⟨w.heap.size + 1, 0, none⟩ = some (.slice A1 l.length c1) := World.cell?_setCell_same _ _ _ F2
      refine bodyPost_ret (by simp [results, Try.results9, go_sem, e2]; rfl) rfl ?_
      exact ⟨_, rfl, ⟨us, (HA1.out.own.set_lo (by simp) _).mono (by omega)⟩, HA1.out.below.setCell (by simp) _⟩
end Go.Proofs.Ytinjeoohklabpaa
