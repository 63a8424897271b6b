/- The walk of grey's Own. -/
import Derived.Test.YtinjeoohklabpaaY3
import Derived.OneCell
namespace Go.Proofs.Ytinjeoohklabpaa
open Go.RowKit
set_option linter.unusedVariables false
set_option linter.unusedSimpArgs false

theorem own_form {w : World} {base n m c : Nat} {e : TypeId} {size : Nat} {A : Option Addr} {xs : List Value} (h : w.ownsRow base e size (.slice A m c) n xs) (h0 : 0 < n) : ∃ g, A = some ⟨g, 0, none⟩ := by
  rcases h.2 with ⟨_, h1⟩ | ⟨g, cap, cur, e1, _⟩
  · omega
  · simp only [Value.slice.injEq] at e1
    exact ⟨g, e1.1⟩
/-- A store into a cell of an own row. -/
theorem own_setCell {w : World} {base n g cap k : Nat} {e : TypeId} {xs : List Value} (h : w.ownsRow base e 1 (.slice (some ⟨g, 0, none⟩) n cap) n xs) (hk : k < n) (u : Value) :
    (w.setCell ⟨g, k, none⟩ u).ownsRow base e 1 (.slice (some ⟨g, 0, none⟩) n cap) n (xs.set k u) := by
  rcases h.2 with ⟨h', _⟩ | ⟨g', cap', cur, h', hb, hg, hnc, hcm, hcs, htake⟩
  · simp at h'
  · simp only [Value.slice.injEq, Option.some.injEq, Addr.mk.injEq, and_true, true_and] at h'
    obtain ⟨rfl, rfl⟩ := h'
    refine ⟨by rw [List.length_set]; exact h.1, .inr ⟨g, cap, cur.setIfInBounds k u, rfl, hb, heap_setCell_same w g k cur e u hg, hnc, hcm, by simpa using hcs, ?_⟩⟩
    rw [← htake, Array.toList_setIfInBounds, List.take_set]
theorem own_cell {w : World} {base n g cap k : Nat} {e : TypeId} {xs : List Value} {u : Value} (h : w.ownsRow base e 1 (.slice (some ⟨g, 0, none⟩) n cap) n xs) (hk : xs[k]? = some u) :
    w.cell? ⟨g, k, none⟩ = some u ∧ w.frozen? ⟨g, k, none⟩ = false := by
  refine ⟨?_, ?_⟩
  · have := h.cells (g := g) rfl k u hk
    rwa [addOff, Nat.zero_add] at this
  · obtain ⟨cur, hh, _⟩ := own_block h (k := g) rfl
    simp [World.frozen?, hh]
theorem sl_set (l : List QV) (k : Nat) (x : QV) : sl (l.set k x) = (sl l).set k x.v := by simp [sl, List.map_set]
theorem OwV.set_in {w : World} {base n g cap k : Nat} {l : List QV} (h : OwV w base (.slice (some ⟨g, 0, none⟩) n cap) l) (hn : l.length = n) (hk : k < n) (x : QV) : OwV (w.setCell ⟨g, k, none⟩ x.v) base (.slice (some ⟨g, 0, none⟩) n cap) (l.set k x) := by
  subst hn
  unfold OwV at h ⊢
  rw [List.length_set, sl_set]
  exact own_setCell h hk _
theorem OwE.set_out {w : World} {base base' g n cap k : Nat} {q : QV} {s : List Int} {l : List QV} (h : OwE w base q s) (hr : OwV w base' (.slice (some ⟨g, 0, none⟩) n cap) l) (u : Value) : OwE (w.setCell ⟨g, k, none⟩ u) base q s :=
  ⟨h.n, ownsRow_setCell_other h.row (fun e => own_tag hr h.row (by decide) (k := g) rfl e) u⟩

/-- The first k queues are the call's own; the others are who knows whose. -/
structure MixQ (w : World) (base : Nat) (v : Value) (us vs : List QV) (l : List (List Int)) (k : Nat) : Prop where
  row : OwV w base v us
  len : us.length = vs.length
  own : ∀ (i : Nat) x s, i < k → us[i]? = some x → l[i]? = some s → OwE w base x s
  old : ∀ i, k ≤ i → us[i]? = vs[i]?
  apart : ∀ (i j : Nat) x y, i < j → j < k → us[i]? = some x → us[j]? = some y → Apart x y
theorem MixQ.step {w w2 : World} {base g n cap : Nat} {us vs : List QV} {l : List (List Int)} {k : Nat} {x : QV} {s : List Int} (h : MixQ w base (.slice (some ⟨g, 0, none⟩) n cap) us vs l k) (hn : us.length = n) (hln : l.length = n)
    (hb : Below w.heap.size w w2) (hx : OwE w2 w.heap.size x s) (hbase : base ≤ w.heap.size) (hs : l[k]? = some s) :
    MixQ (w2.setCell ⟨g, k, none⟩ x.v) base (.slice (some ⟨g, 0, none⟩) n cap) (us.set k x) vs l (k + 1) := by
  have hk : k < n := by rw [← hln]; exact (List.getElem?_eq_some_iff.1 hs).1
  have hr := h.row.below hb
  refine ⟨hr.set_in hn hk x, by rw [List.length_set]; exact h.len, fun i y t hi hy ht => ?_, fun i hi => by rw [List.getElem?_set_ne (by omega)]; exact h.old i (by omega), fun i j y z hij hjk hy hz => ?_⟩
  · by_cases e : i = k
    · subst e
      rw [List.getElem?_set_self (by rw [hn]; exact hk)] at hy
      rw [hs] at ht
      cases hy
      cases ht
      exact (hx.mono hbase).set_out hr _
    · rw [List.getElem?_set_ne (by omega)] at hy
      exact ((h.own i y t (by omega) hy ht).below hb).set_out hr _
  · rw [List.getElem?_set_ne (by omega)] at hy
    by_cases e : j = k
    · subst e
      rw [List.getElem?_set_self (by rw [hn]; exact hk)] at hz
      cases hz
      intro m hm hm'
      have hi : i < l.length := by rw [hln, ← hn]; exact (List.getElem?_eq_some_iff.1 hy).1
      obtain ⟨_, _, h1⟩ := own_block (h.own i y l[i] hij hy (List.getElem?_eq_getElem hi)).row hm
      have h2 := (hx.row.lt m hm').1
      omega
    · rw [List.getElem?_set_ne (by omega)] at hz
      exact h.apart i j y z hij (by omega) hy hz
theorem MixQ.all {w : World} {base : Nat} {v : Value} {us vs : List QV} {l : List (List Int)} (h : MixQ w base v us vs l l.length) (hl : vs.length = l.length) : OwQs w base v us l :=
  ⟨h.row, by rw [h.len, hl], fun i x s hx hs => h.own i x s (List.getElem?_eq_some_iff.1 hs).1 hx hs, fun i j x y hij hx hy => h.apart i j x y hij (by have := (List.getElem?_eq_some_iff.1 hy).1; rw [h.len, hl] at this; exact this) hx hy⟩
structure AccO (w W : World) (v : Value) (us vs : List QV) (l : List (List Int)) (k : Nat) : Prop where
  mix : MixQ W (w.heap.size + 2) v us vs l k
  below : Below w.heap.size w W
  sz : w.heap.size + 2 ≤ W.heap.size
  cell : W.cell? ⟨w.heap.size, 0, none⟩ = some v
  res : W.cell? ⟨w.heap.size + 1, 0, none⟩ = some (.slice none 0 0)
  rfr : W.frozen? ⟨w.heap.size + 1, 0, none⟩ = false
theorem AccO.step {w W w2 : World} {g n cap : Nat} {us vs : List QV} {l : List (List Int)} {k : Nat} {x : QV} {s : List Int} (h : AccO w W (.slice (some ⟨g, 0, none⟩) n cap) us vs l k) (hn : us.length = n) (hln : l.length = n)
    (hb : Below W.heap.size W w2) (hx : OwE w2 W.heap.size x s) (hs : l[k]? = some s) : AccO w (w2.setCell ⟨g, k, none⟩ x.v) (.slice (some ⟨g, 0, none⟩) n cap) (us.set k x) vs l (k + 1) := by
  have hg := (h.mix.row.lt g rfl).1
  have hc : ∀ j u, j < w.heap.size + 2 → W.cell? ⟨j, 0, none⟩ = some u → (w2.setCell ⟨g, k, none⟩ x.v).cell? ⟨j, 0, none⟩ = some u := fun j u hj hu => by
    rw [World.cell?_setCell_other]
    · exact cell_later hb hu
    · intro e
      simp only [Addr.mk.injEq] at e
      omega
  exact ⟨h.mix.step hn hln hb hx h.sz hs, (bthen h.below hb).setCell (by show _ ≤ g; omega) _, Nat.le_trans h.sz (by rw [World.size_setCell]; exact hb.size), hc _ _ (by omega) h.cell, hc _ _ (by omega) h.res,
    by rw [World.frozen?_setCell]; exact (hb.frozen (p := ⟨w.heap.size + 1, 0, none⟩) (show w.heap.size + 1 < _ from by have := h.sz; omega)).trans h.rfr⟩

set_option maxRecDepth 100000 in
set_option maxHeartbeats 8000000 in
theorem ownG (A : Option Addr) (c : Nat) (vs : List QV) (l : List (List Int)) (w : World) (h : RdQ w A vs l) (hz : smallQ l) :
    Calls Try.prog 23 #[.agg #[.slice A l.length c]] w (RetG l w) := by
  have hl := h.len
  have HLV := Lib.hid h.2.1
  have C33 : Hid (∀ W, Below w.heap.size w W → Calls Try.prog 33 #[.slice A l.length c] W (RetV vs W)) := fun W hW => by
    have := cloneV vs A c W (h.1.below hW) (by rw [h.2.1]; exact hz.1)
    rwa [h.2.1] at this
  have HC : Hid (∀ (i : Nat) v s, vs[i]? = some v → l[i]? = some s → ∀ W, Below w.heap.size w W → Calls Try.prog 32 #[.slice v.A v.n v.c] W (RetU s W)) := fun i v s hv hs W hW => by
    have he := h.2.2 i v s hv hs
    rw [he.n]
    exact cloneU s v.A v.c W (he.row.below hW) (hz.2 s (List.mem_of_getElem? hs))
  have HB0 := Lib.hid (balloc (balloc (Below.refl w.heap.size w) (.cells #[.slice A l.length c] 24)) (.cells #[.slice none 0 0] 24))
  clear h hz
  go_enter Try.func23, Try.ntmps23
  go_wp2_with (go_at_call 33; refine (C33.out _ HB0.out).mono ?_)
  rintro e w1 ⟨v1, rfl, ho1, hb1⟩
  obtain ⟨A1, c1, rfl, hc1, hr1⟩ := ho1.shape
  obtain ⟨hce, hfe⟩ := bcell hb1
  have hs1 : w.heap.size + 2 ≤ w1.heap.size := by have := hb1.size; simp at this; omega
  have HM0 : Hid (AccO w (w1.setCell ⟨w.heap.size, 0, none⟩ (.slice A1 l.length c1)) (.slice A1 l.length c1) vs vs l 0) := by
    show AccO _ _ _ _ _ _ _
    rw [HLV.out] at ho1
    refine ⟨⟨OwV.set_lo (base := w.heap.size + 2) (OwV.mono ho1 (by simp)) (by show w.heap.size < _; omega) _, rfl, fun i x s hi => by omega, fun i _ => rfl, fun i j x y h1 h2 => by omega⟩, (bthen HB0.out hb1).setCell (by simp) _, by rw [World.size_setCell]; exact hs1, ?_, ?_, ?_⟩
    · exact World.cell?_setCell_same _ _ _ ((hce _ _ (by simp <;> omega)).trans (show _ = some (Value.slice A l.length c) from by go_simp))
    · rw [World.cell?_setCell_other]
      · exact (hce _ _ (by simp <;> omega)).trans (by go_simp)
      · simp
    · rw [World.frozen?_setCell]
      exact (hfe _ _ (by simp <;> omega)).trans (by go_simp)
  rw [HLV.out]
  clear ho1 hc1 hr1
  have hlt1 : w.heap.size < w1.heap.size := by omega
  have g1 := HM0.out.cell
  go_wp2
  clear hce hfe hb1 g1
  go_loopw [11] (fun i wr => ∃ (k : Nat) (us : List QV), i = .int .i64 k ∧ k ≤ l.length ∧ Hid (AccO w wr (.slice A1 l.length c1) us vs l k)) (fun i _ => l.length - (intOf i).toNat)
  case atStart => exact ⟨0, vs, rfl, Nat.zero_le _, HM0.out⟩
  case round =>
    clear HM0
    obtain ⟨k, us, rfl, hk, HA⟩ := hrel
    have F1 := HA.out.cell
    have hsz := HA.out.sz
    have hz1 : w.heap.size < wr.heap.size := by omega
    by_cases hlt : k < l.length
    · have hlt1 : (k : Int) < (l.length : Int) := by omega
      have hs : l[k]? = some l[k] := List.getElem?_eq_getElem hlt
      generalize l[k] = s at hs
      have hv : vs[k]? = some (vs[k]'(by have := HLV.out; omega)) := List.getElem?_eq_getElem _
      generalize (vs[k]'_) = v at hv
      have hlu : us.length = l.length := by rw [HA.out.mix.len, HLV.out]
      have CO : Hid (∀ W, Below wr.heap.size wr W → Calls Try.prog 32 #[.slice v.A v.n v.c] W (RetU s W)) := fun W hW => HC.out k v s hv hs W (bthen HA.out.below hW)
      obtain ⟨g, eg⟩ := own_form HA.out.mix.row (by omega)
      subst eg
      have hgl : g < wr.heap.size := (own_block HA.out.mix.row (k := g) rfl).choose_spec.2
      obtain ⟨d1, d2⟩ := own_cell (u := .slice v.A v.n v.c) (hlu ▸ HA.out.mix.row : wr.ownsRow _ _ 1 (.slice (some ⟨g, 0, none⟩) us.length c1) us.length (sl us)) (k := k) (by rw [sl_get _ _ _ ((HA.out.mix.old k (Nat.le_refl k)).trans hv)])
      have HSS := Lib.hid hs
      have HLU := Lib.hid hlu
      clear hs hv hlu
      obtain ⟨v1, v2, v3⟩ := v
      simp only at d1 d2 CO
      have HD : Hid (Below wr.heap.size wr wr.drew) := (Below.refl _ _).drew
      go_wp2
      go_region_with (go_at_call 32; refine (CO.out _ HD.out).mono ?_; rintro e w2 ⟨x, rfl, hx, hb2⟩; obtain ⟨A2, c2, hx2, hc2, hr2⟩ := hx.shape; subst hx2; have e1 := cell_later (bthen HD.out hb2) d1; have e3 := cell_later (bthen HD.out hb2) F1; have e2 : w2.frozen? ⟨g, k, none⟩ = false := ((bthen HD.out hb2).frozen (p := ⟨g, k, none⟩) hgl).trans d2; have HA2 := Lib.hid (HA.out.step (x := ⟨A2, s.length, c2⟩) HLU.out rfl (bthen HD.out hb2) ⟨rfl, hx⟩ HSS.out); have hz2 : wr.heap.size ≤ w2.heap.size := hb2.size; clear hx hb2 hc2 hr2)
      all_goals
        go_wp2
        go_roundw
        case rel => exact ⟨k + 1, _, by go_num, by omega, HA2.out⟩
        case measure => simp [intOf]; omega
    · obtain rfl : k = l.length := by omega
      have F2 := HA.out.res
      have Z2 := HA.out.rfr
      go_wp2
      have e2 : (wr.setCell ⟨w.heap.size + 1, 0, none⟩ (.slice A1 l.length c1)).cell? ⟨w.heap.size + 1, 0, none⟩ = some (.slice A1 l.length c1) := World.cell?_setCell_same _ _ _ F2
      refine bodyPost_ret (by simp [results, Try.results23, go_sem, e2]; rfl) rfl ?_
      exact ⟨_, rfl, ⟨us, ((HA.out.mix.all HLV.out).set_lo (by simp) _).mono (by omega)⟩, HA.out.below.setCell (by simp) _⟩
end Go.Proofs.Ytinjeoohklabpaa
