/- The walk of span.Own. -/
import Derived.Test.YtchbbldanmmpjaaDoorSJ
namespace Go.Proofs.YtchbbldanmmpjaaDoor
open Go.RowKit
set_option linter.unusedVariables false
set_option linter.unusedSimpArgs false

/-- The first k spans are the call's own, words and all; the others' words are who knows whose. -/
structure MixL (w : World) (base : Nat) (v : Value) (us vs : List SpanV) (l : List SpanB) (k : Nat) : Prop where
  row : OwS w base v us
  len : us.length = vs.length
  own : ∀ (i : Nat) x s, i < k → us[i]? = some x → l[i]? = some s → OwN w base x s
  old : ∀ i, k ≤ i → us[i]? = vs[i]?
theorem MixL.below {w w1 : World} {base : Nat} {v : Value} {us vs : List SpanV} {l : List SpanB} {k : Nat} (h : MixL w base v us vs l k) (hb : Below w.heap.size w w1) : MixL w1 base v us vs l k :=
  ⟨h.row.below hb, h.len, fun i x s hi hx hs => (h.own i x s hi hx hs).below hb, h.old⟩
theorem MixL.step {w w1 : World} {base : Nat} {v : Value} {us vs : List SpanV} {l : List SpanB} {k : Nat} {x : SpanV} {s : SpanB} (h : MixL w base v us vs l k) (hg : w.grownBy w1 v.ownBlock) (hr : OwS w1 base v (us.set k x))
    (hk : k < us.length) (hx : OwN w base x s) (hs : l[k]? = some s) : MixL w1 base v (us.set k x) vs l (k + 1) := by
  refine ⟨hr, by rw [List.length_set]; exact h.len, fun i y t hi hy ht => ?_, fun i hi => by rw [List.getElem?_set_ne (by omega)]; exact h.old i (by omega)⟩
  by_cases e : i = k
  · subst e
    rw [List.getElem?_set_self hk] at hy
    rw [hs] at ht
    cases hy
    cases ht
    exact hx.keep h.row hg
  · rw [List.getElem?_set_ne (by omega)] at hy
    exact (h.own i y t (by omega) hy ht).keep h.row hg
theorem MixL.all {w : World} {base : Nat} {v : Value} {us vs : List SpanV} {l : List SpanB} (h : MixL w base v us vs l l.length) (hl : vs.length = l.length) : OwL w base v l :=
  ⟨us, h.row, by rw [h.len, hl], fun i x s hx hs => h.own i x s (List.getElem?_eq_some_iff.1 hs).1 hx hs⟩
/-- A store into a row of spans of the call's own. -/
theorem wpl_stS {ops : Array Oper} {rest : List Oper} {o : Oper} {a : Act} {w : World} {Q : Exit → Act → World → Prop} (hgd : o.guard = none) (p y : Operand) (ho : o.op = .store 26 p y)
    (base g n cap : Nat) (l : List SpanV) (h : OwS w base (.slice (some ⟨g, 0, none⟩) n cap) l) (hn : l.length = n) (k : Nat) (x : SpanV) (hp : a.eval p = .pointer (some ⟨g, k * 8, none⟩)) (hx : a.eval y = x.v) (hk : k < n)
    (hK : ∀ w', OwS w' base (.slice (some ⟨g, 0, none⟩) n cap) (l.set k x) → w.grownBy w' (some g) → wpList Tryd.prog ops Q rest (a.put o.dst undef) w') :
    wpList Tryd.prog ops Q (o :: rest) a w := by
  subst hn
  obtain ⟨i0, hi, hz0, hz1, hz2⟩ := info_parts info26
  refine wpl_store_own (P := Tryd.prog) hgd 26 p y ho base 26 8 i0 hi hz1 g l.length cap (fl l) h (k * 8) hp x.v hx rfl (by omega) (by simp [SpanV.v, Value.cells, Value.oneCell']) ?_
  intro w' h1 h2
  refine hK w' ?_ h2
  unfold OwS
  rw [List.length_set, ← fl_set l k hk x]
  exact h1

set_option maxRecDepth 100000 in
set_option maxHeartbeats 8000000 in
theorem own53 (A : Option Addr) (c : Nat) (vs : List SpanV) (l : List SpanB) (w : World) (h : RdL w A vs l) (hz : smallL l) : Calls Tryd.prog 53 #[.slice A l.length c] w (RetL l w) := by
  have hl := h.len
  have HLV := Lib.hid h.2.1
  have C71 : Hid (Calls Tryd.prog 71 #[.slice A l.length c] w (RetS vs w)) := by
    show Calls _ _ _ _ _
    have := clone71 vs A c w h.1 (by rw [h.2.1]; exact hz.1)
    rwa [h.2.1] at this
  have HC : Hid (∀ (i : Nat) v s, vs[i]? = some v → l[i]? = some s → ∀ W, Below w.heap.size w W → Calls Tryd.prog 58 #[v.v] W (RetN s W)) := fun i v s hv hs W hW => one58 v s W ((h.2.2 i v s hv hs).below hW) (smallS_at hz hs)
  clear h hz
  obtain ⟨i26, hi, hz0, hz1, hz2⟩ := info_parts info26
  have HI := Lib.hid hi
  have HS := Lib.hid hz1
  clear hi hz0 hz1 hz2
  go_enter Tryd.func53, Tryd.ntmps53
  go_wp2_with (go_at_call 71; refine C71.out.mono ?_)
  rintro e w1 ⟨v1, rfl, ho1, hb1⟩
  obtain ⟨A1, c1, rfl, hc1, hr1⟩ := ho1.shape
  have HB1 := Lib.hid hb1
  have HM0 : Hid (MixL w1 w.heap.size (.slice A1 l.length c1) vs vs l 0) := by
    show MixL _ _ _ _ _ _ _
    rw [HLV.out] at ho1
    exact ⟨ho1, rfl, fun i x s hi => by omega, fun i _ => rfl⟩
  rw [HLV.out]
  clear ho1 hb1 hc1 hr1
  go_wp2
  obtain ⟨wo, hwo⟩ : ∃ wo : World, wo = w1 := ⟨w1, rfl⟩
  go_loopw [8] (fun i wr => ∃ k : Nat, k ≤ l.length ∧ i = .int .i64 k ∧ Hid (∃ us, MixL wr w.heap.size (.slice A1 l.length c1) us vs l k) ∧ Hid (Below w.heap.size w wr)) (fun i _ => l.length - (intOf i).toNat)
  case atStart => exact ⟨0, Nat.zero_le _, rfl, ⟨vs, HM0.out⟩, HB1.out⟩
  case round =>
    obtain ⟨k, hk, rfl, HM, HBr⟩ := hrel
    by_cases hlt : k < l.length
    · obtain ⟨us, hM⟩ := HM.out
      have hs : l[k]? = some l[k] := List.getElem?_eq_getElem hlt
      generalize l[k] = s at hs
      have hv : vs[k]? = some (vs[k]'(by have := HLV.out; omega)) := List.getElem?_eq_getElem _
      generalize (vs[k]'_) = v at hv
      have hlu : us.length = l.length := by rw [hM.len, HLV.out]
      have CO := Lib.hid (HC.out k v s hv hs)
      obtain ⟨g, eg⟩ := own_form hM.row (by omega)
      cases eg
      obtain ⟨b, o, eb, _, c0, c1, c2, c3, c4, c5, c6, c7⟩ := (hM.row.rd hlu).at_ ((hM.old k (Nat.le_refl k)).trans hv)
      cases eb
      simp only [Nat.zero_add] at c0 c1 c2 c3 c4 c5 c6 c7
      have HMM := Lib.hid hM
      have HSS := Lib.hid hs
      have HLU := Lib.hid hlu
      clear hM hs hv hlu HM HM0
      obtain ⟨f, p, z, ⟨n, A3, m, ca⟩, ⟨n', A2, m', cb⟩, sw⟩ := v
      unfold SpanV.v at CO
      simp only at c0 c1 c2 c3 c4 c5 c6 c7 CO
      go_wp2_with (go_at_call 58; refine (CO.out _ HBr.out).mono ?_)
      rintro e w2 ⟨x, rfl, hx, hb2⟩
      have HM2 := Lib.hid (HMM.out.below hb2)
      have HX := Lib.hid (hx.mono (base' := w.heap.size) HBr.out.size)
      have HB2 := Lib.hid (bthen HBr.out hb2)
      clear hx hb2 HMM c0 c1 c2 c3 c4 c5 c6 c7
      unfold SpanV.v
      have HR2 := Lib.hid HM2.out.row
      go_wp2_with (refine wpl_stS rfl (.tmp 18) (.tmp 17) rfl w.heap.size g l.length c1 us HR2.out HLU.out k x rfl rfl hlt ?_)
      intro w3 ho3 hg
      have HB3 := Lib.hid (bgrown HB2.out hg (fun k' hk' => by cases hk'; exact (HR2.out.lt g rfl).1))
      have HM3 : Hid (MixL w3 w.heap.size (.slice (some ⟨g, 0, none⟩) l.length c1) (us.set k x) vs l (k + 1)) := HM2.out.step hg ho3 (by rw [HLU.out]; exact hlt) HX.out HSS.out
      clear ho3 hg
      go_wp2
      go_roundw
      case rel => exact ⟨k + 1, by omega, by go_num, ⟨_, HM3.out⟩, HB3.out⟩
      case measure => simp [intOf]; omega
    · obtain rfl : k = l.length := by omega
      go_wp2
      go_ret
      obtain ⟨us, hM⟩ := HM.out
      exact ⟨_, rfl, hM.all HLV.out, HBr.out⟩
end Go.Proofs.YtchbbldanmmpjaaDoor
