/- Rows of spans of a call's own; the walk of slices.Clone on spans. -/
import Derived.Test.YtchbbldanmmpjaaDoorSH
namespace Go.Proofs.YtchbbldanmmpjaaDoor
open Go.RowKit
set_option linter.unusedVariables false
set_option linter.unusedSimpArgs false

theorem info26 : (Tryd.prog.info? 26).map (fun i => (i.zero, i.size, i.bytes)) = some (some (.agg #[.int .i64 0, .int .i64 0, .int .i64 0, .int .i64 0, .slice none 0 0, .int .i64 0, .slice none 0 0, .bool false]), 8, 96) := by kernel_rfl
def OwS (w : World) (base : Nat) (v : Value) (l : List SpanV) : Prop := w.ownsRow base 26 8 v l.length (fl l)
theorem OwS.nil_ (w : World) (base : Nat) : OwS w base (.slice none 0 0) [] := World.ownsRow_nil w base 26 8
theorem OwS.shape {w : World} {base : Nat} {v : Value} {l : List SpanV} (h : OwS w base v l) : ∃ A c, v = .slice A l.length c ∧ l.length ≤ c ∧ RdS w A l := by
  obtain ⟨A, c, rfl, h1, h2⟩ := own_shape h
  exact ⟨A, c, rfl, h1, own_rd h⟩
theorem OwS.below {w w1 : World} {base : Nat} {v : Value} {l : List SpanV} (h : OwS w base v l) (hb : Below w.heap.size w w1) : OwS w1 base v l := own_below h hb
theorem OwS.mono {w : World} {base base' : Nat} {v : Value} {l : List SpanV} (h : OwS w base v l) (hb : base' ≤ base) : OwS w base' v l := own_mono h hb
theorem OwS.len {w : World} {base : Nat} {v : Value} {l : List SpanV} (h : OwS w base v l) : l.length ≤ 9223372036854775807 := by
  obtain ⟨A, c, _, _, hr⟩ := h.shape
  exact hr.len
/-- A row that was written, or a new one, is the call's own. -/
theorem bownS {w W W' : World} {v : Value} {l : List SpanV} (h : Below w.heap.size w W) (hg : W.grownBy W' v.ownBlock) (ho : OwS W w.heap.size v l) : Below w.heap.size w W' :=
  bgrown h hg (fun k hk => (ho.lt k hk).1)
theorem made_emptyS (w : World) : OwS (w.alloc (.cells #[] 26)) w.heap.size (.slice (some ⟨w.heap.size, 0, none⟩) 0 0) [] := World.ownsRow_made w #[] 0 (Nat.le_refl _) (by simp [maxLen]) (by simp)

theorem wpl_appS {ops : Array Oper} {rest : List Oper} {o : Oper} {a : Act} {w : World} {Q : Exit → Act → World → Prop} (hgd : o.guard = none) (s x : Operand)
    (ho : o.op = .call { callee := .builtin .append, args := #[s, x], argTypes := #[27, 27] })
    (base : Nat) (v : Value) (l0 l1 : List SpanV) (hs : a.eval s = v) (hown : OwS w base v l0) (A : Option Addr) (c : Nat) (hx : a.eval x = .slice A l1.length c) (hr : RdS w A l1)
    (hbytes : (l0.length + l1.length) * 96 ≤ 140737488355328) (hbase : base ≤ w.heap.size)
    (h : ∀ v' w', OwS w' base v' (l0 ++ l1) → w.grownBy w' v.ownBlock → wpList Tryd.prog ops Q rest (a.put o.dst v') w') : wpList Tryd.prog ops Q (o :: rest) a w :=
  wpl_append_rd hgd s x 27 ho base 26 _ 8 96 Tryd.underlying27 info26 rfl (by omega) v l0.length (fl l0) hs hown A l1.length c (fl l1) hx hr (fl_one l1) hbytes (by omega) hbase
    (fun v' w' h1 h2 => h v' w' (by unfold OwS; rw [List.length_append, fl_append]; exact h1) h2)

def RetS (l : List SpanV) (w : World) (e : Ending) (w' : World) : Prop := ∃ v, e = .returned v ∧ OwS w' w.heap.size v l ∧ Below w.heap.size w w'

theorem clone71 (l : List SpanV) (A : Option Addr) (c : Nat) (w : World) (hr : RdS w A l) (hb : l.length * 96 ≤ 140737488355328) : Calls Tryd.prog 71 #[.slice A l.length c] w (RetS l w) := by
  have hl := hr.len
  cases A with
  | none =>
    have e : l = [] := by
      cases l with
      | nil => rfl
      | cons x r => obtain ⟨b, o, e, _⟩ := hr.2.2 (by simp); cases e
    subst e
    clear hr hb hl
    have hq := fun w => Lib.run_eql_slice_nil (P := Tryd.prog) w 27 26 none 0 c 0 0 Tryd.underlying27
    go_enter Tryd.func71, Tryd.ntmps71
    go_wp2
    go_ret
    exact ⟨_, rfl, OwS.nil_ _ _, Below.refl _ _⟩
  | some ad =>
    have hb0 : Below w.heap.size w (w.alloc (.cells #[] 26)) := balloc (Below.refl _ _) _
    have hr1 := hr.below hb0
    have HR := Lib.hid hr1
    have HO := Lib.hid (made_emptyS w)
    clear hr hr1
    have hq := fun w => Lib.run_eql_slice_nil (P := Tryd.prog) w 27 26 (some ad) l.length c 0 0 Tryd.underlying27
    go_enter Tryd.func71, Tryd.ntmps71
    go_wp2_with (at_builtin; refine wpl_appS rfl (.tmp 5) (.tmp 6) rfl w.heap.size _ [] l rfl HO.out (some ad) c rfl HR.out ?hb1 ?hb2 ?_)
    case hb1 => simpa using hb
    case hb2 => simp
    intro v' w' ho hg
    have hbw := bownS hb0 hg HO.out
    have H := Lib.hid (show OwS w' w.heap.size v' l by simpa using ho)
    clear ho hg
    go_wp2
    go_ret
    exact ⟨_, rfl, H.out, hbw⟩

theorem OwS.rd {w : World} {base n c : Nat} {A : Option Addr} {l : List SpanV} (h : OwS w base (.slice A n c) l) (hn : l.length = n) : RdS w A l := by
  subst hn
  exact own_rd h
theorem fl_set (l : List SpanV) (i : Nat) (hi : i < l.length) (s : SpanV) : (fl l).take (i * 8) ++ s.cs ++ (fl l).drop (i * 8 + 8) = fl (l.set i s) := by
  have h1 : fl (l.set i s) = fl (l.take i) ++ s.cs ++ fl (l.drop (i + 1)) := by
    rw [List.set_eq_take_append_cons_drop, if_pos hi]
    simp [fl]
  rw [h1]
  unfold fl
  rw [flat_take SpanV.cs 8 SpanV.cs_len, flat_drop SpanV.cs 8 SpanV.cs_len, Nat.add_mul]
theorem own_typed_ {w : World} {base : Nat} {e : TypeId} {size n : Nat} {v : Value} {xs : List Value} (h : w.ownsRow base e size v n xs) (k : Nat) (hk : v.ownBlock = some k) : ∃ cells, w.heap[k]? = some (.cells cells e (0, 0)) := by
  rcases h.2 with ⟨rfl, _⟩ | ⟨g, cap, cur, rfl, hg, hh, r⟩
  · simp [Value.ownBlock] at hk
  · have : g = k := by simpa [Value.ownBlock] using hk
    subst this
    exact ⟨cur, hh⟩
/-- Words live on where a row of spans is written. -/
theorem OwU.keep {w w1 : World} {base b' n : Nat} {u v : Value} {l : List Int} {size : Nat} {xs : List Value} (h : OwU w base u l) (ho : w.ownsRow b' 26 size v n xs) (hg : w.grownBy w1 v.ownBlock) : OwU w1 base u l := by
  refine World.ownsRow.kept h hg ?_
  cases hu : u.ownBlock with
  | none => exact .inl rfl
  | some k =>
    refine .inr fun hv => ?_
    obtain ⟨c1, h1⟩ := own_typed_ h k hu
    obtain ⟨c2, h2⟩ := own_typed_ ho k hv.symm
    rw [h1] at h2
    injection h2 with h2
    injection h2 with _ h2
    exact absurd h2 (by decide)
theorem OwN.keep {w w1 : World} {base b' n : Nat} {v : Value} {x : SpanV} {s : SpanB} {size : Nat} {xs : List Value} (h : OwN w base x s) (ho : w.ownsRow b' 26 size v n xs) (hg : w.grownBy w1 v.ownBlock) : OwN w1 base x s :=
  ⟨h.first, h.pages, h.size, h.sw, h.an, h.am, h.ac, h.al.keep ho hg, h.mn, h.mm, h.mc, h.ma.keep ho hg⟩
/-- Spans of the call's own, words and all. -/
def AllN (w : World) (base : Nat) (vs : List SpanV) (l : List SpanB) : Prop := vs.length = l.length ∧ ∀ (i : Nat) x s, vs[i]? = some x → l[i]? = some s → OwN w base x s
def OwL (w : World) (base : Nat) (v : Value) (l : List SpanB) : Prop := ∃ vs, OwS w base v vs ∧ AllN w base vs l
theorem AllN.below {w w1 : World} {base : Nat} {vs : List SpanV} {l : List SpanB} (h : AllN w base vs l) (hb : Below w.heap.size w w1) : AllN w1 base vs l := ⟨h.1, fun i x s hx hs => (h.2 i x s hx hs).below hb⟩
theorem AllN.mono {w : World} {base base' : Nat} {vs : List SpanV} {l : List SpanB} (h : AllN w base vs l) (hb : base' ≤ base) : AllN w base' vs l := ⟨h.1, fun i x s hx hs => (h.2 i x s hx hs).mono hb⟩
theorem AllN.keep {w w1 : World} {base b' n : Nat} {v : Value} {vs : List SpanV} {l : List SpanB} {size : Nat} {xs : List Value} (h : AllN w base vs l) (ho : w.ownsRow b' 26 size v n xs) (hg : w.grownBy w1 v.ownBlock) : AllN w1 base vs l :=
  ⟨h.1, fun i x s hx hs => (h.2 i x s hx hs).keep ho hg⟩
theorem AllN.nil_ (w : World) (base : Nat) : AllN w base [] [] := ⟨rfl, fun i x s hx => by simp at hx⟩
theorem AllN.append {w : World} {base : Nat} {vs us : List SpanV} {l m : List SpanB} (h : AllN w base vs l) (k : AllN w base us m) : AllN w base (vs ++ us) (l ++ m) := by
  refine ⟨by rw [List.length_append, List.length_append, h.1, k.1], fun i x s hx hs => ?_⟩
  by_cases hi : i < vs.length
  · rw [List.getElem?_append_left hi] at hx
    rw [List.getElem?_append_left (by rw [← h.1]; exact hi)] at hs
    exact h.2 i x s hx hs
  · rw [List.getElem?_append_right (by omega)] at hx
    rw [List.getElem?_append_right (by rw [← h.1]; omega), ← h.1] at hs
    exact k.2 _ x s hx hs
theorem AllN.one {w : World} {base : Nat} {x : SpanV} {s : SpanB} (h : OwN w base x s) : AllN w base [x] [s] := by
  refine ⟨rfl, fun i y t hy ht => ?_⟩
  match i with
  | 0 =>
    simp only [List.getElem?_cons_zero, Option.some.injEq] at hy ht
    subst hy
    subst ht
    exact h
  | j + 1 => simp at hy
theorem AllN.rd {w : World} {base : Nat} {vs : List SpanV} {l : List SpanB} (h : AllN w base vs l) (hw : ∀ s ∈ l, WfS s) : ∀ (i : Nat) x s, vs[i]? = some x → l[i]? = some s → RdN w x s :=
  fun i x s hx hs => (h.2 i x s hx hs).rd (hw s (List.mem_of_getElem? hs))
theorem OwL.nil_ (w : World) (base : Nat) : OwL w base (.slice none 0 0) [] := ⟨[], OwS.nil_ _ _, AllN.nil_ _ _⟩
theorem OwL.below {w w1 : World} {base : Nat} {v : Value} {l : List SpanB} (h : OwL w base v l) (hb : Below w.heap.size w w1) : OwL w1 base v l := by
  obtain ⟨vs, h1, h2⟩ := h
  exact ⟨vs, h1.below hb, h2.below hb⟩
theorem OwL.mono {w : World} {base base' : Nat} {v : Value} {l : List SpanB} (h : OwL w base v l) (hb : base' ≤ base) : OwL w base' v l := by
  obtain ⟨vs, h1, h2⟩ := h
  exact ⟨vs, h1.mono hb, h2.mono hb⟩
/-- It reads. -/
theorem OwL.shape {w : World} {base : Nat} {v : Value} {l : List SpanB} (h : OwL w base v l) (hw : ∀ s ∈ l, WfS s) : ∃ A c vs, v = .slice A l.length c ∧ l.length ≤ c ∧ RdL w A vs l := by
  obtain ⟨vs, h1, h2⟩ := h
  obtain ⟨A, c, rfl, hc, hr⟩ := h1.shape
  exact ⟨A, c, vs, by rw [h2.1], by rw [← h2.1]; exact hc, hr, h2.1, h2.rd hw⟩
def RetL (l : List SpanB) (w : World) (e : Ending) (w' : World) : Prop := ∃ v, e = .returned v ∧ OwL w' w.heap.size v l ∧ Below w.heap.size w w'
def smallL (l : List SpanB) : Prop := l.length * 96 ≤ 140737488355328 ∧ ∀ s ∈ l, smallS s
end Go.Proofs.YtchbbldanmmpjaaDoor
