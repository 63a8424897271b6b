/- Rows of words, and rows of such rows: how they read, and those of a call's own. -/
import Derived.Test.YtinjeoohklabpaaXC
namespace Go.Proofs.Ytinjeoohklabpaa
open Go.RowKit
set_option linter.unusedVariables false
set_option linter.unusedSimpArgs false

/-! ### Words -/
def us (l : List Int) : List Value := l.map (fun x => .int .u64 x)
theorem us_len (l : List Int) : (us l).length = l.length := by simp [us]
theorem us_one (l : List Int) : ∀ u ∈ us l, u.oneCell' = true := by
  intro u hu
  simp only [us, List.mem_map] at hu
  obtain ⟨x, _, rfl⟩ := hu
  rfl
theorem us_get (l : List Int) (i : Nat) (x : Int) (h : l[i]? = some x) : (us l)[i]? = some (.int .u64 x) := by simp [us, h]
def RdU (w : World) (A : Option Addr) (l : List Int) : Prop := Rd w 1 A l.length (us l)
theorem RdU.below {w w1 : World} {A : Option Addr} {l : List Int} (h : RdU w A l) (hb : Below w.heap.size w w1) : RdU w1 A l := Rd.below h hb
theorem RdU.len {w : World} {A : Option Addr} {l : List Int} (h : RdU w A l) : l.length ≤ 9223372036854775807 := h.2.1
theorem RdU.nil_ (w : World) (A : Option Addr) : RdU w A [] := Rd.nil_ w 1 A
theorem RdU.at_ {w : World} {A : Option Addr} {l : List Int} (h : RdU w A l) {i : Nat} {x : Int} (hs : l[i]? = some x) : ∃ b o, A = some ⟨b, o, none⟩ ∧ b < w.heap.size ∧ w.cell? ⟨b, o + i, none⟩ = some (.int .u64 x) := by
  have hi : i < l.length := (List.getElem?_eq_some_iff.1 hs).1
  obtain ⟨b, o, e, hb, hc⟩ := h.2.2 (by omega)
  exact ⟨b, o, e, hb, hc i _ (us_get l i x hs)⟩
theorem RdU.none_ {w : World} {l : List Int} (h : RdU w none l) : l = [] := by
  rcases Nat.eq_zero_or_pos l.length with e | e
  · exact List.eq_nil_of_length_eq_zero e
  · obtain ⟨b, o, e, _⟩ := h.2.2 e
    cases e

/-! ### Rows of rows of words -/
structure QV where
  A : Option Addr
  n : Nat
  c : Nat
def QV.v (q : QV) : Value := .slice q.A q.n q.c
def sl (vs : List QV) : List Value := vs.map QV.v
theorem sl_len (l : List QV) : (sl l).length = l.length := by simp [sl]
theorem sl_one (l : List QV) : ∀ u ∈ sl l, u.oneCell' = true := by
  intro u hu
  simp only [sl, List.mem_map] at hu
  obtain ⟨x, _, rfl⟩ := hu
  rfl
theorem sl_get (l : List QV) (i : Nat) (x : QV) (h : l[i]? = some x) : (sl l)[i]? = some (.slice x.A x.n x.c) := by simp [sl, h, QV.v]
def RdV (w : World) (A : Option Addr) (vs : List QV) : Prop := Rd w 1 A vs.length (sl vs)
theorem RdV.below {w w1 : World} {A : Option Addr} {l : List QV} (h : RdV w A l) (hb : Below w.heap.size w w1) : RdV w1 A l := Rd.below h hb
theorem RdV.len {w : World} {A : Option Addr} {l : List QV} (h : RdV w A l) : l.length ≤ 9223372036854775807 := h.2.1
theorem RdV.nil_ (w : World) (A : Option Addr) : RdV w A [] := Rd.nil_ w 1 A
theorem RdV.at_ {w : World} {A : Option Addr} {l : List QV} (h : RdV w A l) {i : Nat} {x : QV} (hs : l[i]? = some x) : ∃ b o, A = some ⟨b, o, none⟩ ∧ b < w.heap.size ∧ w.cell? ⟨b, o + i, none⟩ = some (.slice x.A x.n x.c) := by
  have hi : i < l.length := (List.getElem?_eq_some_iff.1 hs).1
  obtain ⟨b, o, e, hb, hc⟩ := h.2.2 (by omega)
  exact ⟨b, o, e, hb, hc i _ (sl_get l i x hs)⟩
structure RdE (w : World) (q : QV) (l : List Int) : Prop where
  n : q.n = l.length
  row : RdU w q.A l
theorem RdE.below {w w1 : World} {q : QV} {l : List Int} (h : RdE w q l) (hb : Below w.heap.size w w1) : RdE w1 q l := ⟨h.n, h.row.below hb⟩
def RdQ (w : World) (A : Option Addr) (vs : List QV) (l : List (List Int)) : Prop := RdV w A vs ∧ vs.length = l.length ∧ ∀ (i : Nat) v s, vs[i]? = some v → l[i]? = some s → RdE w v s
theorem RdQ.below {w w1 : World} {A : Option Addr} {vs : List QV} {l : List (List Int)} (h : RdQ w A vs l) (hb : Below w.heap.size w w1) : RdQ w1 A vs l :=
  ⟨h.1.below hb, h.2.1, fun i v s h1 h2 => (h.2.2 i v s h1 h2).below hb⟩
theorem RdQ.len {w : World} {A : Option Addr} {vs : List QV} {l : List (List Int)} (h : RdQ w A vs l) : l.length ≤ 9223372036854775807 := by rw [← h.2.1]; exact h.1.len
theorem RdQ.at_ {w : World} {A : Option Addr} {vs : List QV} {l : List (List Int)} (h : RdQ w A vs l) {i : Nat} {s : List Int} (hs : l[i]? = some s) :
    ∃ v b o, vs[i]? = some v ∧ A = some ⟨b, o, none⟩ ∧ b < w.heap.size ∧ w.cell? ⟨b, o + i, none⟩ = some (.slice v.A s.length v.c) ∧ RdU w v.A s := by
  have hi : i < vs.length := by rw [h.2.1]; exact (List.getElem?_eq_some_iff.1 hs).1
  have hv : vs[i]? = some vs[i] := List.getElem?_eq_getElem hi
  obtain ⟨b, o, e, hb, hc⟩ := h.1.at_ hv
  have hE := h.2.2 i _ _ hv hs
  exact ⟨_, b, o, hv, e, hb, by rw [← hE.n]; exact hc, hE.row⟩

/-! ### Rows of a call's own -/
theorem infoU : (Try.prog.info? 30).map (fun i => (i.zero, i.size, i.bytes)) = some (some (.int .u64 0), 1, 8) := by kernel_rfl
theorem infoV : (Try.prog.info? 25).map (fun i => (i.zero, i.size, i.bytes)) = some (some (.slice none 0 0), 1, 24) := by kernel_rfl
def OwU (w : World) (base : Nat) (v : Value) (l : List Int) : Prop := w.ownsRow base 30 1 v l.length (us l)
theorem OwU.nil_ (w : World) (base : Nat) : OwU w base (.slice none 0 0) [] := World.ownsRow_nil w base _ 1
theorem OwU.shape {w : World} {base : Nat} {v : Value} {l : List Int} (h : OwU w base v l) : ∃ A c, v = .slice A l.length c ∧ l.length ≤ c ∧ RdU w A l := by
  obtain ⟨A, c, rfl, h1, _⟩ := own_shape h
  exact ⟨A, c, rfl, h1, own_rd h⟩
theorem OwU.below {w w1 : World} {base : Nat} {v : Value} {l : List Int} (h : OwU w base v l) (hb : Below w.heap.size w w1) : OwU w1 base v l := own_below h hb
theorem OwU.mono {w : World} {base base' : Nat} {v : Value} {l : List Int} (h : OwU w base v l) (hb : base' ≤ base) : OwU w base' v l := own_mono h hb
theorem OwU.grown {w w1 : World} {base : Nat} {v : Value} {l : List Int} {r : Option Nat} (h : OwU w base v l) (hg : w.grownBy w1 r) (hr : ∀ k, v.ownBlock = some k → r ≠ some k) : OwU w1 base v l := by
  refine ⟨h.1, ?_⟩
  rcases h.2 with hn | ⟨g, cap, cur, rfl, hg', hh, r'⟩
  · exact .inl hn
  · exact .inr ⟨g, cap, cur, rfl, hg', (hg.block g (Array.getElem?_eq_some_iff.1 hh).1 (fun e => hr g rfl e.symm)).trans hh, r'⟩
theorem bown {w W W' : World} {v : Value} {l : List Int} (h : Below w.heap.size w W) (hg : W.grownBy W' v.ownBlock) (ho : OwU W w.heap.size v l) : Below w.heap.size w W' :=
  bgrown h hg (fun k hk => (World.ownsRow.lt ho k hk).1)
theorem made_empty (w : World) : OwU (w.alloc (.cells #[] 30)) w.heap.size (.slice (some ⟨w.heap.size, 0, none⟩) 0 0) [] := World.ownsRow_made w #[] 0 (Nat.le_refl _) (by simp [maxLen]) (by simp)
theorem wpl_appU {ops : Array Oper} {rest : List Oper} {o : Oper} {a : Act} {w : World} {Q : Exit → Act → World → Prop} (hgd : o.guard = none) (s x : Operand)
    (ho : o.op = .call { callee := .builtin .append, args := #[s, x], argTypes := #[25, 25] })
    (base : Nat) (v : Value) (l0 l1 : List Int) (hs : a.eval s = v) (hown : OwU w base v l0) (A : Option Addr) (c : Nat) (hx : a.eval x = .slice A l1.length c) (hr : RdU w A l1)
    (hbytes : (l0.length + l1.length) * 8 ≤ 140737488355328) (hbase : base ≤ w.heap.size)
    (h : ∀ v' w', OwU w' base v' (l0 ++ l1) → w.grownBy w' v.ownBlock → wpList Try.prog ops Q rest (a.put o.dst v') w') : wpList Try.prog ops Q (o :: rest) a w :=
  wpl_append_rd hgd s x 25 ho base 30 _ 1 8 Try.underlying25 infoU rfl (by omega) v l0.length (us l0) hs hown A l1.length c (us l1) hx hr (us_one l1) hbytes (by omega) hbase
    (fun v' w' h1 h2 => h v' w' (by unfold OwU; rw [List.length_append, show us (l0 ++ l1) = us l0 ++ us l1 from by simp [us]]; exact h1) h2)
def RetU (l : List Int) (w : World) (e : Ending) (w' : World) : Prop := ∃ v, e = .returned v ∧ OwU w' w.heap.size v l ∧ Below w.heap.size w w'
def OwV (w : World) (base : Nat) (v : Value) (vs : List QV) : Prop := w.ownsRow base 25 1 v vs.length (sl vs)
theorem OwV.nil_ (w : World) (base : Nat) : OwV w base (.slice none 0 0) [] := World.ownsRow_nil w base _ 1
theorem OwV.shape {w : World} {base : Nat} {v : Value} {l : List QV} (h : OwV w base v l) : ∃ A c, v = .slice A l.length c ∧ l.length ≤ c ∧ RdV w A l := by
  obtain ⟨A, c, rfl, h1, _⟩ := own_shape h
  exact ⟨A, c, rfl, h1, own_rd h⟩
theorem OwV.below {w w1 : World} {base : Nat} {v : Value} {l : List QV} (h : OwV w base v l) (hb : Below w.heap.size w w1) : OwV w1 base v l := own_below h hb
theorem OwV.mono {w : World} {base base' : Nat} {v : Value} {l : List QV} (h : OwV w base v l) (hb : base' ≤ base) : OwV w base' v l := own_mono h hb
theorem made_emptyV (w : World) : OwV (w.alloc (.cells #[] 25)) w.heap.size (.slice (some ⟨w.heap.size, 0, none⟩) 0 0) [] := World.ownsRow_made w #[] 0 (Nat.le_refl _) (by simp [maxLen]) (by simp)
theorem wpl_appV {ops : Array Oper} {rest : List Oper} {o : Oper} {a : Act} {w : World} {Q : Exit → Act → World → Prop} (hgd : o.guard = none) (s x : Operand)
    (ho : o.op = .call { callee := .builtin .append, args := #[s, x], argTypes := #[22, 22] })
    (base : Nat) (v : Value) (l0 l1 : List QV) (hs : a.eval s = v) (hown : OwV w base v l0) (A : Option Addr) (c : Nat) (hx : a.eval x = .slice A l1.length c) (hr : RdV w A l1)
    (hbytes : (l0.length + l1.length) * 24 ≤ 140737488355328) (hbase : base ≤ w.heap.size)
    (h : ∀ v' w', OwV w' base v' (l0 ++ l1) → w.grownBy w' v.ownBlock → wpList Try.prog ops Q rest (a.put o.dst v') w') : wpList Try.prog ops Q (o :: rest) a w :=
  wpl_append_rd hgd s x 22 ho base 25 _ 1 24 Try.underlying22 infoV rfl (by omega) v l0.length (sl l0) hs hown A l1.length c (sl l1) hx hr (sl_one l1) hbytes (by omega) hbase
    (fun v' w' h1 h2 => h v' w' (by unfold OwV; rw [List.length_append, show sl (l0 ++ l1) = sl l0 ++ sl l1 from by simp [sl]]; exact h1) h2)

/-! ### The clones -/
set_option maxRecDepth 100000 in
set_option maxHeartbeats 8000000 in
theorem cloneU (l : List Int) (A : Option Addr) (c : Nat) (w : World) (hr : RdU w A l) (hb : l.length * 8 ≤ 140737488355328) : Calls Try.prog 32 #[.slice A l.length c] w (RetU l w) := by
  have hl := hr.len
  cases A with
  | none =>
    obtain rfl := hr.none_
    clear hr hb hl
    have hq := fun w => Lib.run_eql_slice_nil (P := Try.prog) w 25 30 none 0 c 0 0 Try.underlying25
    go_enter Try.func32, Try.ntmps32
    go_wp2
    go_ret
    exact ⟨_, rfl, OwU.nil_ _ _, Below.refl _ _⟩
  | some ad =>
    have hb0 : Below w.heap.size w (w.alloc (.cells #[] 30)) := balloc (Below.refl _ _) _
    have hr1 := hr.below hb0
    have HR := Lib.hid hr1
    have HO := Lib.hid (made_empty w)
    clear hr hr1
    have hq := fun w => Lib.run_eql_slice_nil (P := Try.prog) w 25 30 (some ad) l.length c 0 0 Try.underlying25
    go_enter Try.func32, Try.ntmps32
    go_wp2_with (at_builtin; refine wpl_appU rfl (.tmp 5) (.tmp 6) rfl w.heap.size _ [] l rfl HO.out (some ad) c rfl HR.out ?hb1 ?hb2 ?_)
    case hb1 => simpa using hb
    case hb2 => simp
    intro v' w' ho hg
    have hbw := bown hb0 hg HO.out
    have H := Lib.hid (show OwU w' w.heap.size v' l by simpa using ho)
    clear ho hg
    go_wp2
    go_ret
    exact ⟨_, rfl, H.out, hbw⟩
def RetV (vs : List QV) (w : World) (e : Ending) (w' : World) : Prop := ∃ v, e = .returned v ∧ OwV w' w.heap.size v vs ∧ Below w.heap.size w w'
theorem RdV.none_ {w : World} {l : List QV} (h : RdV w none l) : l = [] := by
  rcases Nat.eq_zero_or_pos l.length with e | e
  · exact List.eq_nil_of_length_eq_zero e
  · obtain ⟨b, o, e, _⟩ := h.2.2 e
    cases e
set_option maxRecDepth 100000 in
set_option maxHeartbeats 8000000 in
theorem cloneV (l : List QV) (A : Option Addr) (c : Nat) (w : World) (hr : RdV w A l) (hb : l.length * 24 ≤ 140737488355328) : Calls Try.prog 33 #[.slice A l.length c] w (RetV l w) := by
  have hl := hr.len
  cases A with
  | none =>
    obtain rfl := hr.none_
    clear hr hb hl
    have hq := fun w => Lib.run_eql_slice_nil (P := Try.prog) w 22 25 none 0 c 0 0 Try.underlying22
    go_enter Try.func33, Try.ntmps33
    go_wp2
    go_ret
    exact ⟨_, rfl, OwV.nil_ _ _, Below.refl _ _⟩
  | some ad =>
    have hb0 : Below w.heap.size w (w.alloc (.cells #[] 25)) := balloc (Below.refl _ _) _
    have hr1 := hr.below hb0
    have HR := Lib.hid hr1
    have HO := Lib.hid (made_emptyV w)
    clear hr hr1
    have hq := fun w => Lib.run_eql_slice_nil (P := Try.prog) w 22 25 (some ad) l.length c 0 0 Try.underlying22
    go_enter Try.func33, Try.ntmps33
    go_wp2_with (at_builtin; refine wpl_appV rfl (.tmp 5) (.tmp 6) rfl w.heap.size _ [] l rfl HO.out (some ad) c rfl HR.out ?hb1 ?hb2 ?_)
    case hb1 => simpa using hb
    case hb2 => simp
    intro v' w' ho hg
    have hbw : Below w.heap.size w w' := bgrown hb0 hg (fun k hk => (World.ownsRow.lt HO.out k hk).1)
    have H := Lib.hid (show OwV w' w.heap.size v' l by simpa using ho)
    clear ho hg
    go_wp2
    go_ret
    exact ⟨_, rfl, H.out, hbw⟩
end Go.Proofs.Ytinjeoohklabpaa
