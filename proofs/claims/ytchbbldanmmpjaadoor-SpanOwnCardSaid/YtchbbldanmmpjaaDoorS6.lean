/- Rows of words of a call's own; the walk of slices.Clone on words. -/
import Derived.Test.YtchbbldanmmpjaaDoorS5
namespace Go.Proofs.YtchbbldanmmpjaaDoor
open Go.RowKit
set_option linter.unusedVariables false
set_option linter.unusedSimpArgs false

theorem info33 : (Tryd.prog.info? 33).map (fun i => (i.zero, i.size, i.bytes)) = some (some (.int .u64 0), 1, 8) := by kernel_rfl
def OwU (w : World) (base : Nat) (v : Value) (l : List Int) : Prop := w.ownsRow base 33 1 v l.length (us l)
theorem OwU.nil_ (w : World) (base : Nat) : OwU w base (.slice none 0 0) [] := World.ownsRow_nil w base 33 1
theorem OwU.shape {w : World} {base : Nat} {v : Value} {l : List Int} (h : OwU w base v l) : ∃ A c, v = .slice A l.length c ∧ l.length ≤ c ∧ RdU w A l := by
  obtain ⟨A, c, rfl, h1, _⟩ := own_shape h
  exact ⟨A, c, rfl, h1, own_rd h⟩
theorem OwU.below {w w1 : World} {base : Nat} {v : Value} {l : List Int} (h : OwU w base v l) (hb : Below w.heap.size w w1) : OwU w1 base v l := own_below h hb
theorem OwU.mono {w : World} {base base' : Nat} {v : Value} {l : List Int} (h : OwU w base v l) (hb : base' ≤ base) : OwU w base' v l := own_mono h hb
theorem bown {w W W' : World} {v : Value} {l : List Int} (h : Below w.heap.size w W) (hg : W.grownBy W' v.ownBlock) (ho : OwU W w.heap.size v l) : Below w.heap.size w W' :=
  bgrown h hg (fun k hk => (World.ownsRow.lt ho k hk).1)
theorem made_empty (w : World) : OwU (w.alloc (.cells #[] 33)) w.heap.size (.slice (some ⟨w.heap.size, 0, none⟩) 0 0) [] := World.ownsRow_made w #[] 0 (Nat.le_refl _) (by simp [maxLen]) (by simp)
theorem wpl_appU {ops : Array Oper} {rest : List Oper} {o : Oper} {a : Act} {w : World} {Q : Exit → Act → World → Prop} (hgd : o.guard = none) (s x : Operand)
    (ho : o.op = .call { callee := .builtin .append, args := #[s, x], argTypes := #[22, 22] })
    (base : Nat) (v : Value) (l0 l1 : List Int) (hs : a.eval s = v) (hown : OwU w base v l0) (A : Option Addr) (c : Nat) (hx : a.eval x = .slice A l1.length c) (hr : RdU w A l1)
    (hbytes : (l0.length + l1.length) * 8 ≤ 140737488355328) (hbase : base ≤ w.heap.size)
    (h : ∀ v' w', OwU w' base v' (l0 ++ l1) → w.grownBy w' v.ownBlock → wpList Tryd.prog ops Q rest (a.put o.dst v') w') : wpList Tryd.prog ops Q (o :: rest) a w :=
  wpl_append_rd hgd s x 22 ho base 33 _ 1 8 Tryd.underlying22 info33 rfl (by omega) v l0.length (us l0) hs hown A l1.length c (us l1) hx hr (us_one l1) hbytes (by omega) hbase
    (fun v' w' h1 h2 => h v' w' (by unfold OwU; rw [List.length_append, show us (l0 ++ l1) = us l0 ++ us l1 from by simp [us]]; exact h1) h2)
def RetU (l : List Int) (w : World) (e : Ending) (w' : World) : Prop := ∃ v, e = .returned v ∧ OwU w' w.heap.size v l ∧ Below w.heap.size w w'

set_option maxRecDepth 100000 in
set_option maxHeartbeats 8000000 in
theorem clone64 (l : List Int) (A : Option Addr) (c : Nat) (w : World) (hr : RdU w A l) (hb : l.length * 8 ≤ 140737488355328) : Calls Tryd.prog 64 #[.slice A l.length c] w (RetU l w) := by
  have hl := hr.len
  cases A with
  | none =>
    have hn : l = [] := by
      rcases Nat.eq_zero_or_pos l.length with h | h
      · exact List.eq_nil_of_length_eq_zero h
      · obtain ⟨b, o, e, _⟩ := hr.2.2 h
        cases e
    subst hn
    clear hr hb hl
    have hq := fun w => Lib.run_eql_slice_nil (P := Tryd.prog) w 22 33 none 0 c 0 0 Tryd.underlying22
    go_enter Tryd.func64, Tryd.ntmps64
    go_wp2
    go_ret
    exact ⟨_, rfl, OwU.nil_ _ _, Below.refl _ _⟩
  | some ad =>
    have hb0 : Below w.heap.size w (w.alloc (.cells #[] 33)) := balloc (Below.refl _ _) _
    have hr1 := hr.below hb0
    have HR := Lib.hid hr1
    have HO := Lib.hid (made_empty w)
    clear hr hr1
    have hq := fun w => Lib.run_eql_slice_nil (P := Tryd.prog) w 22 33 (some ad) l.length c 0 0 Tryd.underlying22
    go_enter Tryd.func64, Tryd.ntmps64
    go_wp2_with (at_builtin; refine wpl_appU rfl (.tmp 5) (.tmp 6) rfl w.heap.size _ [] l rfl HO.out (some ad) c rfl HR.out ?hb1 ?hb2 ?_)
    case hb1 => simpa using hb
    case hb2 => simp
    intro v' w' ho hg
    have hbw := bown hb0 hg HO.out
    have H := Lib.hid (show OwU w' w.heap.size v' l by simpa using ho)
    clear ho hg
    go_wp2
    go_ret
    exact ⟨_, rfl, H.out, hbw⟩
end Go.Proofs.YtchbbldanmmpjaaDoor
