/- The walks of what copies. -/
import Derived.Test.YtiapiajldchnmaaW5
namespace Go.Proofs.Ytiapiajldchnmaa
open Go.RowKit
set_option linter.unusedVariables false
set_option linter.unusedSimpArgs false

theorem info41 : (Try.prog.info? 41).map (fun i => (i.zero, i.size, i.bytes)) = some (some (.agg #[.int .u64 0, .int .u8 0, .int .u64 0]), 3, 24) := by kernel_rfl
def OwS (w : World) (base : Nat) (v : Value) (l : List Sp) : Prop := w.ownsRow base 41 3 v l.length (fl l)
theorem OwS.nil_ (w : World) (base : Nat) : OwS w base (.slice none 0 0) [] := World.ownsRow_nil w base 41 3
theorem OwS.shape {w : World} {base : Nat} {v : Value} {l : List Sp} (h : OwS w base v l) : ∃ A c, v = .slice A l.length c ∧ l.length ≤ c ∧ RdS w A l := by
  obtain ⟨A, c, rfl, h1, h2⟩ := own_shape h
  exact ⟨A, c, rfl, h1, own_rd h⟩
theorem OwS.below {w w1 : World} {base : Nat} {v : Value} {l : List Sp} (h : OwS w base v l) (hb : Below w.heap.size w w1) : OwS w1 base v l := own_below h hb
theorem OwS.mono {w : World} {base base' : Nat} {v : Value} {l : List Sp} (h : OwS w base v l) (hb : base' ≤ base) : OwS w base' v l := own_mono h hb
theorem OwS.len {w : World} {base : Nat} {v : Value} {l : List Sp} (h : OwS w base v l) : l.length ≤ 9223372036854775807 := by
  obtain ⟨A, c, _, _, hr⟩ := h.shape
  exact hr.len
/-- A row that was written, or a new one, is the call's own. -/
theorem bown {w W W' : World} {v : Value} {l : List Sp} (h : Below w.heap.size w W) (hg : W.grownBy W' v.ownBlock) (ho : OwS W w.heap.size v l) : Below w.heap.size w W' :=
  bgrown h hg (fun k hk => (ho.lt k hk).1)
theorem made_empty (w : World) : OwS (w.alloc (.cells #[] 41)) w.heap.size (.slice (some ⟨w.heap.size, 0, none⟩) 0 0) [] := World.ownsRow_made w #[] 0 (Nat.le_refl _) (by simp [maxLen]) (by simp)

theorem wpl_appS {ops : Array Oper} {rest : List Oper} {o : Oper} {a : Act} {w : World} {Q : Exit → Act → World → Prop} (hgd : o.guard = none) (s x : Operand)
    (ho : o.op = .call { callee := .builtin .append, args := #[s, x], argTypes := #[22, 22] })
    (base : Nat) (v : Value) (l0 l1 : List Sp) (hs : a.eval s = v) (hown : OwS w base v l0) (A : Option Addr) (c : Nat) (hx : a.eval x = .slice A l1.length c) (hr : RdS w A l1)
    (hbytes : (l0.length + l1.length) * 24 ≤ 140737488355328) (hbase : base ≤ w.heap.size)
    (h : ∀ v' w', OwS w' base v' (l0 ++ l1) → w.grownBy w' v.ownBlock → wpList Try.prog ops Q rest (a.put o.dst v') w') : wpList Try.prog ops Q (o :: rest) a w :=
  wpl_append_rd hgd s x 22 ho base 41 _ 3 24 Try.underlying22 info41 rfl (by omega) v l0.length (fl l0) hs hown A l1.length c (fl l1) hx hr (fl_one l1) hbytes (by omega) hbase
    (fun v' w' h1 h2 => h v' w' (by unfold OwS; rw [List.length_append, fl_append]; exact h1) h2)

def RetS (l : List Sp) (w : World) (e : Ending) (w' : World) : Prop := ∃ v, e = .returned v ∧ OwS w' w.heap.size v l ∧ Below w.heap.size w w'

theorem copy9 (l : List Sp) (A : Option Addr) (c : Nat) (w : World) (hr : RdS w A l) (hb : l.length * 24 ≤ 140737488355328) : Calls Try.prog 9 #[.slice A l.length c] w (RetS l w) := by
  have hl := hr.len
  have hb0 : Below w.heap.size w (w.alloc (.cells #[] 41)) := balloc (Below.refl _ _) _
  have hr1 := hr.below hb0
  have HR := Lib.hid hr1
  have HO := Lib.hid (made_empty w)
  clear hr hr1
  go_enter Try.func9, Try.ntmps9
  go_wp2_with (at_builtin; refine wpl_appS rfl (.tmp 3) (.tmp 4) rfl w.heap.size _ [] l rfl HO.out A c rfl HR.out ?hb1 ?hb2 ?_)
  case hb1 => simpa using hb
  case hb2 => simp
  intro v' w' ho hg
  have hbw := bown hb0 hg HO.out
  have H := Lib.hid (show OwS w' w.heap.size v' l by simpa using ho)
  clear ho hg
  go_wp2
  go_ret
  exact ⟨_, rfl, H.out, hbw⟩

theorem clone22 (l : List Sp) (A : Option Addr) (c : Nat) (w : World) (hr : RdS w A l) (hb : l.length * 24 ≤ 140737488355328) : Calls Try.prog 22 #[.slice A l.length c] w (RetS l w) := by
  have hl := hr.len
  cases A with
  | none =>
    have e : l = [] := by
      cases l with
      | nil => rfl
      | cons x r => obtain ⟨b, o, e, _⟩ := hr.2.2 (by simp); cases e
    subst e
    clear hr hb hl
    have hq := fun w => Lib.run_eql_slice_nil (P := Try.prog) w 22 41 none 0 c 0 0 Try.underlying22
    go_enter Try.func22, Try.ntmps22
    go_wp2
    go_ret
    exact ⟨_, rfl, OwS.nil_ _ _, Below.refl _ _⟩
  | some ad =>
    have hb0 : Below w.heap.size w (w.alloc (.cells #[] 41)) := balloc (Below.refl _ _) _
    have hr1 := hr.below hb0
    have HR := Lib.hid hr1
    have HO := Lib.hid (made_empty w)
    clear hr hr1
    have hq := fun w => Lib.run_eql_slice_nil (P := Try.prog) w 22 41 (some ad) l.length c 0 0 Try.underlying22
    go_enter Try.func22, Try.ntmps22
    go_wp2_with (at_builtin; refine wpl_appS rfl (.tmp 5) (.tmp 6) rfl w.heap.size _ [] l rfl HO.out (some ad) c rfl HR.out ?hb1 ?hb2 ?_)
    case hb1 => simpa using hb
    case hb2 => simp
    intro v' w' ho hg
    have hbw := bown hb0 hg HO.out
    have H := Lib.hid (show OwS w' w.heap.size v' l by simpa using ho)
    clear ho hg
    go_wp2
    go_ret
    exact ⟨_, rfl, H.out, hbw⟩
end Go.Proofs.Ytiapiajldchnmaa
