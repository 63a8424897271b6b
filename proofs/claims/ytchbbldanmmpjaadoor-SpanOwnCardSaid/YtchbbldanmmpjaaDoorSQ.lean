/- The walk of put. -/
import Derived.Test.YtchbbldanmmpjaaDoorSP
namespace Go.Proofs.YtchbbldanmmpjaaDoor
open Go.RowKit
set_option linter.unusedVariables false
set_option linter.unusedSimpArgs false

def putW (x : Int) (j : Nat) (t : Bool) : Int := match t with | true => Go.bits .or .u64 x (IntKind.u64.wrap (2 ^ j)) | false => Go.bits .andNot .u64 x (IntKind.u64.wrap (2 ^ j))
def RetP (l : List Int) (base g m c : Nat) (w : World) (e : Ending) (w' : World) : Prop := e = .returned (.tuple #[]) ∧ OwU w' base (.slice (some ⟨g, 0, none⟩) m c) l ∧ w.grownBy w' (some g)
set_option maxRecDepth 100000 in
set_option maxHeartbeats 8000000 in
theorem put68 (b base g m c i : Nat) (l : List Int) (x : Int) (t : Bool) (w : World) (hc : w.cell? ⟨b, 1, none⟩ = some (.slice (some ⟨g, 0, none⟩) m c)) (ho : OwU w base (.slice (some ⟨g, 0, none⟩) m c) l) (hm : l.length = m)
    (hx : l[i / 64]? = some x) (hi : i ≤ 1000000) : Calls Tryd.prog 68 #[.pointer (some ⟨b, 0, none⟩), .int .i64 i, .bool t] w (RetP (l.set (i / 64) (putW x (i % 64) t)) base g m c w) := by
  have HO := Lib.hid ho
  have hlt : i / 64 < m := by rw [← hm]; exact (List.getElem?_eq_some_iff.1 hx).1
  obtain ⟨b1, o1, e1, _, cx⟩ := (ho.rd hm).at_ hx
  cases e1
  simp only [Nat.zero_add] at cx
  have hl := (ho.rd hm).len
  rw [hm] at hl
  have HX := Lib.hid hx
  have HM := Lib.hid hm
  have q3 : ((i / 64 : Nat) : Int) < (m : Int) := by omega
  clear ho hm hx
  have hw1 := wrap_in (x := (i : Int) / 64) (by omega)
  have hw2 : (i : Int).tmod 64 = (i : Int) % 64 := Int.tmod_eq_emod_of_nonneg (by omega)
  have q4 : 0 ≤ (i : Int) / 64 := by omega
  have q5 : ((i : Int) / 64).toNat = i / 64 := by omega
  have q6 : (i : Int) / 64 < (m : Int) := by omega
  have q7 : 0 ≤ (i : Int) % 64 := by omega
  have q8 : (i : Int) % 64 < 64 := by omega
  have q9 : ((i : Int) % 64).toNat = i % 64 := by omega
  have q10 : (i : Int) % 64 ≤ 64 := by omega
  clear q3
  have HOd := Lib.hid (HO.out.below (Below.refl w.heap.size w).drew)
  cases t
  · go_enter Tryd.func68, Tryd.ntmps68
    go_wp2
    go_still_tail 14, (by kernel_rfl)
    clear hw1 hw2 q5 q9
    refine wpl_stU rfl (.tmp 34) (.tmp 33) rfl base g m c l HOd.out HM.out (i / 64) _ rfl rfl hlt ?_
    intro w2 ho hg
    have H2 := Lib.hid ho
    have HG := Lib.hid (gtrans (gbelow (Below.refl w.heap.size w).drew _) hg)
    clear ho hg
    go_wp2
    go_end0
    exact ⟨rfl, H2.out, HG.out⟩
  · go_enter Tryd.func68, Tryd.ntmps68
    go_wp2
    go_still_tail 14, (by kernel_rfl)
    clear hw1 hw2 q5 q9
    refine wpl_stU rfl (.tmp 20) (.tmp 19) rfl base g m c l HOd.out HM.out (i / 64) _ rfl rfl hlt ?_
    intro w2 ho hg
    have H2 := Lib.hid ho
    have HG := Lib.hid (gtrans (gbelow (Below.refl w.heap.size w).drew _) hg)
    clear ho hg
    go_wp2
    go_end0
    exact ⟨rfl, H2.out, HG.out⟩
end Go.Proofs.YtchbbldanmmpjaaDoor
