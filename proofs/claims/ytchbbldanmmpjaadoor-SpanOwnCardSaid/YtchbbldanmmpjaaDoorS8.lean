/- The walk of the reference's Copy of bits. -/
import Derived.Test.YtchbbldanmmpjaaDoorS7
import Derived.Deep.RegionLaw
namespace Go.Proofs.YtchbbldanmmpjaaDoor
open Go.RowKit
set_option linter.unusedVariables false
set_option linter.unusedSimpArgs false

theorem step_appU {ops : Array Oper} {o : Oper} {a : Act} {w : World} {K : Act → World → Prop} {Q : Exit → Act → World → Prop} {E : Prop}
    (hg : o.guard = none) (s x : Operand) (hop : o.op = Op.call { callee := Callee.builtin Builtin.append, args := #[s, x], argTypes := #[22, 22] })
    (base : Nat) (v : Value) (l0 l1 : List Int) (m c : Nat) (hm : l1.length = m) (A : Option Addr) (hs : a.eval s = v) (hx : a.eval x = .slice A m c)
    (hown : OwU w base v l0) (hr : RdU w A l1) (hbytes : (l0.length + l1.length) * 8 ≤ 140737488355328) (hbase : base ≤ w.heap.size)
    (h : ∀ v' w', OwU w' base v' (l0 ++ l1) → w.grownBy w' v.ownBlock → K (a.put o.dst v') w') :
    if Region.wanted o (yielded ops a.tmps) = true then Oper.wp Tryd.prog o a w K Q else E := by
  have hw : Region.wanted o (yielded ops a.tmps) = true := by simp [Region.wanted, hg]
  rw [if_pos hw]
  subst hm
  obtain ⟨v', w', hr', h2, h3⟩ := run_append_rd (P := Tryd.prog) w base 22 o.type 33 _ 1 8 Tryd.underlying22 info33 rfl (by omega) v l0.length (us l0) hown A l1.length c (us l1) hr (us_one l1) hbytes (by omega) hbase
  unfold Oper.wp execOp
  simp only [hop, resolve, invoke, builtin, Sem.run_bind, Sem.run_pure, Result.andThen_ok, List.map_toArray, List.map_cons, List.map_nil, hs, hx, hr']
  exact h _ _ (by unfold OwU; rw [List.length_append, show us (l0 ++ l1) = us l0 ++ us l1 from by simp [us]]; exact h2) h3

set_option maxRecDepth 100000 in
set_option maxHeartbeats 8000000 in
theorem copy61 (v : BitV) (b : BitB) (w : World) (h : RdB w v b) (hb : b.w.length * 8 ≤ 140737488355328) : Calls Tryd.prog 61 #[v.v] w (RetB b w) := by
  have hn := h.n
  have hm := h.m
  have HR := Lib.hid h.row
  clear h
  obtain ⟨n, A, m, c⟩ := v
  simp only at hn hm HR
  subst hn
  subst hm
  unfold BitV.v
  have hb0 : Below w.heap.size w ((w.alloc (.cells #[.int .i64 b.n, .slice A b.w.length c] 24)).alloc (.cells #[.int .i64 0, .slice none 0 0] 24)) := balloc (balloc (Below.refl _ _) _) _
  have hs2 : ((w.alloc (.cells #[.int .i64 b.n, .slice A b.w.length c] 24)).alloc (.cells #[.int .i64 0, .slice none 0 0] 24)).heap.size = w.heap.size + 2 := by simp
  have F1 : ((w.alloc (.cells #[.int .i64 b.n, .slice A b.w.length c] 24)).alloc (.cells #[.int .i64 0, .slice none 0 0] 24)).cell? ⟨w.heap.size, 0, none⟩ = some (.int .i64 b.n) := by go_simp
  have F2 : ((w.alloc (.cells #[.int .i64 b.n, .slice A b.w.length c] 24)).alloc (.cells #[.int .i64 0, .slice none 0 0] 24)).cell? ⟨w.heap.size, 1, none⟩ = some (.slice A b.w.length c) := by go_simp
  have F3 : ((w.alloc (.cells #[.int .i64 b.n, .slice A b.w.length c] 24)).alloc (.cells #[.int .i64 0, .slice none 0 0] 24)).cell? ⟨w.heap.size + 1, 0, none⟩ = some (.int .i64 0) := by go_simp
  have F4 : ((w.alloc (.cells #[.int .i64 b.n, .slice A b.w.length c] 24)).alloc (.cells #[.int .i64 0, .slice none 0 0] 24)).cell? ⟨w.heap.size + 1, 1, none⟩ = some (.slice none 0 0) := by go_simp
  have Z2 : ((w.alloc (.cells #[.int .i64 b.n, .slice A b.w.length c] 24)).alloc (.cells #[.int .i64 0, .slice none 0 0] 24)).frozen? ⟨w.heap.size + 1, 0, none⟩ = false := by go_simp
  have Z3 : ((w.alloc (.cells #[.int .i64 b.n, .slice A b.w.length c] 24)).alloc (.cells #[.int .i64 0, .slice none 0 0] 24)).frozen? ⟨w.heap.size + 1, 1, none⟩ = false := by go_simp
  go_enter Tryd.func61, Tryd.ntmps61
  go_wp2_with fail
  generalize (w.alloc (.cells #[.int .i64 b.n, .slice A b.w.length c] 24)).alloc (.cells #[.int .i64 0, .slice none 0 0] 24) = w0 at *
  have hba : Below w0.heap.size w0 (w0.alloc (.cells #[] 33)).drew := (balloc (Below.refl _ w0) _).drew
  have HBa := Lib.hid (bthen hb0 hba)
  have HOa : Hid (OwU (w0.alloc (.cells #[] 33)).drew (w.heap.size + 2) (.slice (some ⟨w.heap.size + 2, 0, none⟩) 0 0) []) := by
    show OwU _ _ _ _
    rw [← hs2]
    exact (made_empty w0).below (Below.refl _ _).drew
  have HRa := Lib.hid (HR.out.below HBa.out)
  have HY : Hid ((([] : List Int).length + b.w.length) * 8 ≤ 140737488355328) := by show _ ≤ _; simpa using hb
  have HS : Hid ((w.heap.size + 2) ≤ (w0.alloc (.cells #[] 33)).drew.heap.size) := by
    show _ ≤ _
    rw [← hs2]
    exact hba.size
  have GC : Hid (∀ v1 w2, OwU w2 (w.heap.size + 2) v1 b.w → (w0.alloc (.cells #[] 33)).drew.grownBy w2 (Value.ownBlock (.slice (some ⟨w.heap.size + 2, 0, none⟩) 0 0)) → Below w0.heap.size w0 w2) := fun v1 w2 _ hg => bgrown hba hg (fun k hk => by cases hk; rw [hs2]; exact Nat.le_refl _)
  clear hba
  go_region_law (refine step_appU rfl (.tmp 5) (.tmp 7) rfl (w.heap.size + 2) (.slice (some ⟨w.heap.size + 2, 0, none⟩) 0 0) [] b.w b.w.length c rfl A rfl rfl HOa.out HRa.out HY.out HS.out ?_; intro v1 w2 ho hg; have ho : OwU w2 (w.heap.size + 2) v1 b.w := ho; have hbw := GC.out v1 w2 ho hg; have f1 := cell_later hbw F1; have f2 := cell_later hbw F2; have f3 := cell_later hbw F3; have f4 := cell_later hbw F4; have z2 : w2.frozen? ⟨w.heap.size + 1, 0, none⟩ = false := (hbw.frozen (p := ⟨w.heap.size + 1, 0, none⟩) (by rw [hs2]; show _ < _; simp)).trans Z2; have z3 : w2.frozen? ⟨w.heap.size + 1, 1, none⟩ = false := (hbw.frozen (p := ⟨w.heap.size + 1, 1, none⟩) (by rw [hs2]; show _ < _; simp)).trans Z3; obtain ⟨A1, c1, hv1, hc1, hr1⟩ := ho.shape; subst hv1; have HC := Lib.hid hc1; clear hc1 hr1; have HO := Lib.hid ho; have HB2 := Lib.hid (bthen hb0 hbw); clear ho hg hbw F1 F2 F3 F4 Z2 Z3)
  all_goals
    go_wp2
    have n3 : (⟨w.heap.size + 1, 0, none⟩ : Addr) ≠ ⟨w.heap.size + 1, 1, none⟩ := by simp
    have n4 : (⟨w.heap.size + 1, 1, none⟩ : Addr) ≠ ⟨w.heap.size + 1, 0, none⟩ := by simp
    have e1 : (w2.setCell ⟨w.heap.size + 1, 0, none⟩ (.int .i64 b.n)).cell? ⟨w.heap.size + 1, 0, none⟩ = some (.int .i64 b.n) := World.cell?_setCell_same _ _ _ f3
    have e2 : ((w2.setCell ⟨w.heap.size + 1, 0, none⟩ (.int .i64 b.n)).setCell ⟨w.heap.size + 1, 1, none⟩ (.slice A1 b.w.length c1)).cell? ⟨w.heap.size + 1, 1, none⟩ = some (.slice A1 b.w.length c1) :=
      World.cell?_setCell_same _ _ _ ((World.cell?_setCell_other (h := n3) ..).trans f4)
    have e3 : ((w2.setCell ⟨w.heap.size + 1, 0, none⟩ (.int .i64 b.n)).setCell ⟨w.heap.size + 1, 1, none⟩ (.slice A1 b.w.length c1)).cell? ⟨w.heap.size + 1, 0, none⟩ = some (.int .i64 b.n) :=
      (World.cell?_setCell_other (h := n4) ..).trans e1
    refine bodyPost_ret (by simp [results, Tryd.results61, go_sem, e1, e2, e3]; rfl) rfl ?_
    exact ⟨⟨b.n, A1, b.w.length, c1⟩, rfl, rfl, rfl, HC.out, OwU.mono (ownsRow_setCell_below (ownsRow_setCell_below HO.out (by show _ < _; simp) _) (by show _ < _; simp) _) (by omega), (HB2.out.setCell (by simp) _).setCell (by simp) _⟩
end Go.Proofs.YtchbbldanmmpjaaDoor
