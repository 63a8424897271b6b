/- The walk of bits.Own. -/
import Derived.Test.YtchbbldanmmpjaaDoorS6
import Derived.Handy
namespace Go.Proofs.YtchbbldanmmpjaaDoor
open Go.RowKit
set_option linter.unusedVariables false
set_option linter.unusedSimpArgs false

/-- Bits that were made: their words are of the call's own. -/
def RetB (b : BitB) (w : World) (e : Ending) (w' : World) : Prop := ∃ v : BitV, e = .returned v.v ∧ v.n = b.n ∧ v.m = b.w.length ∧ v.m ≤ v.c ∧ OwU w' w.heap.size (.slice v.A v.m v.c) b.w ∧ Below w.heap.size w w'

set_option maxRecDepth 100000 in
set_option maxHeartbeats 8000000 in
theorem own37 (v : BitV) (b : BitB) (w : World) (h : RdB w v b) (hb : b.w.length * 8 ≤ 140737488355328) : Calls Tryd.prog 37 #[v.v] w (RetB b w) := by
  have hn := h.n
  have hm := h.m
  have HR := Lib.hid h.row
  clear h
  obtain ⟨n, A, m, c⟩ := v
  simp only at hn hm HR
  subst hn
  subst hm
  unfold BitV.v
  have hb0 : Below w.heap.size w ((w.alloc (.cells #[.int .i64 b.n, .slice A b.w.length c] 24)).alloc (.cells #[.int .i64 0, .slice none 0 0] 24)) := balloc (balloc (Below.refl _ _) _) _
  have C64 := Lib.hid (clone64 b.w A c _ (HR.out.below hb0) hb)
  have F1 : Hid (((w.alloc (.cells #[.int .i64 b.n, .slice A b.w.length c] 24)).alloc (.cells #[.int .i64 0, .slice none 0 0] 24)).cell? ⟨w.heap.size, 0, none⟩ = some (.int .i64 b.n)) := by show _ = _; go_simp
  have F2 : Hid (((w.alloc (.cells #[.int .i64 b.n, .slice A b.w.length c] 24)).alloc (.cells #[.int .i64 0, .slice none 0 0] 24)).cell? ⟨w.heap.size, 1, none⟩ = some (.slice A b.w.length c)) := by show _ = _; go_simp
  have F3 : Hid (((w.alloc (.cells #[.int .i64 b.n, .slice A b.w.length c] 24)).alloc (.cells #[.int .i64 0, .slice none 0 0] 24)).cell? ⟨w.heap.size + 1, 0, none⟩ = some (.int .i64 0)) := by show _ = _; go_simp
  have F4 : Hid (((w.alloc (.cells #[.int .i64 b.n, .slice A b.w.length c] 24)).alloc (.cells #[.int .i64 0, .slice none 0 0] 24)).cell? ⟨w.heap.size + 1, 1, none⟩ = some (.slice none 0 0)) := by show _ = _; go_simp
  have HB0 := Lib.hid hb0
  clear hb0
  go_enter Tryd.func37, Tryd.ntmps37
  go_wp2_with fail
  refine C64.out.mono ?_
  rintro e w1 ⟨v1, rfl, ho, hb1⟩
  obtain ⟨A1, c1, rfl, hc1, hr1⟩ := ho.shape
  have hs2 : ((w.alloc (.cells #[.int .i64 b.n, .slice A b.w.length c] 24)).alloc (.cells #[.int .i64 0, .slice none 0 0] 24)).heap.size = w.heap.size + 2 := by simp
  rw [hs2] at ho
  have f1 := cell_later hb1 F1.out
  have f2 := cell_later hb1 F2.out
  have f3 := cell_later hb1 F3.out
  have f4 := cell_later hb1 F4.out
  have z0 : ∀ k, k = w.heap.size ∨ k = w.heap.size + 1 → ∀ j, w1.frozen? ⟨k, j, none⟩ = false := by
    intro k hk j
    rw [hb1.frozen (p := ⟨k, j, none⟩) (by rw [hs2]; show k < _; omega)]
    rcases hk with rfl | rfl <;> go_simp
  have z1 := z0 w.heap.size (.inl rfl) 1
  have z2 := z0 (w.heap.size + 1) (.inr rfl) 0
  have z3 := z0 (w.heap.size + 1) (.inr rfl) 1
  have HO := Lib.hid ho
  have HB1 := Lib.hid (bthen HB0.out hb1)
  have HC := Lib.hid hc1
  clear hb1 ho hr1 hc1 z0 F1 F2 F3 F4 HB0 hs2
  go_wp2
  have n1 : (⟨w.heap.size, 1, none⟩ : Addr) ≠ ⟨w.heap.size + 1, 0, none⟩ := by simp
  have n2 : (⟨w.heap.size, 1, none⟩ : Addr) ≠ ⟨w.heap.size + 1, 1, none⟩ := by simp
  have n3 : (⟨w.heap.size + 1, 0, none⟩ : Addr) ≠ ⟨w.heap.size + 1, 1, none⟩ := by simp
  have n4 : (⟨w.heap.size + 1, 1, none⟩ : Addr) ≠ ⟨w.heap.size + 1, 0, none⟩ := by simp
  have e1 : ((w1.setCell ⟨w.heap.size, 1, none⟩ (.slice A1 b.w.length c1)).setCell ⟨w.heap.size + 1, 0, none⟩ (.int .i64 b.n)).cell? ⟨w.heap.size + 1, 0, none⟩ = some (.int .i64 b.n) :=
    World.cell?_setCell_same _ _ _ ((World.cell?_setCell_other (h := n1) ..).trans f3)
  have e2 : (((w1.setCell ⟨w.heap.size, 1, none⟩ (.slice A1 b.w.length c1)).setCell ⟨w.heap.size + 1, 0, none⟩ (.int .i64 b.n)).setCell ⟨w.heap.size + 1, 1, none⟩ (.slice A1 b.w.length c1)).cell? ⟨w.heap.size + 1, 1, none⟩ = some (.slice A1 b.w.length c1) :=
    World.cell?_setCell_same _ _ _ ((World.cell?_setCell_other (h := n3) ..).trans ((World.cell?_setCell_other (h := n2) ..).trans f4))
  have e3 : (((w1.setCell ⟨w.heap.size, 1, none⟩ (.slice A1 b.w.length c1)).setCell ⟨w.heap.size + 1, 0, none⟩ (.int .i64 b.n)).setCell ⟨w.heap.size + 1, 1, none⟩ (.slice A1 b.w.length c1)).cell? ⟨w.heap.size + 1, 0, none⟩ = some (.int .i64 b.n) :=
    (World.cell?_setCell_other (h := n4) ..).trans e1
  refine bodyPost_ret (by simp [results, Tryd.results37, go_sem, e1, e2, e3]; rfl) rfl ?_
  exact ⟨⟨b.n, A1, b.w.length, c1⟩, rfl, rfl, rfl, HC.out, OwU.mono (ownsRow_setCell_below (ownsRow_setCell_below (ownsRow_setCell_below HO.out (by show _ < _; simp) _) (by show _ < _; simp) _) (by show _ < _; simp) _) (by omega), ((HB1.out.setCell (by simp) _).setCell (by simp) _).setCell (by simp) _⟩
end Go.Proofs.YtchbbldanmmpjaaDoor
