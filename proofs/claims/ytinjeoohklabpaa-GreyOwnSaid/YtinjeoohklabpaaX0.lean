/- A row of words in memory that is being sorted: how it reads, what a swap does. -/
import Derived.Test.YtinjeoohklabpaaW0
import Derived.Test.YtinjeoohklabpaaProg
import Derived.Sort.Row
import Derived.Sort.AssemblyPlain
import Derived.Sort.LotD3
import Derived.BigGuard
import Derived.BigCall
import Derived.CellFam
import Derived.Deep.Draws
import Derived.BigRegion
namespace Go.Proofs.Ytinjeoohklabpaa
open Go.RowKit Go.Sort
set_option linter.unusedVariables false
set_option linter.unusedSimpArgs false

/-- The block g holds d, from its first cell on, and may be written. -/
def HU (w : World) (g : Nat) (d : Array Int) : Prop := ∀ j, j < d.size → w.cell? ⟨g, j, none⟩ = some (.int .u64 d[j]!) ∧ w.frozen? ⟨g, j, none⟩ = false
theorem HU.drewN {w : World} {g : Nat} {d : Array Int} (h : HU w g d) (n : Nat) : HU (w.drewN n) g d := h
theorem HU.lt {w : World} {g : Nat} {d : Array Int} (h : HU w g d) (hd : 0 < d.size) : g < w.heap.size := World.block_lt_of_cell? w ⟨g, 0, none⟩ (h 0 hd).1
theorem HU.grown {w w' : World} {g : Nat} {d : Array Int} {r : Option Nat} (h : HU w g d) (hg : w.grownBy w' r) (hr : r ≠ some g) : HU w' g d := fun j hj => by
  have hlt := h.lt (Nat.lt_of_le_of_lt (Nat.zero_le _) hj)
  have hb := hg.block g hlt (fun e => hr e.symm)
  obtain ⟨h1, h2⟩ := h j hj
  exact ⟨by unfold World.cell? at h1 ⊢; simp only at h1 ⊢; rw [hb]; exact h1, by unfold World.frozen? at h2 ⊢; simp only at h2 ⊢; rw [hb]; exact h2⟩
theorem HU.below {w w' : World} {g : Nat} {d : Array Int} (h : HU w g d) (hb : Below w.heap.size w w') : HU w' g d := h.grown (gbelow hb none) (by simp)
theorem HU.swp {w : World} {g : Nat} {d : Array Int} (h : HU w g d) {j k : Nat} (hj : j < d.size) (hk : k < d.size) (n : Nat) :
    HU (((w.drewN n).setCell ⟨g, j, none⟩ (.int .u64 d[k]!)).setCell ⟨g, k, none⟩ (.int .u64 d[j]!)) g (swp d j k) := by
  have h0 := h.drewN n
  intro t ht
  rw [size_swp] at ht
  refine ⟨?_, by rw [World.frozen?_setCell, World.frozen?_setCell]; exact (h0 t ht).2⟩
  by_cases e : t = k
  · subst e
    by_cases e2 : j = t
    · subst e2
      have h1 := World.cell?_setCell_same (w.drewN n) ⟨g, j, none⟩ (.int .u64 d[j]!) (h0 j ht).1
      rw [World.cell?_setCell_same _ _ _ h1]
      unfold Go.Sort.swp
      rw [Go.Sort.getElem!_set_same _ _ _ (by rw [Array.size_setIfInBounds]; exact ht)]
    · have h1 : ((w.drewN n).setCell ⟨g, j, none⟩ (.int .u64 d[t]!)).cell? ⟨g, t, none⟩ = some (.int .u64 d[t]!) := (World.cell?_setCell_other (h := fun e' => e2 (Addr.mk.inj e').2.1) ..).trans (h0 t ht).1
      rw [World.cell?_setCell_same _ _ _ h1, swp_right d j t ht]
  · rw [World.cell?_setCell_other (h := fun e' => e (Addr.mk.inj e').2.1.symm)]
    by_cases e2 : t = j
    · subst e2
      rw [World.cell?_setCell_same _ _ _ (h0 t ht).1, swp_left d t k ht (fun e' => e e')]
    · rw [World.cell?_setCell_other (h := fun e' => e2 (Addr.mk.inj e').2.1.symm), swp_other d j k t e2 e]
      exact (h0 t ht).1
theorem gset {w w' : World} {g : Nat} (h : w.grownBy w' (some g)) (o : Nat) (u : Value) : w.grownBy (w'.setCell ⟨g, o, none⟩ u) (some g) :=
  ⟨h.os, h.tape, h.output, by simpa using h.size, fun k hk hr => (Below.heap_setCell w' ⟨g, o, none⟩ u k (fun e => hr (by rw [e]))).trans (h.block k hk hr)⟩
theorem gdrewN {w w' : World} {r : Option Nat} (h : w.grownBy w' r) (n : Nat) : w.grownBy (w'.drewN n) r := ⟨h.os, h.tape, h.output, h.size, h.block⟩
theorem gswp {w w' : World} {g : Nat} (h : w.grownBy w' (some g)) (n j k : Nat) (u v : Value) : w.grownBy (((w'.drewN n).setCell ⟨g, j, none⟩ u).setCell ⟨g, k, none⟩ v) (some g) := gset (gset (gdrewN h n) j u) k v
/-- What a function of the sort leaves: the row holds what P tells. -/
def Srt (P : Array Int → Prop) (v : Value) (g : Nat) (w : World) (e : Ending) (w' : World) : Prop := ∃ d', P d' ∧ e = .returned v ∧ HU w' g d' ∧ w.grownBy w' (some g)
/-- The cells as a family, for the walk. -/
theorem HU.fam {w : World} {g n : Nat} {d : Array Int} (h : HU w g d) (hs : d.size = n) : ∃ G : Nat → Int, (∀ t, G t = d[t]!) ∧ (∀ t, t < n → w.cell? ⟨g, t, none⟩ = some (.int .u64 (G t))) ∧ (∀ t, t < n → w.frozen? ⟨g, t, none⟩ = false) :=
  ⟨fun t => d[t]!, fun _ => rfl, fun t ht => (h t (by omega)).1, fun t ht => (h t (by omega)).2⟩

theorem wrap_i64 {x : Int} (h : -9223372036854775808 ≤ x ∧ x ≤ 9223372036854775807) : IntKind.i64.wrap x = x := by rw [IntKind.wrap_i64]; omega
theorem nan_u64 (x : Int) (w : World) : Calls Try.prog 58 #[.int .u64 x] w fun e w' => e = .returned (.bool false) ∧ w' = w := by
  go_enter Try.func58, Try.ntmps58
  go_wp2
  go_ret
  exact ⟨by simp, rfl⟩
theorem less_u64 (x y : Int) (w : World) : Calls Try.prog 48 #[.int .u64 x, .int .u64 y] w fun e w' => e = .returned (.bool (ltInt x y)) ∧ w' = w := by
  go_enter Try.func48, Try.ntmps48
  go_wp2_with (go_at_call 58; refine (nan_u64 _ _).mono ?_; rintro e w' ⟨rfl, rfl⟩)
  go_ret
  exact ⟨rfl, rfl⟩
/-- A call that only computes, in a region behind another one that drew. -/
theorem quietB {f : FuncId} {args : Array Value} {w : World} {a n : Nat} {v : Value} (h : ∀ W, Calls Try.prog f args W fun e w' => e = .returned v ∧ w' = W) :
    Calls Try.prog f args (w.drewN (a + n)) fun e w'' => e = .returned v ∧ ∃ k, w'' = w.drewN (a + k) :=
  (h (w.drewN (a + n))).mono fun _ _ ⟨h1, h2⟩ => ⟨h1, n, h2⟩
end Go.Proofs.Ytinjeoohklabpaa
