/- The walks of nextPowerOfTwo and of xorshift's Next. -/
import Derived.Test.YtinjeoohklabpaaX6
import Derived.Laws.BitsLemmas
namespace Go.Proofs.Ytinjeoohklabpaa
open Go.RowKit Go.Sort
set_option linter.unusedVariables false
set_option linter.unusedSimpArgs false

theorem u64_wrap (n : Int) : IntKind.u64.wrap n = n % 18446744073709551616 := by simp [IntKind.wrap, IntKind.bits, IntKind.signed]
theorem xor_range (x y : Int) : 0 ≤ Go.bits .xor .u64 x y ∧ Go.bits .xor .u64 x y < 18446744073709551616 := by
  unfold Go.bits
  simp only [u64_wrap]
  omega
set_option maxHeartbeats 4000000 in
theorem next_pow (l : Nat) (w : World) (h1 : 1 ≤ l) (h2 : l ≤ 1000000) : Calls Try.prog 54 #[.int .i64 l] w fun e w' => (∃ m : Nat, e = .returned (.int .u64 m) ∧ 1 ≤ m ∧ m ≤ 2 * l) ∧ w' = w := by
  have hb := two_pow_bitsLen_le (n := l) h1
  have hk : bitsLen l ≤ 20 := (bitsLen_le_iff l 20).2 (by omega)
  obtain ⟨k, hkk⟩ : ∃ k, k = bitsLen l := ⟨_, rfl⟩
  have CL : Hid (∀ W, Calls Try.prog 39 #[.int .u64 l] W fun e w' => e = .returned (.int .i64 (k : Nat)) ∧ w' = W) := fun W => by rw [hkk]; exact len_u l W h2
  rw [← hkk] at hb hk
  have HB := Lib.hid hb
  clear hkk hb
  go_enter Try.func54, Try.ntmps54
  go_wp2_with (go_at_call 39; refine (CL.out _).mono ?_; rintro e w' ⟨rfl, rfl⟩)
  go_ret
  have e : IntKind.u64.wrap ((2 : Int) ^ k) = ((2 ^ k : Nat) : Int) := by
    have h3 : (2 : Nat) ^ k ≤ 2 ^ 20 := Nat.pow_le_pow_right (by decide) hk
    have h4 : ((2 ^ k : Nat) : Int) = (2 : Int) ^ k := by simp
    have h5 : (2 : Nat) ^ 20 = 1048576 := by decide
    rw [← h4, u64_wrap]
    generalize 2 ^ k = c at *
    omega
  exact ⟨⟨2 ^ k, by rw [← e]; rfl, Nat.one_le_two_pow, HB.out⟩, rfl⟩
/-- A variable that holds a word. -/
def Sx (w : World) (s : Nat) (x : Int) : Prop := w.cell? ⟨s, 0, none⟩ = some (.int .u64 x) ∧ w.frozen? ⟨s, 0, none⟩ = false
theorem Sx.set {w : World} {s : Nat} {x : Int} (h : Sx w s x) (y : Int) : Sx (w.setCell ⟨s, 0, none⟩ (.int .u64 y)) s y := ⟨World.cell?_setCell_same _ _ _ h.1, by rw [World.frozen?_setCell]; exact h.2⟩
def Nxt (s : Nat) (w : World) (e : Ending) (w' : World) : Prop := ∃ y : Int, (0 ≤ y ∧ y < 18446744073709551616) ∧ e = .returned (.int .u64 y) ∧ Sx w' s y ∧ w.grownBy w' (some s)
set_option maxHeartbeats 4000000 in
theorem xor_next (s : Nat) (x : Int) (w : World) (hs : Sx w s x) : Calls Try.prog 55 #[.pointer (some ⟨s, 0, none⟩)] w (Nxt s w) := by
  have HS := Lib.hid hs
  obtain ⟨hs1, hs2⟩ := hs
  have hs3 : ∀ u v t, (((w.setCell ⟨s, 0, none⟩ u).setCell ⟨s, 0, none⟩ v).setCell ⟨s, 0, none⟩ t).cell? ⟨s, 0, none⟩ = some t := fun u v t => World.cell?_setCell_same _ _ _ (World.cell?_setCell_same _ _ _ (World.cell?_setCell_same _ _ _ hs1))
  go_enter Try.func55, Try.ntmps55
  go_wp2
  go_region
  all_goals go_wp2
  go_region
  all_goals go_wp2
  go_region
  all_goals go_wp2
  go_ret
  exact ⟨_, xor_range _ _, rfl, ⟨hs3 _ _ _, by go_simp⟩, ⟨rfl, rfl, rfl, by simp, fun k hk hr => by
    have hne : k ≠ s := fun e => hr (by rw [e])
    show (((w.setCell _ _).setCell _ _).setCell _ _).heap[k]? = _
    rw [Below.heap_setCell _ _ _ k hne, Below.heap_setCell _ _ _ k hne, Below.heap_setCell _ _ _ k hne]⟩⟩
end Go.Proofs.Ytinjeoohklabpaa
