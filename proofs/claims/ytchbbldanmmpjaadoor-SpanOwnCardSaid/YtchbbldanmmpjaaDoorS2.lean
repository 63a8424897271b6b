/- The walks of bits.Is and of the reference's. -/
import Derived.Test.YtchbbldanmmpjaaDoorS1
import Derived.Test.YtchbbldanmmpjaaDoorProg
import Derived.WalkKit
namespace Go.Proofs.YtchbbldanmmpjaaDoor
open Go.RowKit
set_option linter.unusedVariables false
set_option linter.unusedSimpArgs false

theorem tb (x : Int) (h : 0 ≤ x) (k : Nat) : (x / 2 ^ k % 2 == 1) = x.toNat.testBit k := by
  obtain ⟨n, rfl⟩ := Int.eq_ofNat_of_zero_le h
  rw [Int.toNat_natCast, Nat.testBit_eq_decide_div_mod_eq]
  have e : ((n : Int) / 2 ^ k % 2) = ((n / 2 ^ k % 2 : Nat) : Int) := by simp
  rw [e]
  by_cases hx : n / 2 ^ k % 2 = 1
  · simp [hx]
  · rw [decide_eq_false hx, beq_eq_false_iff_ne]; omega
theorem shr_lt (x : Int) (h : 0 ≤ x ∧ x < 18446744073709551616) (k : Nat) : 0 ≤ x / 2 ^ k ∧ x / 2 ^ k < 18446744073709551616 := by
  have hp : (0 : Int) < 2 ^ k := by exact_mod_cast Nat.pow_pos (by decide : 0 < 2)
  exact ⟨Int.ediv_nonneg h.1 (Int.le_of_lt hp), Int.lt_of_le_of_lt (Int.ediv_le_self _ h.1) h.2⟩

set_option maxRecDepth 100000 in
set_option maxHeartbeats 8000000 in
theorem is50 (v : BitV) (b : BitB) (i : Nat) (w : World) (h : RdB w v b) (hi : i / 64 < b.w.length) (hs : i ≤ 1000000) : Calls Tryd.prog 50 #[v.v, .int .i64 i] w (Ret (.bool (bitP b i)) w) := by
  have hx : b.w[i / 64]? = some b.w[i / 64] := List.getElem?_eq_getElem hi
  have hwd := h.words _ (List.getElem_mem hi)
  have E : Hid (bitP b i = (b.w[i / 64]).toNat.testBit (i % 64)) := by show _ = _; unfold bitP; rw [hx]
  obtain ⟨bk, o, hA, hB, hc⟩ := h.row.at_ hx
  have hm := h.m
  have hl := h.row.len
  generalize b.w[i / 64] = x at *
  obtain ⟨n, A, m, c⟩ := v
  simp only at hA hm
  subst hA
  have hc := cell_later (balloc (Below.refl _ w) (Obj.cells #[.int .i64 n, .slice (some ⟨bk, o, none⟩) m c] 24)) hc
  have q3 : ((i / 64 : Nat) : Int) < (m : Int) := by omega
  have HW := Lib.hid hwd
  unfold BitV.v
  clear hx hi h hm hwd
  go_enter Tryd.func50, Tryd.ntmps50
  go_wp2
  go_ret
  have h1 := shr_lt x HW.out (i % 64)
  rw [and_one_u64 _ h1.1 (by omega), tb x HW.out.1, E.out]
  exact ⟨rfl, balloc (Below.refl _ _) _⟩
set_option maxRecDepth 100000 in
set_option maxHeartbeats 8000000 in
theorem is51 (v : BitV) (b : BitB) (i : Nat) (w : World) (h : RdB w v b) (hi : i / 64 < b.w.length) (hs : i ≤ 1000000) : Calls Tryd.prog 51 #[v.v, .int .i64 i] w (Ret (.bool (bitP b i)) w) := by
  have hx : b.w[i / 64]? = some b.w[i / 64] := List.getElem?_eq_getElem hi
  have hwd := h.words _ (List.getElem_mem hi)
  have E : Hid (bitP b i = (b.w[i / 64]).toNat.testBit (i % 64)) := by show _ = _; unfold bitP; rw [hx]
  obtain ⟨bk, o, hA, hB, hc⟩ := h.row.at_ hx
  have hm := h.m
  have hl := h.row.len
  generalize b.w[i / 64] = x at *
  obtain ⟨n, A, m, c⟩ := v
  simp only at hA hm
  subst hA
  have hc := cell_later (balloc (Below.refl _ w) (Obj.cells #[.int .i64 n, .slice (some ⟨bk, o, none⟩) m c] 24)) hc
  have q3 : ((i / 64 : Nat) : Int) < (m : Int) := by omega
  have HW := Lib.hid hwd
  unfold BitV.v
  clear hx hi h hm hwd
  go_enter Tryd.func51, Tryd.ntmps51
  go_wp2
  go_ret
  have h1 := shr_lt x HW.out (i % 64)
  rw [Int.tmod_eq_emod_of_nonneg h1.1, tb x HW.out.1, E.out]
  exact ⟨rfl, balloc (Below.refl _ _) _⟩

/-! ### What makes bits right: the last word's high bits -/
theorem div_pow_zero (x : Int) (h : 0 ≤ x) (k : Nat) : x / 2 ^ k = 0 ↔ ∀ j, k ≤ j → x.toNat.testBit j = false := by
  obtain ⟨n, rfl⟩ := Int.eq_ofNat_of_zero_le h
  rw [Int.toNat_natCast]
  have e : ((n : Int) / 2 ^ k) = ((n / 2 ^ k : Nat) : Int) := by simp
  rw [e]
  constructor
  · intro h0 j hj
    have h1 : n / 2 ^ k = 0 := by omega
    have h2 : n < 2 ^ k := by
      rcases Nat.lt_or_ge n (2 ^ k) with h | h
      · exact h
      · have := Nat.div_pos h (Nat.pow_pos (by decide)); omega
    exact Nat.testBit_lt_two_pow (Nat.lt_of_lt_of_le h2 (Nat.pow_le_pow_right (by decide) hj))
  · intro h0
    have : n / 2 ^ k = 0 := by
      apply Nat.eq_of_testBit_eq
      intro j
      rw [Nat.testBit_div_two_pow, Nat.zero_testBit]
      exact h0 _ (by omega)
    omega
theorem okB_whole {b : BitB} (h0 : 0 ≤ b.n) (h1 : b.n ≤ 4096) (h2 : (b.w.length : Int) = (b.n + 63) / 64) (h3 : b.n % 64 = 0) : okB b = true := by
  unfold okB
  simp only [Bool.and_eq_true, decide_eq_true_eq, List.all_eq_true, List.mem_range, Bool.or_eq_true]
  exact ⟨h0, h1, h2, fun i hi => .inl (by omega)⟩
theorem okB_part {b : BitB} (h0 : 0 ≤ b.n) (h1 : b.n ≤ 4096) (h2 : (b.w.length : Int) = (b.n + 63) / 64) (h3 : 0 < b.n % 64) (hw : ∀ x ∈ b.w, 0 ≤ x ∧ x < 18446744073709551616) :
    ∃ x, b.w[b.w.length - 1]? = some x ∧ okB b = decide (x / 2 ^ (b.n % 64).toNat = 0) := by
  have hl : b.w.length - 1 < b.w.length := by omega
  refine ⟨b.w[b.w.length - 1], List.getElem?_eq_getElem hl, ?_⟩
  have hx := hw _ (List.getElem_mem hl)
  have e : okB b = true ↔ b.w[b.w.length - 1] / 2 ^ (b.n % 64).toNat = 0 := by
    rw [div_pow_zero _ hx.1]
    unfold okB
    simp only [Bool.and_eq_true, decide_eq_true_eq, List.all_eq_true, List.mem_range, Bool.or_eq_true, Bool.not_eq_true']
    constructor
    · intro ⟨_, _, _, h⟩ j hj
      by_cases hj64 : j < 64
      · rcases h (64 * (b.w.length - 1) + j) (by omega) with h | h
        · omega
        · unfold bitP at h
          rw [show (64 * (b.w.length - 1) + j) / 64 = b.w.length - 1 from by omega, List.getElem?_eq_getElem hl, show (64 * (b.w.length - 1) + j) % 64 = j from by omega] at h
          exact h
      · refine Nat.testBit_lt_two_pow (Nat.lt_of_lt_of_le ?_ (Nat.pow_le_pow_right (by decide) (Nat.le_of_not_lt hj64)))
        have e2 : (2 : Nat) ^ 64 = 18446744073709551616 := by decide
        rw [e2]
        omega
    · intro h
      refine ⟨h0, h1, h2, fun i hi => ?_⟩
      by_cases hin : (i : Int) < b.n
      · exact .inl hin
      · right
        unfold bitP
        rw [show i / 64 = b.w.length - 1 from by omega, List.getElem?_eq_getElem hl]
        exact h _ (by omega)
  by_cases hz : b.w[b.w.length - 1] / 2 ^ (b.n % 64).toNat = 0
  · rw [e.2 hz, decide_eq_true hz]
  · rw [decide_eq_false hz]
    cases h : okB b
    · rfl
    · exact absurd (e.1 h) hz
end Go.Proofs.YtchbbldanmmpjaaDoor
