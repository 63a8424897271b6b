/- The first bit that is so, plain. -/
import Derived.Test.YtchbbldanmmpjaaDoorSX
namespace Go.Proofs.YtchbbldanmmpjaaDoor
open Go.RowKit
set_option linter.unusedVariables false
set_option linter.unusedSimpArgs false

theorem p64 : (2 : Nat) ^ 64 = 18446744073709551616 := by decide
def notW (x : Int) : Int := Go.bits .xor .u64 (if IntKind.u64.signed = true then -1 else IntKind.u64.max) x
def maskW (k : Nat) : Int := IntKind.u64.wrap (18446744073709551615 * 2 ^ k)
def wordF (x : Int) (t at_ : Bool) (k : Nat) : Int := match t, at_ with
  | true, true => Go.bits .and .u64 x (maskW k)
  | true, false => x
  | false, true => Go.bits .and .u64 (notW x) (maskW k)
  | false, false => notW x
theorem u64_wrap (n : Int) : IntKind.u64.wrap n = n % 18446744073709551616 := by simp [IntKind.wrap, IntKind.bits, IntKind.signed]
theorem notW_eq (x : Int) (h : 0 ≤ x ∧ x < 18446744073709551616) : notW x = 18446744073709551615 - x := by
  obtain ⟨n, rfl⟩ := Int.eq_ofNat_of_zero_le h.1
  have hn : n < 18446744073709551616 := by omega
  show IntKind.u64.wrap (((BitVec.ofInt 64 (IntKind.u64.max)) ^^^ (BitVec.ofInt 64 (n : Int))).toNat : Int) = _
  have e1 : BitVec.ofInt 64 (IntKind.u64.max) = BitVec.allOnes 64 := by decide +kernel
  have e2 : BitVec.ofInt 64 (n : Int) = BitVec.ofNat 64 n := by rw [BitVec.ofInt_natCast]
  rw [e1, e2, BitVec.allOnes_xor, BitVec.toNat_not, BitVec.toNat_ofNat, p64, Nat.mod_eq_of_lt hn, u64_wrap]
  omega
theorem notW_bit (x : Int) (h : 0 ≤ x ∧ x < 18446744073709551616) (j : Nat) (hj : j < 64) : (notW x).toNat.testBit j = !x.toNat.testBit j := by
  rw [notW_eq x h]
  obtain ⟨n, rfl⟩ := Int.eq_ofNat_of_zero_le h.1
  have e : (18446744073709551615 - (n : Int)).toNat = 2 ^ 64 - (n + 1) := by rw [p64]; omega
  rw [e, Nat.testBit_two_pow_sub_succ (by rw [p64]; omega)]
  simp [hj]
theorem maskW_nat (k : Nat) (hk : k < 64) : (maskW k).toNat = 2 ^ 64 - 2 ^ k ∧ 0 ≤ maskW k ∧ maskW k < 18446744073709551616 := by
  have hp : 2 ^ k < 2 ^ 64 := Nat.pow_lt_pow_right (by decide) hk
  have hp0 : 0 < 2 ^ k := Nat.pow_pos (by decide)
  rw [p64] at hp
  have e : (18446744073709551615 * 2 ^ k : Int) = ((18446744073709551615 * 2 ^ k : Nat) : Int) := by rw [Int.natCast_mul, Int.natCast_pow]; rfl
  have e3 : (18446744073709551615 * 2 ^ k : Nat) % 18446744073709551616 = 18446744073709551616 - 2 ^ k := by
    have : 18446744073709551615 * 2 ^ k = (18446744073709551616 - 2 ^ k) + 18446744073709551616 * (2 ^ k - 1) := by omega
    rw [this, Nat.add_mul_mod_self_left, Nat.mod_eq_of_lt (by omega)]
  have e2 : maskW k = ((18446744073709551616 - 2 ^ k : Nat) : Int) := by
    unfold maskW
    rw [u64_wrap, e, ← e3]
    rfl
  rw [e2, p64]
  omega
theorem maskW_bit (k j : Nat) (hk : k < 64) (hj : j < 64) : (maskW k).toNat.testBit j = decide (k ≤ j) := by
  rw [(maskW_nat k hk).1]
  have e : 2 ^ 64 - 2 ^ k = 2 ^ 64 - ((2 ^ k - 1) + 1) := by have := Nat.pow_pos (n := k) (show 0 < 2 by decide); omega
  rw [e, Nat.testBit_two_pow_sub_succ (by have := Nat.pow_lt_pow_right (a := 2) (by decide) hk; omega), Nat.testBit_two_pow_sub_one]
  by_cases h : k ≤ j
  · simp [hj, h]
  · simp [hj, h]; omega
theorem and_bit (x y : Int) (hx : 0 ≤ x ∧ x < 18446744073709551616) (hy : 0 ≤ y ∧ y < 18446744073709551616) (j : Nat) : (Go.bits .and .u64 x y).toNat.testBit j = (x.toNat.testBit j && y.toNat.testBit j) := by
  rw [u64_and x y hx hy, Int.toNat_natCast, Nat.testBit_and]
theorem and_range (x y : Int) (hx : 0 ≤ x ∧ x < 18446744073709551616) (hy : 0 ≤ y ∧ y < 18446744073709551616) : 0 ≤ Go.bits .and .u64 x y ∧ Go.bits .and .u64 x y < 18446744073709551616 := by
  rw [u64_and x y hx hy]
  have : x.toNat &&& y.toNat ≤ x.toNat := Nat.and_le_left
  omega
theorem wordF_range (x : Int) (t a : Bool) (k : Nat) (h : 0 ≤ x ∧ x < 18446744073709551616) (hk : k < 64) : 0 ≤ wordF x t a k ∧ wordF x t a k < 18446744073709551616 := by
  have hm := (maskW_nat k hk).2
  have hn : 0 ≤ notW x ∧ notW x < 18446744073709551616 := by rw [notW_eq x h]; omega
  cases t <;> cases a
  · exact hn
  · exact and_range _ _ hn hm
  · exact h
  · exact and_range _ _ h hm
theorem wordF_bit (x : Int) (t a : Bool) (k : Nat) (h : 0 ≤ x ∧ x < 18446744073709551616) (hk : k < 64) (j : Nat) (hj : j < 64) : (wordF x t a k).toNat.testBit j = ((x.toNat.testBit j == t) && (!a || decide (k ≤ j))) := by
  have hm := (maskW_nat k hk).2
  have hn : 0 ≤ notW x ∧ notW x < 18446744073709551616 := by rw [notW_eq x h]; omega
  cases t <;> cases a <;> unfold wordF <;> simp only
  · rw [notW_bit x h j hj]; simp
  · rw [and_bit _ _ hn hm, notW_bit x h j hj, maskW_bit k j hk hj]; simp
  · simp
  · rw [and_bit _ _ h hm, maskW_bit k j hk hj]; simp
theorem ctz_bit (y : Nat) (h0 : y ≠ 0) (h : y < 18446744073709551616) : Lib.ctz 64 y < 64 ∧ y.testBit (Lib.ctz 64 y) = true ∧ ∀ j, j < Lib.ctz 64 y → y.testBit j = false := by
  obtain ⟨m, hm, hk⟩ := Lib.ctzFrom_spec 64 y (by omega) (by rw [p64]; exact h)
  have e : Lib.ctz 64 y = Lib.ctzFrom 64 y := by simp [Lib.ctz, h0]
  rw [e]
  generalize Lib.ctzFrom 64 y = k at *
  subst hm
  refine ⟨hk, ?_, fun j hj => ?_⟩
  · rw [Nat.testBit_two_pow_mul]
    simp
  · rw [Nat.testBit_two_pow_mul]
    simp
    omega
/-! ### Of a list of bits -/
def firstN (B : BitB) (f : Nat) (t : Bool) : Nat := ((List.range' f (B.n.toNat - f)).find? (fun i => bitP B i == t)).getD B.n.toNat
theorem firstN_of {B : BitB} {f p : Nat} {t : Bool} (hf : f ≤ p) (hno : ∀ j, f ≤ j → j < p → j < B.n.toNat → bitP B j ≠ t) (hp : p < B.n.toNat → bitP B p = t) (hfn : f ≤ B.n.toNat) : firstN B f t = min B.n.toNat p := by
  unfold firstN
  by_cases hpn : p < B.n.toNat
  · have e : (List.range' f (B.n.toNat - f)).find? (fun i => bitP B i == t) = some p := by
      rw [List.find?_range'_eq_some]
      refine ⟨by simpa using hp hpn, by simp; omega, fun j h1 h2 => ?_⟩
      have := hno j h1 h2 (by omega)
      simpa using this
    rw [e]
    simp
    omega
  · have e : (List.range' f (B.n.toNat - f)).find? (fun i => bitP B i == t) = none := by
      rw [List.find?_eq_none]
      intro j hj
      rw [List.mem_range'_1] at hj
      have := hno j hj.1 (by omega) (by omega)
      simpa using this
    rw [e]
    simp
    omega
theorem bitP_at {B : BitB} {i j : Nat} {x : Int} (hx : B.w[i]? = some x) (hj : j < 64) : bitP B (64 * i + j) = x.toNat.testBit j := by
  unfold bitP
  rw [show (64 * i + j) / 64 = i from by omega, hx, show (64 * i + j) % 64 = j from by omega]
theorem none_next {B : BitB} {i f : Nat} {t : Bool} {x : Int} (hx : B.w[i]? = some x) (hxw : 0 ≤ x ∧ x < 18446744073709551616) (hfi : f / 64 ≤ i) (h0 : wordF x t (decide (i = f / 64)) (f % 64) = 0)
    (hno : ∀ j, f ≤ j → j < 64 * i → bitP B j ≠ t) : ∀ j, f ≤ j → j < 64 * (i + 1) → bitP B j ≠ t := by
  intro j h1 h2
  by_cases hj : j < 64 * i
  · exact hno j h1 hj
  · have hb := wordF_bit x t (decide (i = f / 64)) (f % 64) hxw (by omega) (j - 64 * i) (by omega)
    rw [h0] at hb
    have hz : (0 : Int).toNat.testBit (j - 64 * i) = false := Nat.zero_testBit _
    rw [hz] at hb
    have e := bitP_at hx (j := j - 64 * i) (by omega)
    rw [show 64 * i + (j - 64 * i) = j from by omega] at e
    have hg : (!(decide (i = f / 64)) || decide (f % 64 ≤ j - 64 * i)) = true := by
      by_cases hi : i = f / 64
      · simp [hi]; omega
      · simp [hi]
    rw [hg, Bool.and_true, ← e] at hb
    intro hh
    rw [hh] at hb
    simp at hb
theorem some_next {B : BitB} {i f : Nat} {t : Bool} {x : Int} (hx : B.w[i]? = some x) (hxw : 0 ≤ x ∧ x < 18446744073709551616) (hfi : f / 64 ≤ i) (h0 : wordF x t (decide (i = f / 64)) (f % 64) ≠ 0)
    (hno : ∀ j, f ≤ j → j < 64 * i → bitP B j ≠ t) (hfn : f ≤ B.n.toNat) : firstN B f t = min B.n.toNat (64 * i + Lib.ctz 64 (wordF x t (decide (i = f / 64)) (f % 64)).toNat) := by
  have hr := wordF_range x t (decide (i = f / 64)) (f % 64) hxw (by omega)
  obtain ⟨hk, h1, h2⟩ := ctz_bit (wordF x t (decide (i = f / 64)) (f % 64)).toNat (by omega) (by omega)
  have hbit := fun j hj => wordF_bit x t (decide (i = f / 64)) (f % 64) hxw (by omega) j hj
  generalize Lib.ctz 64 (wordF x t (decide (i = f / 64)) (f % 64)).toNat = k at *
  have hb := hbit k hk
  rw [h1] at hb
  have hb2 : (x.toNat.testBit k == t) = true ∧ (!(decide (i = f / 64)) || decide (f % 64 ≤ k)) = true := by
    rw [← Bool.and_eq_true]; exact hb.symm
  have hge : f ≤ 64 * i + k := by
    by_cases hi : i = f / 64
    · have := hb2.2
      simp [hi] at this
      omega
    · omega
  refine firstN_of hge (fun j h3 h4 _ => ?_) (fun _ => ?_) hfn
  · by_cases hj : j < 64 * i
    · exact hno j h3 hj
    · have hb3 := hbit (j - 64 * i) (by omega)
      rw [h2 (j - 64 * i) (by omega)] at hb3
      have e := bitP_at hx (j := j - 64 * i) (by omega)
      rw [show 64 * i + (j - 64 * i) = j from by omega] at e
      have hg : (!(decide (i = f / 64)) || decide (f % 64 ≤ j - 64 * i)) = true := by
        by_cases hi : i = f / 64
        · simp [hi]; omega
        · simp [hi]
      rw [hg, Bool.and_true, ← e] at hb3
      intro hh
      rw [hh] at hb3
      simp at hb3
  · rw [bitP_at hx hk]
    simpa using hb2.1
theorem none_all {B : BitB} {f : Nat} {t : Bool} {i : Nat} (hno : ∀ j, f ≤ j → j < 64 * i → bitP B j ≠ t) (hl : B.n.toNat ≤ 64 * i) (hfn : f ≤ B.n.toNat) : firstN B f t = B.n.toNat := by
  have := firstN_of (p := B.n.toNat) hfn (fun j h1 h2 _ => hno j h1 (by omega)) (fun h => absurd h (by omega)) hfn
  rw [this]
  omega
end Go.Proofs.YtchbbldanmmpjaaDoor
