/- The walk of Same. -/
import Derived.Test.YtiapiajldchnmaaWE
import Derived.Laws.StructEq
namespace Go.Proofs.Ytiapiajldchnmaa
open Go.RowKit
set_option linter.unusedVariables false
set_option linter.unusedSimpArgs false

theorem take_ext {l m : List Sp} (h : l.length = m.length) (hk : ∀ j, j < l.length → l[j]? = m[j]?) : l = m := by
  apply List.ext_getElem?
  intro j
  by_cases hj : j < l.length
  · exact hk j hj
  · rw [List.getElem?_eq_none (by omega), List.getElem?_eq_none (by omega)]

theorem eq41 (w : World) (x0 x1 x2 y0 y1 y2 : Int) : (binOp .eql 41 (.agg #[.int .u64 x0, .int .u8 x1, .int .u64 x2]) (.agg #[.int .u64 y0, .int .u8 y1, .int .u64 y2])).run Try.prog w = .ok (.bool (x0 == y0 && (x1 == y1 && x2 == y2))) w := by
  go_simp
  by_cases h0 : x0 = y0 <;> by_cases h1 : x1 = y1 <;> by_cases h2 : x2 = y2 <;> simp [h0, h1, h2]
theorem neq41 (w : World) (x0 x1 x2 y0 y1 y2 : Int) : (binOp .neq 41 (.agg #[.int .u64 x0, .int .u8 x1, .int .u64 x2]) (.agg #[.int .u64 y0, .int .u8 y1, .int .u64 y2])).run Try.prog w = .ok (.bool (!(x0 == y0 && (x1 == y1 && x2 == y2)))) w := by
  go_simp
  by_cases h0 : x0 = y0 <;> by_cases h1 : x1 = y1 <;> by_cases h2 : x2 = y2 <;> simp [h0, h1, h2]

set_option maxHeartbeats 2000000 in
theorem same17 (l m : List Sp) (A B : Option Addr) (c d : Nat) (w : World) (hr : RdS w A l) (hm : RdS w B m) :
    Calls Try.prog 17 #[.slice A l.length c, .slice B m.length d] w (Ret (.bool (decide (l = m))) w) := by
  have hl := hr.len
  have hml := hm.len
  have HR := Lib.hid hr
  have HM := Lib.hid hm
  clear hr hm
  cases hlen : ((l.length : Int) == (m.length : Int)) with
  | false =>
    have E : Hid (decide (l = m) = false) := by
      show _ = _
      rw [decide_eq_false_iff_not]
      rintro rfl
      simp at hlen
    rw [E.out]
    go_enter Try.func17, Try.ntmps17
    go_wp2
    go_ret
    exact ⟨rfl, Below.refl _ _⟩
  | true =>
    have hL : Hid (l.length = m.length) := by show _ = _; simp at hlen; omega
    have hlen2 : ((l.length : Int) != (m.length : Int)) = false := by simp only [bne, hlen]; rfl
    clear hlen
    go_enter Try.func17, Try.ntmps17
    go_wp2
    clear hlen2
    go_loopw [13] (fun i wr => ∃ k : Nat, k ≤ l.length ∧ i = .int .i64 k ∧ Hid (∀ j, j < k → l[j]? = m[j]?) ∧ Hid (Below w.heap.size w wr)) (fun i _ => l.length - (intOf i).toNat)
    case atStart => exact ⟨0, Nat.zero_le _, rfl, fun j h => absurd h (by omega), Below.refl _ _⟩
    case round =>
      obtain ⟨k, hk, rfl, HE, HB⟩ := hrel
      by_cases hlt : k < l.length
      · have hlt2 : k < m.length := by have := hL.out; omega
        have hs : l[k]? = some l[k] := List.getElem?_eq_getElem hlt
        have ht : m[k]? = some m[k] := List.getElem?_eq_getElem hlt2
        obtain ⟨b, o, rfl, hB, c1, c2, c3⟩ := (HR.out.below HB.out).at_ hs
        obtain ⟨b', o', rfl, hB', d1, d2, d3⟩ := (HM.out.below HB.out).at_ ht
        have hi1 : (k : Int) < (l.length : Int) := by omega
        have hi2 : (k : Int) < (m.length : Int) := by omega
        have EQ : Hid (l[k] = m[k] → ∀ j, j < k + 1 → l[j]? = m[j]?) := by
          intro h j hj
          rcases Nat.lt_succ_iff_lt_or_eq.1 hj with h1 | rfl
          · exact HE.out j h1
          · rw [hs, ht, h]
        have NE : Hid (l[k] ≠ m[k] → decide (l = m) = false) := by
          intro h
          rw [decide_eq_false_iff_not]
          rintro rfl
          exact h rfl
        clear hs ht
        generalize l[k] = s at *
        generalize m[k] = t at *
        by_cases hst : s = t
        · subst hst
          have S := Lib.hid (EQ.out rfl)
          clear EQ NE
          have hq : ∀ W, (binOp .neq 41 (.agg #[.int .u64 s.a, .int .u8 s.k, .int .u64 s.t]) (.agg #[.int .u64 s.a, .int .u8 s.k, .int .u64 s.t])).run Try.prog W = .ok (.bool false) W := fun W => by rw [neq41]; simp
          go_wp2
          go_still (by kernel_rfl)
          clear hq
          go_wp2
          go_roundw
          case rel => exact ⟨k + 1, by omega, by go_num, S.out, HB.out.drew⟩
          case measure => simp [intOf]; omega
        · have S := Lib.hid (NE.out hst)
          have hq : ∀ W, (binOp .neq 41 (.agg #[.int .u64 s.a, .int .u8 s.k, .int .u64 s.t]) (.agg #[.int .u64 t.a, .int .u8 t.k, .int .u64 t.t])).run Try.prog W = .ok (.bool true) W := fun W => by
            rw [neq41]
            congr 2
            cases hx : (s.a == t.a && (s.k == t.k && s.t == t.t)) with
            | false => rfl
            | true =>
              simp only [Bool.and_eq_true, beq_iff_eq] at hx
              obtain ⟨h1, h2, h3⟩ := hx
              exact absurd (by cases s; cases t; simp_all) hst
          clear EQ NE hst
          go_wp2
          go_still (by kernel_rfl)
          clear hq
          go_wp2
          go_ret
          exact ⟨by rw [S.out]; rfl, HB.out.drew⟩
      · have E : Hid (decide (l = m) = true) := by
          show _ = _
          rw [decide_eq_true_iff]
          exact take_ext hL.out (fun j hj => HE.out j (by omega))
        clear HE
        go_wp2
        go_ret
        exact ⟨by rw [E.out]; rfl, HB.out⟩
end Go.Proofs.Ytiapiajldchnmaa
