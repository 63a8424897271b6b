/- The reference's right is the program's; how spans read; what makes them right. Plain. -/
import Derived.Test.YtchbbldanmmpjaaDoorSD
import Derived.Laws.BitsLemmas
namespace Go.Proofs.YtchbbldanmmpjaaDoor
open Go.RowKit
set_option linter.unusedVariables false
set_option linter.unusedSimpArgs false

theorem u64_and (x y : Int) (hx : 0 ≤ x ∧ x < 18446744073709551616) (hy : 0 ≤ y ∧ y < 18446744073709551616) : Go.bits .and .u64 x y = ((x.toNat &&& y.toNat : Nat) : Int) := by
  obtain ⟨a, rfl⟩ := Int.eq_ofNat_of_zero_le hx.1
  obtain ⟨b, rfl⟩ := Int.eq_ofNat_of_zero_le hy.1
  have e2 : (2 : Nat) ^ 64 = 18446744073709551616 := by decide
  rw [Int.toNat_natCast, Int.toNat_natCast]
  exact (bits_nat .u64 64 (by decide) (fun n h0 h1 => by
    have e : ((2 : Int) ^ 64) = 18446744073709551616 := by decide
    rw [e] at h1
    simp [IntKind.wrap, IntKind.bits, IntKind.signed]
    omega) a b (by rw [e2]; omega) (by rw [e2]; omega)).1
theorem and_iff (x y : Int) (hx : 0 ≤ x ∧ x < 18446744073709551616) (hy : 0 ≤ y ∧ y < 18446744073709551616) :
    (Go.bits .and .u64 x y = y) ↔ ∀ j, y.toNat.testBit j = true → x.toNat.testBit j = true := by
  rw [u64_and x y hx hy]
  constructor
  · intro h j hj
    have h2 : x.toNat &&& y.toNat = y.toNat := by omega
    have h3 := congrArg (fun n => n.testBit j) h2
    simp only [Nat.testBit_and, hj, Bool.and_true] at h3
    exact h3
  · intro h
    have h2 : x.toNat &&& y.toNat = y.toNat := by
      apply Nat.eq_of_testBit_eq
      intro j
      rw [Nat.testBit_and]
      cases hj : y.toNat.testBit j
      · simp
      · rw [h j hj]; rfl
    rw [h2]
    omega
theorem okB_bits {b : BitB} (h : okB b = true) (i : Nat) (hi : i < 64 * b.w.length) (hn : b.n ≤ i) : bitP b i = false := by
  unfold okB at h
  simp only [Bool.and_eq_true, decide_eq_true_eq, List.all_eq_true, List.mem_range, Bool.or_eq_true, Bool.not_eq_true'] at h
  rcases h.2.2.2 i hi with h | h
  · omega
  · exact h
structure WordsB (b : BitB) : Prop where
  words : ∀ x ∈ b.w, 0 ≤ x ∧ x < 18446744073709551616
theorem sub_iff {a b : BitB} (ha : okB a = true) (hb : okB b = true) (hn : a.n = b.n) (h1 : 1 ≤ a.n) (h8 : a.n ≤ 64) (wa : WordsB a) (wb : WordsB b) : decide (andL a.w b.w = b.w) = subTo a b b.n.toNat := by
  have pa := okB_parts ha
  have pb := okB_parts hb
  obtain ⟨x, hx⟩ := List.length_eq_one_iff.1 (show a.w.length = 1 by omega)
  obtain ⟨y, hy⟩ := List.length_eq_one_iff.1 (show b.w.length = 1 by omega)
  have hx0 := wa.words x (by rw [hx]; simp)
  have hy0 := wb.words y (by rw [hy]; simp)
  have ea : ∀ i, i < 64 → bitP a i = x.toNat.testBit i := by
    intro i hi
    unfold bitP
    rw [show i / 64 = 0 from by omega, hx, show i % 64 = i from by omega]
    rfl
  have eb : ∀ i, i < 64 → bitP b i = y.toNat.testBit i := by
    intro i hi
    unfold bitP
    rw [show i / 64 = 0 from by omega, hy, show i % 64 = i from by omega]
    rfl
  have e : (andL a.w b.w = b.w) ↔ subTo a b b.n.toNat = true := by
    rw [hx, hy]
    show [Go.bits .and .u64 x y] = [y] ↔ _
    rw [List.cons.injEq]
    simp only [and_true]
    rw [and_iff x y hx0 hy0]
    unfold subTo
    simp only [List.all_eq_true, List.mem_range, Bool.or_eq_true, Bool.not_eq_true']
    constructor
    · intro h i hi
      rw [ea i (by omega), eb i (by omega)]
      cases hj : y.toNat.testBit i
      · exact .inl rfl
      · exact .inr (h i hj)
    · intro h j hj
      by_cases hjn : j < b.n.toNat
      · have := h j hjn
        rw [ea j (by omega), eb j (by omega), hj] at this
        simpa using this
      · by_cases hj64 : j < 64
        · have := okB_bits hb j (by rw [hy]; simpa using hj64) (by omega)
          rw [eb j hj64, hj] at this
          cases this
        · have e2 : (2 : Nat) ^ 64 = 18446744073709551616 := by decide
          have := Nat.testBit_lt_two_pow (x := y.toNat) (i := j) (Nat.lt_of_lt_of_le (by rw [e2]; omega) (Nat.pow_le_pow_right (by decide) (Nat.le_of_not_lt hj64)))
          rw [hj] at this
          cases this
  by_cases h : andL a.w b.w = b.w
  · rw [decide_eq_true h, e.1 h]
  · rw [decide_eq_false h]
    cases hs : subTo a b b.n.toNat
    · rfl
    · exact absurd (e.2 hs) h
theorem rightR_eq {s : SpanB} (wa : WordsB s.al) (wb : WordsB s.ma) : rightR s = rightP s := by
  by_cases hf : fitP s = true
  · have hsh : shapedP s.pages s.size = true := by simp [fitP] at hf; exact hf.1
    have hm := manyP_of hsh
    have e1 : rightP s = (decide (bothOk s.al s.ma) && ((s.al.n == manyP s.size) && decide (andL s.al.w s.ma.w = s.ma.w))) := by
      simp [fitP] at hf
      simp [rightP, hf.1, hf.2.1, hf.2.2]
    rw [e1, rightR, hf, Bool.true_and, numsP]
    by_cases hA : okB s.al = true
    · by_cases hM : okB s.ma = true
      · by_cases hn : s.al.n = manyP s.size
        · by_cases hn' : s.ma.n = manyP s.size
          · rw [decide_eq_true (show bothOk s.al s.ma from ⟨hA, hM, by rw [hn, hn']⟩), sub_iff hA hM (by rw [hn, hn']) (by omega) (by omega) wa wb, hA, hM]
            simp [hn, hn']
          · rw [decide_eq_false (show ¬ bothOk s.al s.ma from fun h => hn' (by rw [← h.2.2, hn])), beq_eq_false_iff_ne.2 hn']
            simp
        · rw [beq_eq_false_iff_ne.2 hn]
          simp
      · rw [decide_eq_false (show ¬ bothOk s.al s.ma from fun h => hM h.2.1), show okB s.ma = false from by simpa using hM]
        simp
    · rw [decide_eq_false (show ¬ bothOk s.al s.ma from fun h => hA h.1), show okB s.al = false from by simpa using hA]
      simp
  · have e0 : fitP s = false := by simpa using hf
    rw [rightR, e0, Bool.false_and]
    unfold rightP
    unfold fitP at e0
    cases h1 : shapedP s.pages s.size
    · simp
    · cases h2 : decide (0 ≤ s.first)
      · simp
      · cases h3 : decide (s.first ≤ 1024 - s.pages)
        · simp
        · rw [h1, h2, h3] at e0
          simp at e0
theorem RdB.ws {w : World} {v : BitV} {b : BitB} (h : RdB w v b) : WordsB b := ⟨h.words⟩
theorem right41' (v : SpanV) (s : SpanB) (w : World) (h : RdN w v s) : Calls Tryd.prog 41 #[v.v] w (Ret (.bool (rightP s)) w) := by
  have := right41 v s w h
  rwa [rightR_eq h.al.ws h.ma.ws] at this

/-! ### Spans in line -/
def RdL (w : World) (A : Option Addr) (vs : List SpanV) (l : List SpanB) : Prop := RdS w A vs ∧ vs.length = l.length ∧ ∀ (i : Nat) v s, vs[i]? = some v → l[i]? = some s → RdN w v s
theorem RdL.below {w w1 : World} {A : Option Addr} {vs : List SpanV} {l : List SpanB} (h : RdL w A vs l) (hb : Below w.heap.size w w1) : RdL w1 A vs l :=
  ⟨h.1.below hb, h.2.1, fun i v s hv hs => (h.2.2 i v s hv hs).below hb⟩
theorem RdL.len {w : World} {A : Option Addr} {vs : List SpanV} {l : List SpanB} (h : RdL w A vs l) : l.length ≤ 9223372036854775807 := by
  have := h.1.len
  rw [h.2.1] at this
  exact this
theorem RdL.at_ {w : World} {A : Option Addr} {vs : List SpanV} {l : List SpanB} (h : RdL w A vs l) {i : Nat} {s : SpanB} (hs : l[i]? = some s) : ∃ v b o, vs[i]? = some v ∧ RdN w v s ∧ A = some ⟨b, o, none⟩ ∧ b < w.heap.size ∧
    w.cell? ⟨b, o + i * 8, none⟩ = some (.int .i64 v.first) ∧ w.cell? ⟨b, o + i * 8 + 1, none⟩ = some (.int .i64 v.pages) ∧ w.cell? ⟨b, o + i * 8 + 2, none⟩ = some (.int .i64 v.size) ∧
    w.cell? ⟨b, o + i * 8 + 3, none⟩ = some (.int .i64 v.al.n) ∧ w.cell? ⟨b, o + i * 8 + 4, none⟩ = some (.slice v.al.A v.al.m v.al.c) ∧
    w.cell? ⟨b, o + i * 8 + 5, none⟩ = some (.int .i64 v.ma.n) ∧ w.cell? ⟨b, o + i * 8 + 6, none⟩ = some (.slice v.ma.A v.ma.m v.ma.c) ∧ w.cell? ⟨b, o + i * 8 + 7, none⟩ = some (.bool v.sw) := by
  have hi : i < l.length := (List.getElem?_eq_some_iff.1 hs).1
  have hv : vs[i]? = some (vs[i]'(by rw [h.2.1]; exact hi)) := List.getElem?_eq_getElem _
  obtain ⟨b, o, e, hb, hc⟩ := h.1.at_ hv
  exact ⟨_, b, o, hv, h.2.2 i _ s hv hs, e, hb, hc⟩
def endP (s : SpanB) : Int := s.first + s.pages
def atOk (l : List SpanB) (i : Nat) : Bool := match l[i]? with
  | some s => rightP s && (decide (i = 0) || (match l[i - 1]? with | some p => decide (endP p ≤ s.first) | none => true))
  | none => true
def okTo (l : List SpanB) (k : Nat) : Bool := (List.range k).all (atOk l)
def okL (l : List SpanB) : Bool := decide (l.length ≤ 256) && okTo l l.length
def chkE (l : List SpanB) : Int := if okL l then 0 else 2
theorem okTo_succ {l : List SpanB} {k : Nat} : okTo l (k + 1) = (okTo l k && atOk l k) := by simp [okTo, List.range_succ]
theorem okTo_no {l : List SpanB} {k n : Nat} (hk : k < n) (h : atOk l k = false) : okTo l n = false := by
  rw [okTo, List.all_eq_false]
  exact ⟨k, List.mem_range.2 hk, by simp [h]⟩
theorem okTo_at {l : List SpanB} {k n : Nat} (h : okTo l n = true) (hk : k < n) : atOk l k = true := by
  rw [okTo, List.all_eq_true] at h
  exact h k (List.mem_range.2 hk)
theorem rightP_parts {s : SpanB} (h : rightP s = true) : shapedP s.pages s.size = true ∧ 0 ≤ s.first ∧ s.first ≤ 1024 - s.pages ∧ okB s.al = true ∧ okB s.ma = true ∧ s.al.n = manyP s.size ∧ s.ma.n = manyP s.size ∧ andL s.al.w s.ma.w = s.ma.w := by
  unfold rightP at h
  simp only [Bool.and_eq_true, decide_eq_true_eq, beq_iff_eq] at h
  obtain ⟨h1, h2, h3, h4, h5, h6⟩ := h
  exact ⟨h1, h2, h3, h4.1, h4.2.1, h5, by rw [← h4.2.2, h5], h6⟩
theorem right_end {s : SpanB} (h : rightP s = true) : wrap64 (s.first + s.pages) = endP s ∧ 1 ≤ endP s ∧ endP s ≤ 1024 := by
  obtain ⟨h1, h2, h3, _⟩ := rightP_parts h
  have := shapedP_pages h1
  unfold endP wrap64
  omega
end Go.Proofs.YtchbbldanmmpjaaDoor
