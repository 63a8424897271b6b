/- What a heap is, plain: its shapes, sizes, objects, and when it is right. -/
import Derived.Test.YtieijfefnedifaaGreatDoorMB4
import Derived.Test.YtieijfefnedifaaGreatDoorMB5
namespace Go.Proofs.YtieijfefnedifaaGreatDoor
open Go.RowKit
set_option linter.unusedVariables false
set_option linter.unusedSimpArgs false

/-! ### Words and shapes -/
def wd (l : List Int) (i : Nat) : Int := match l[i]? with | some x => x | none => 0
theorem wd_at {l : List Int} {i : Nat} {x : Int} (h : l[i]? = some x) : wd l i = x := by simp [wd, h]
def Words (l : List Int) : Prop := ∀ x ∈ l, 0 ≤ x ∧ x < 18446744073709551616
theorem wd_range {l : List Int} (h : Words l) (i : Nat) : 0 ≤ wd l i ∧ wd l i < 18446744073709551616 := by
  unfold wd
  split
  · rename_i x hx
    exact h x (List.mem_of_getElem? hx)
  · omega
def shOk (n m : Int) : Bool := decide (0 ≤ n) && (decide (n ≤ 48) && decide (m < 2 ^ n.toNat))
def unN (w : Int) : Int := w % 256
def unM (w : Int) : Int := w / 256 % 281474976710656
def unOk (w : Int) : Bool := decide (w / 72057594037927936 = 165) && shOk (unN w) (unM w)
def packW (n m : Int) : Int := 11889503016258109440 + m * 256 + n
/-! ### Sizes -/
def sizeP (n : Int) : Int := if n ≤ 1 then 2 else if n ≤ 3 then 4 else if n ≤ 7 then 8 else if n ≤ 15 then 16 else 0
def pageP (n : Int) : Int := (n + 16) / 16
def fits (n : Int) (s : SpanB) : Bool := (sizeP n == s.size) && (pageP n == s.pages)
/-! ### A heap -/
structure HeapV where
  aA : Option Addr
  aN : Nat
  aC : Nat
  us : BitV
  sA : Option Addr
  sN : Nat
  sC : Nat
  vs : List SpanV
structure HeapB where
  ar : List Int
  us : BitB
  sp : List SpanB
deriving DecidableEq
def HeapV.v (h : HeapV) : Value := .agg #[.slice h.aA h.aN h.aC, .int .i64 h.us.n, .slice h.us.A h.us.m h.us.c, .slice h.sA h.sN h.sC]
structure RdH (w : World) (v : HeapV) (h : HeapB) : Prop where
  n : v.aN = h.ar.length
  c : v.aN ≤ v.aC
  words : Words h.ar
  ar : RdU w v.aA h.ar
  us : RdB w v.us h.us
  sn : v.sN = h.sp.length
  sc : v.sN ≤ v.sC
  sp : RdL w v.sA v.vs h.sp
theorem RdH.below {w w1 : World} {v : HeapV} {h : HeapB} (r : RdH w v h) (hb : Below w.heap.size w w1) : RdH w1 v h :=
  ⟨r.n, r.c, r.words, r.ar.below hb, r.us.below hb, r.sn, r.sc, r.sp.below hb⟩
/-! ### Objects: the slots that are in Alloc, in order -/
structure Cand where
  i : Nat
  s : SpanB
  k : Nat
structure Obj where
  i : Nat
  k : Nat
  a : Nat
  n : Int
  m : Int
  cur : Bool
deriving DecidableEq
def slotsTo (i : Nat) (s : SpanB) (k : Nat) : List Cand := ((List.range k).filter (fun j => bitP s.al j)).map (fun j => ⟨i, s, j⟩)
def candAt (l : List SpanB) (i : Nat) : List Cand := match l[i]? with | some s => slotsTo i s s.al.n.toNat | none => []
def candTo (l : List SpanB) (i : Nat) : List Cand := (List.range i).flatMap (candAt l)
def cands (l : List SpanB) : List Cand := candTo l l.length
theorem slotsTo_succ_yes {i : Nat} {s : SpanB} {k : Nat} (h : bitP s.al k = true) : slotsTo i s (k + 1) = slotsTo i s k ++ [⟨i, s, k⟩] := by
  simp [slotsTo, List.range_succ, List.filter_append, h]
theorem slotsTo_succ_no {i : Nat} {s : SpanB} {k : Nat} (h : bitP s.al k = false) : slotsTo i s (k + 1) = slotsTo i s k := by
  simp [slotsTo, List.range_succ, List.filter_append, h]
theorem candTo_succ {l : List SpanB} {i : Nat} {s : SpanB} (h : l[i]? = some s) : candTo l (i + 1) = candTo l i ++ slotsTo i s s.al.n.toNat := by
  simp [candTo, List.range_succ, candAt, h]
def Cand.a (c : Cand) : Nat := c.s.first.toNat * 16 + c.k * c.s.size.toNat
def Cand.cur (c : Cand) : Bool := c.s.sw || bitP c.s.ma c.k
def Cand.good (ar : List Int) (c : Cand) : Bool := unOk (wd ar c.a) && fits (unN (wd ar c.a)) c.s
def Cand.obj (ar : List Int) (c : Cand) : Obj := ⟨c.i, c.k, c.a, unN (wd ar c.a), unM (wd ar c.a), c.cur⟩
def objs (h : HeapB) : List Obj := (cands h.sp).map (Cand.obj h.ar)
def lookP (h : HeapB) : Bool := (cands h.sp).all (Cand.good h.ar)
/-! ### Pages that are to be used -/
def fillW (l : List Int) (f : Nat) (t : Bool) : Nat → List Int
  | 0 => l
  | k + 1 => setW (fillW l f t k) (f + k) t
theorem fillW_len (l : List Int) (f : Nat) (t : Bool) (k : Nat) : (fillW l f t k).length = l.length := by
  induction k with
  | zero => rfl
  | succ k ih => rw [fillW, setW_len, ih]
def fillIn (b : BitB) (f n : Int) : Prop := 0 ≤ f ∧ 0 ≤ n ∧ n ≤ b.n ∧ f ≤ b.n - n
instance (b : BitB) (f n : Int) : Decidable (fillIn b f n) := by unfold fillIn; infer_instance
def fillB (b : BitB) (f n : Int) (t : Bool) : BitB := if okB b = true then (if fillIn b f n then ⟨b.n, fillW b.w f.toNat t n.toNat⟩ else b) else ⟨0, []⟩
def fillE (b : BitB) (f n : Int) : Int := if okB b = true then (if fillIn b f n then 0 else 1) else 2
def want0 (n : Int) : BitB := putB (makeB n) 0 true
def wantTo (b : BitB) : List SpanB → BitB
  | [] => b
  | s :: t => wantTo (fillB b s.first s.pages true) t
def fillsTo (b : BitB) : List SpanB → Bool
  | [] => true
  | s :: t => (fillE b s.first s.pages == 0) && (decide (1 ≤ s.first) && fillsTo (fillB b s.first s.pages true) t)
def baseP (h : HeapB) : Bool := decide (h.ar.length ≤ 16384) && (okB h.us && (okL h.sp && (decide (1 ≤ h.us.n) && decide ((h.ar.length : Int) = h.us.n * 16))))
def framedP (h : HeapB) : Bool := baseP h && (fillsTo (want0 h.us.n) h.sp && decide ((wantTo (want0 h.us.n) h.sp).w = h.us.w))
/-! ### What leads where -/
def findO (os : List Obj) (a : Int) : Option Obj := match os.find? (fun o => (o.a : Int) == a) with | some o => if o.cur then some o else none | none => none
def leadsP (os : List Obj) (a : Int) : Bool := (findO os a).isSome || (a == 0)
def mbit (m : Int) (f : Nat) : Bool := m.toNat.testBit f
def refsP (ar : List Int) (o : Obj) (p : Int → Bool) : Nat → Bool
  | 0 => true
  | f + 1 => refsP ar o p f && (!mbit o.m f || p (wd ar (o.a + 1 + f)))
def zeroP (ar : List Int) (i j : Nat) : Bool := (List.range' i (j - i)).all (fun k => wd ar k == 0)
def soundTo (ar : List Int) (all : List Obj) : Nat → List Obj → Bool
  | at_, [] => zeroP ar at_ ar.length
  | at_, o :: t => zeroP ar at_ o.a && ((!o.cur || refsP ar o (leadsP all) o.n.toNat) && soundTo ar all (o.a + 1 + o.n.toNat) t)
def soundP (h : HeapB) : Bool := soundTo h.ar (objs h) 0 (objs h)
def heapP (h : HeapB) : Bool := framedP h && (lookP h && soundP h)
def chkH (h : HeapB) : Int := if heapP h then 0 else 2
end Go.Proofs.YtieijfefnedifaaGreatDoor

/- Where objects stand: plain. -/
namespace Go.Proofs.YtieijfefnedifaaGreatDoor
open Go.RowKit
set_option linter.unusedVariables false
set_option linter.unusedSimpArgs false

def Cand.room (c : Cand) : Nat := if c.s.size = 0 then c.s.pages.toNat * 16 else c.s.size.toNat
theorem mem_cands {l : List SpanB} {c : Cand} (h : c ∈ cands l) : l[c.i]? = some c.s ∧ c.k < c.s.al.n.toNat ∧ bitP c.s.al c.k = true := by
  simp only [cands, candTo, List.mem_flatMap, List.mem_range] at h
  obtain ⟨i, hi, hc⟩ := h
  unfold candAt at hc
  split at hc
  · rename_i s hs
    simp only [slotsTo, List.mem_map, List.mem_filter, List.mem_range] at hc
    obtain ⟨j, ⟨hj, hb⟩, rfl⟩ := hc
    exact ⟨hs, hj, hb⟩
  · simp at hc
theorem span_shape {s : SpanB} (h : rightP s = true) : 0 ≤ s.first ∧ 1 ≤ s.pages ∧ s.pages ≤ 4 ∧ s.first + s.pages ≤ 1024 ∧ ((s.size = 0 ∧ s.al.n = 1) ∨ (s.pages = 1 ∧ ((s.size = 2 ∧ s.al.n = 8) ∨ (s.size = 4 ∧ s.al.n = 4) ∨ (s.size = 8 ∧ s.al.n = 2) ∨ (s.size = 16 ∧ s.al.n = 1)))) := by
  obtain ⟨h1, h2, h3, _, _, h4, _⟩ := rightP_parts h
  have hp := shapedP_pages h1
  refine ⟨h2, hp.1, hp.2, by omega, ?_⟩
  rcases shapedP_size h1 with e | e | e | e | e <;> rw [e] at h1 h4
  · exact Or.inl ⟨e, by rw [h4]; decide +kernel⟩
  all_goals
    have hq : s.pages = 1 := by simpa [shapedP] using h1
    refine Or.inr ⟨hq, ?_⟩
  · exact Or.inl ⟨e, by rw [h4]; decide +kernel⟩
  · exact Or.inr (Or.inl ⟨e, by rw [h4]; decide +kernel⟩)
  · exact Or.inr (Or.inr (Or.inl ⟨e, by rw [h4]; decide +kernel⟩))
  · exact Or.inr (Or.inr (Or.inr ⟨e, by rw [h4]; decide +kernel⟩))
theorem slot_in {s : SpanB} (h : rightP s = true) {k : Nat} (hk : k < s.al.n.toNat) (i : Nat) : k * s.size.toNat + (Cand.mk i s k).room ≤ s.pages.toNat * 16 ∧ 2 ≤ (Cand.mk i s k).room ∧ k ≤ 7 := by
  obtain ⟨h0, h1, h2, h3, hc⟩ := span_shape h
  unfold Cand.room
  simp only
  rcases hc with ⟨e, en⟩ | ⟨ep, ⟨e, en⟩ | ⟨e, en⟩ | ⟨e, en⟩ | ⟨e, en⟩⟩ <;> rw [en] at hk <;> rw [e] <;> simp <;> omega
theorem slot_next {s : SpanB} (h : rightP s = true) {k j : Nat} (hj : j < s.al.n.toNat) (hkj : k < j) (i : Nat) : k * s.size.toNat + (Cand.mk i s k).room ≤ j * s.size.toNat := by
  obtain ⟨h0, h1, h2, h3, hc⟩ := span_shape h
  unfold Cand.room
  simp only
  rcases hc with ⟨e, en⟩ | ⟨ep, ⟨e, en⟩ | ⟨e, en⟩ | ⟨e, en⟩ | ⟨e, en⟩⟩ <;> rw [en] at hj <;> rw [e] <;> simp <;> omega
theorem cand_end {l : List SpanB} (h : okL l = true) {c : Cand} (hc : c ∈ cands l) : c.s.first.toNat * 16 ≤ c.a ∧ c.a + c.room ≤ (endP c.s).toNat * 16 ∧ 2 ≤ c.room ∧ rightP c.s = true := by
  obtain ⟨hs, hk, _⟩ := mem_cands hc
  have hr := okL_right h hs
  obtain ⟨h1, h2, _⟩ := slot_in hr hk c.i
  have hr2 : (Cand.mk c.i c.s c.k).room = c.room := rfl
  rw [hr2] at h1 h2
  obtain ⟨h0, hp, _, _, _⟩ := span_shape hr
  unfold Cand.a endP
  exact ⟨by omega, by omega, h2, hr⟩
theorem cands_apart {l : List SpanB} (h : okL l = true) : (cands l).Pairwise (fun c d => c.a + c.room ≤ d.a) := by
  unfold cands candTo
  rw [List.pairwise_flatMap]
  refine ⟨fun i hi => ?_, ?_⟩
  · unfold candAt
    split
    · rename_i s hs
      unfold slotsTo
      rw [List.pairwise_map]
      refine List.Pairwise.imp_of_mem ?_ (List.Pairwise.filter _ List.pairwise_lt_range)
      intro a b ha hb hab
      have hb2 := (List.mem_filter.1 hb).1
      have := slot_next (okL_right h hs) (List.mem_range.1 hb2) hab i
      unfold Cand.a
      simp only at this ⊢
      have e : (Cand.mk i s a).room = (Cand.mk i s b).room := rfl
      omega
    · exact List.Pairwise.nil
  · refine List.Pairwise.imp_of_mem ?_ List.pairwise_lt_range
    intro i j hi hj hij c hc d hd
    have key : ∀ (t : Nat) (x : Cand), t < l.length → x ∈ candAt l t → l[t]? = some x.s ∧ x ∈ cands l := by
      intro t x ht hx
      have hm : x ∈ cands l := by
        simp only [cands, candTo, List.mem_flatMap, List.mem_range]
        exact ⟨t, ht, hx⟩
      refine ⟨?_, hm⟩
      unfold candAt at hx
      split at hx
      · rename_i s hs
        simp only [slotsTo, List.mem_map] at hx
        obtain ⟨j, _, rfl⟩ := hx
        exact hs
      · simp at hx
    obtain ⟨hs1, hm1⟩ := key i c (List.mem_range.1 hi) hc
    obtain ⟨hs2, hm2⟩ := key j d (List.mem_range.1 hj) hd
    have h1 := (cand_end h hm1).2.1
    have h2 := (cand_end h hm2).1
    have h3 := okL_lt h hij hs1 hs2
    omega
theorem good_room {ar : List Int} {c : Cand} (h : c.good ar = true) (hr : rightP c.s = true) : 0 ≤ unN (wd ar c.a) ∧ unN (wd ar c.a) ≤ 48 ∧ (unN (wd ar c.a)).toNat + 1 ≤ c.room := by
  unfold Cand.good unOk shOk fits at h
  simp only [Bool.and_eq_true, decide_eq_true_eq, beq_iff_eq] at h
  obtain ⟨⟨_, h0, h1, _⟩, h2, h3⟩ := h
  refine ⟨h0, h1, ?_⟩
  obtain ⟨_, _, _, _, hc⟩ := span_shape hr
  unfold Cand.room
  generalize unN (wd ar c.a) = n at *
  unfold sizeP at h2
  unfold pageP at h3
  split at h2
  · rw [← h2]; simp; omega
  · split at h2
    · rw [← h2]; simp; omega
    · split at h2
      · rw [← h2]; simp; omega
      · split at h2
        · rw [← h2]; simp; omega
        · rw [← h2]; simp; omega
end Go.Proofs.YtieijfefnedifaaGreatDoor

/- Bits that are put and filled: plain. -/
namespace Go.Proofs.YtieijfefnedifaaGreatDoor
open Go.RowKit
set_option linter.unusedVariables false
set_option linter.unusedSimpArgs false

theorem or_bit (x y : Int) (hx : 0 ≤ x ∧ x < 18446744073709551616) (hy : 0 ≤ y ∧ y < 18446744073709551616) : 0 ≤ Go.bits .or .u64 x y ∧ Go.bits .or .u64 x y < 18446744073709551616 ∧ ∀ j, (Go.bits .or .u64 x y).toNat.testBit j = (x.toNat.testBit j || y.toNat.testBit j) := by
  obtain ⟨a, rfl⟩ := Int.eq_ofNat_of_zero_le hx.1
  obtain ⟨b, rfl⟩ := Int.eq_ofNat_of_zero_le hy.1
  have e2 : (2 : Nat) ^ 64 = 18446744073709551616 := by decide
  have e := (bits_nat .u64 64 (by decide) (fun n h0 h1 => by
    have e : ((2 : Int) ^ 64) = 18446744073709551616 := by decide
    rw [e] at h1
    simp [IntKind.wrap, IntKind.bits, IntKind.signed]
    omega) a b (by rw [e2]; omega) (by rw [e2]; omega)).2
  rw [e]
  have hl : a ||| b < 2 ^ 64 := Nat.or_lt_two_pow (by rw [e2]; omega) (by rw [e2]; omega)
  rw [e2] at hl
  refine ⟨by omega, by omega, fun j => ?_⟩
  rw [Int.toNat_natCast, Int.toNat_natCast, Int.toNat_natCast, Nat.testBit_or]
theorem andNot_bit (x y : Int) (hx : 0 ≤ x ∧ x < 18446744073709551616) (hy : 0 ≤ y ∧ y < 18446744073709551616) : 0 ≤ Go.bits .andNot .u64 x y ∧ Go.bits .andNot .u64 x y < 18446744073709551616 ∧ ∀ j, (Go.bits .andNot .u64 x y).toNat.testBit j = (x.toNat.testBit j && !y.toNat.testBit j) := by
  obtain ⟨a, rfl⟩ := Int.eq_ofNat_of_zero_le hx.1
  obtain ⟨b, rfl⟩ := Int.eq_ofNat_of_zero_le hy.1
  have e2 : (2 : Nat) ^ 64 = 18446744073709551616 := by decide
  have hl := ((BitVec.ofNat 64 a) &&& ~~~(BitVec.ofNat 64 b)).isLt
  rw [e2] at hl
  have e : Go.bits .andNot .u64 (a : Int) (b : Int) = (((BitVec.ofNat 64 a) &&& ~~~(BitVec.ofNat 64 b)).toNat : Int) := by
    unfold Go.bits
    simp only [BitVec.ofInt_natCast]
    rw [u64_wrap]
    exact Int.emod_eq_of_lt (Int.natCast_nonneg _) (Int.ofNat_lt.2 hl)
  rw [e]
  refine ⟨by omega, by omega, fun j => ?_⟩
  rw [Int.toNat_natCast, Int.toNat_natCast, Int.toNat_natCast]
  show BitVec.getLsbD _ j = _
  rw [BitVec.getLsbD_and, BitVec.getLsbD_not, BitVec.getLsbD_ofNat, BitVec.getLsbD_ofNat]
  by_cases hj : j < 64
  · simp [hj]
  · have : a.testBit j = false := Nat.testBit_lt_two_pow (Nat.lt_of_lt_of_le (by rw [e2]; omega : a < 2 ^ 64) (Nat.pow_le_pow_right (by decide) (by omega)))
    simp [hj, this]
theorem pow_in {j : Nat} (hj : j < 64) : IntKind.u64.wrap (2 ^ j) = ((2 ^ j : Nat) : Int) ∧ 2 ^ j < 18446744073709551616 := by
  have e2 : (2 : Nat) ^ 64 = 18446744073709551616 := by decide
  have h : 2 ^ j < 2 ^ 64 := Nat.pow_lt_pow_right (by decide) hj
  rw [e2] at h
  have e : ((2 : Int) ^ j) = ((2 ^ j : Nat) : Int) := by simp
  refine ⟨?_, h⟩
  rw [u64_wrap, e]
  exact Int.emod_eq_of_lt (Int.natCast_nonneg _) (Int.ofNat_lt.2 h)
theorem putW_bit (x : Int) (hx : 0 ≤ x ∧ x < 18446744073709551616) {j : Nat} (hj : j < 64) (t : Bool) : 0 ≤ putW x j t ∧ putW x j t < 18446744073709551616 ∧ ∀ i, (putW x j t).toNat.testBit i = if i = j then t else x.toNat.testBit i := by
  obtain ⟨e, hl⟩ := pow_in hj
  cases t
  · unfold putW
    simp only
    rw [e]
    obtain ⟨h1, h2, h3⟩ := andNot_bit x ((2 ^ j : Nat) : Int) hx ⟨Int.natCast_nonneg _, Int.ofNat_lt.2 hl⟩
    refine ⟨h1, h2, fun i => ?_⟩
    rw [h3, Int.toNat_natCast, Nat.testBit_two_pow]
    by_cases hi : i = j
    · subst hi; simp
    · have : ¬ j = i := fun h => hi h.symm
      simp [hi, this]
  · unfold putW
    simp only
    rw [e]
    obtain ⟨h1, h2, h3⟩ := or_bit x ((2 ^ j : Nat) : Int) hx ⟨Int.natCast_nonneg _, Int.ofNat_lt.2 hl⟩
    refine ⟨h1, h2, fun i => ?_⟩
    rw [h3, Int.toNat_natCast, Nat.testBit_two_pow]
    by_cases hi : i = j
    · subst hi; simp
    · have : ¬ j = i := fun h => hi h.symm
      simp [hi, this]
theorem setW_words {l : List Int} (h : Words l) (i : Nat) (t : Bool) : Words (setW l i t) := by
  unfold setW
  split
  · rename_i x hx
    intro y hy
    rcases List.mem_or_eq_of_mem_set hy with hy | rfl
    · exact h y hy
    · have := putW_bit x (h x (List.mem_of_getElem? hx)) (j := i % 64) (by omega) t
      exact ⟨this.1, this.2.1⟩
  · exact h
theorem setW_bit {l : List Int} (h : Words l) {i : Nat} (hi : i < 64 * l.length) (t : Bool) (n : Int) (m : Nat) : bitP ⟨n, setW l i t⟩ m = if m = i then t else bitP ⟨n, l⟩ m := by
  have hq : i / 64 < l.length := by omega
  have hx : l[i / 64]? = some l[i / 64] := List.getElem?_eq_getElem hq
  generalize l[i / 64] = x at hx
  have hr := h x (List.mem_of_getElem? hx)
  have e : setW l i t = l.set (i / 64) (putW x (i % 64) t) := by unfold setW; rw [hx]
  unfold bitP
  simp only
  rw [e]
  by_cases hm : m / 64 = i / 64
  · rw [hm, List.getElem?_set_self hq, hx]
    simp only
    rw [(putW_bit x hr (by omega) t).2.2]
    by_cases hmi : m = i
    · subst hmi; simp
    · have : ¬ m % 64 = i % 64 := by omega
      simp [hmi, this]
  · rw [List.getElem?_set_ne (by omega)]
    have : ¬ m = i := by intro h; subst h; exact hm rfl
    simp [this]
theorem okB_iff {b : BitB} : okB b = true ↔ 0 ≤ b.n ∧ b.n ≤ 4096 ∧ (b.w.length : Int) = (b.n + 63) / 64 ∧ ∀ i, i < 64 * b.w.length → b.n ≤ (i : Int) → bitP b i = false := by
  unfold okB
  simp only [Bool.and_eq_true, decide_eq_true_eq, List.all_eq_true, List.mem_range, Bool.or_eq_true, Bool.not_eq_true']
  constructor
  · rintro ⟨h0, h1, h2, h3⟩
    refine ⟨h0, h1, h2, fun i hi hn => ?_⟩
    rcases h3 i hi with h | h
    · omega
    · exact h
  · rintro ⟨h0, h1, h2, h3⟩
    refine ⟨h0, h1, h2, fun i hi => ?_⟩
    by_cases h : (i : Int) < b.n
    · exact Or.inl h
    · exact Or.inr (h3 i hi (by omega))
theorem ok_set {b : BitB} (h : okB b = true) (hw : Words b.w) {i : Nat} (hi : (i : Int) < b.n) (t : Bool) : okB ⟨b.n, setW b.w i t⟩ = true := by
  obtain ⟨h0, h1, h2, h3⟩ := okB_iff.1 h
  refine okB_iff.2 ⟨h0, h1, by simp only [setW_len]; exact h2, fun m hm hn => ?_⟩
  simp only [setW_len] at hm hn
  rw [setW_bit hw (by omega) t b.n m]
  have : ¬ m = i := by omega
  rw [if_neg this]
  exact h3 m hm hn
theorem fillW_words {l : List Int} (h : Words l) (f : Nat) (t : Bool) (k : Nat) : Words (fillW l f t k) := by
  induction k with
  | zero => exact h
  | succ k ih => exact setW_words ih _ _
theorem fillW_bit {l : List Int} (h : Words l) {f : Nat} (t : Bool) (n : Int) (m : Nat) : ∀ (k : Nat), f + k ≤ 64 * l.length → bitP ⟨n, fillW l f t k⟩ m = if f ≤ m ∧ m < f + k then t else bitP ⟨n, l⟩ m := by
  intro k
  induction k with
  | zero =>
    intro _
    have : ¬ (f ≤ m ∧ m < f + 0) := by omega
    rw [if_neg this]
    rfl
  | succ k ih =>
    intro hk
    rw [fillW, setW_bit (fillW_words h f t k) (by rw [fillW_len]; omega), ih (by omega)]
    by_cases hm : m = f + k
    · subst hm
      rw [if_pos rfl, if_pos ⟨by omega, by omega⟩]
    · rw [if_neg hm]
      by_cases h1 : f ≤ m ∧ m < f + k
      · rw [if_pos h1, if_pos ⟨h1.1, by omega⟩]
      · rw [if_neg h1, if_neg (by omega)]
theorem ok_fill {b : BitB} (h : okB b = true) (hw : Words b.w) (f n : Int) (t : Bool) : okB (fillB b f n t) = true ∧ (fillB b f n t).n = b.n ∧ Words (fillB b f n t).w := by
  unfold fillB
  rw [if_pos h]
  split
  · rename_i hi
    obtain ⟨i0, i1, i2, i3⟩ := hi
    refine ⟨?_, rfl, fillW_words hw _ _ _⟩
    have key : ∀ k, f.toNat + k ≤ b.n.toNat → okB ⟨b.n, fillW b.w f.toNat t k⟩ = true := by
      intro k
      induction k with
      | zero => intro _; exact h
      | succ k ih => intro hk; exact ok_set (b := ⟨b.n, fillW b.w f.toNat t k⟩) (ih (by omega)) (fillW_words hw _ _ _) (by simp only; omega) t
    exact key n.toNat (by omega)
  · exact ⟨h, rfl, hw⟩
theorem ok_made {n : Int} (h0 : 0 ≤ n) (h1 : n ≤ 4096) : okB (makeB n) = true ∧ (makeB n).n = n ∧ Words (makeB n).w := by
  have e : makeB n = ⟨n, List.replicate ((n + 63) / 64).toNat 0⟩ := by unfold makeB; rw [if_pos (show makeOk n from ⟨h0, h1⟩)]
  rw [e]
  refine ⟨okB_iff.2 ⟨h0, h1, by simp only [List.length_replicate]; omega, fun i hi hn => ?_⟩, rfl, ?_⟩
  · unfold bitP
    simp only
    rw [List.getElem?_replicate]
    split
    · rename_i x hx
      split at hx
      · cases hx; simp
      · cases hx
    · rfl
  · intro x hx
    rw [(List.mem_replicate.1 hx).2]
    omega
theorem ok_put {b : BitB} (h : okB b = true) (hw : Words b.w) (i : Int) (t : Bool) : okB (putB b i t) = true ∧ (putB b i t).n = b.n ∧ Words (putB b i t).w := by
  unfold putB
  rw [if_pos h]
  split
  · rename_i hi
    obtain ⟨i0, i1⟩ := hi
    exact ⟨ok_set h hw (by omega) t, rfl, setW_words hw _ _⟩
  · exact ⟨h, rfl, hw⟩
theorem ok_want0 {n : Int} (h0 : 0 ≤ n) (h1 : n ≤ 4096) : okB (want0 n) = true ∧ (want0 n).n = n ∧ Words (want0 n).w := by
  obtain ⟨a, b, c⟩ := ok_made h0 h1
  obtain ⟨d, e, f⟩ := ok_put a c 0 true
  exact ⟨d, by rw [want0, e, b], f⟩
theorem ok_want : ∀ (l : List SpanB) (b : BitB), okB b = true → Words b.w → okB (wantTo b l) = true ∧ (wantTo b l).n = b.n ∧ Words (wantTo b l).w := by
  intro l
  induction l with
  | nil => intro b h hw; exact ⟨h, rfl, hw⟩
  | cons s t ih =>
    intro b h hw
    obtain ⟨a, e, c⟩ := ok_fill h hw s.first s.pages true
    obtain ⟨a2, e2, c2⟩ := ih _ a c
    exact ⟨a2, by rw [wantTo, e2, e], c2⟩
/-- Right bits of one length that are alike are one. -/
theorem bits_ext {a b : BitB} (ha : okB a = true) (hb : okB b = true) (hn : a.n = b.n) (wa : Words a.w) (wb : Words b.w) (h : ∀ i : Nat, (i : Int) < a.n → bitP a i = bitP b i) : a.w = b.w := by
  obtain ⟨a0, a1, a2, a3⟩ := okB_iff.1 ha
  obtain ⟨b0, b1, b2, b3⟩ := okB_iff.1 hb
  have hl : a.w.length = b.w.length := by rw [hn] at a2; omega
  have all : ∀ i : Nat, i < 64 * a.w.length → bitP a i = bitP b i := by
    intro i hi
    by_cases hc : (i : Int) < a.n
    · exact h i hc
    · rw [a3 i hi (by omega), b3 i (by omega) (by omega)]
  refine List.ext_getElem? fun i => ?_
  by_cases hi : i < a.w.length
  · have hx : a.w[i]? = some a.w[i] := List.getElem?_eq_getElem hi
    have hy : b.w[i]? = some (b.w[i]'(by omega)) := List.getElem?_eq_getElem _
    generalize a.w[i] = x at hx
    generalize (b.w[i]'_) = y at hy
    rw [hx, hy]
    have rx := wa x (List.mem_of_getElem? hx)
    have ry := wb y (List.mem_of_getElem? hy)
    have e2 : (2 : Nat) ^ 64 = 18446744073709551616 := by decide
    have : x.toNat = y.toNat := by
      apply Nat.eq_of_testBit_eq
      intro j
      by_cases hj : j < 64
      · have := all (64 * i + j) (by omega)
        rwa [bitP_at hx hj, bitP_at hy hj] at this
      · have hp : (2 : Nat) ^ 64 ≤ 2 ^ j := Nat.pow_le_pow_right (by decide) (by omega)
        rw [e2] at hp
        rw [Nat.testBit_lt_two_pow (show x.toNat < 2 ^ j by omega), Nat.testBit_lt_two_pow (show y.toNat < 2 ^ j by omega)]
    congr 1
    omega
  · rw [List.getElem?_eq_none (by omega), List.getElem?_eq_none (by omega)]
end Go.Proofs.YtieijfefnedifaaGreatDoor
