/- The walks of Has, of the two many and of longest. -/
import Derived.Test.YtinjeoohklabpaaY1
namespace Go.Proofs.Ytinjeoohklabpaa
open Go.RowKit
set_option linter.unusedVariables false
set_option linter.unusedSimpArgs false

def hasN (l : List (List Int)) (a : Int) : Nat := (l.map (List.count a)).sum
def manyN (l : List (List Int)) : Nat := (l.map List.length).sum
theorem hasN_succ {l : List (List Int)} {k : Nat} {s : List Int} (hs : l[k]? = some s) (a : Int) : hasN (l.take (k + 1)) a = hasN (l.take k) a + s.count a := by
  simp [hasN, List.take_add_one, hs]
theorem manyN_succ {l : List (List Int)} {k : Nat} {s : List Int} (hs : l[k]? = some s) : manyN (l.take (k + 1)) = manyN (l.take k) + s.length := by
  simp [manyN, List.take_add_one, hs]
theorem manyN_take (l : List (List Int)) (k : Nat) : manyN (l.take k) ≤ manyN l := by
  have h : manyN (l.take k ++ l.drop k) = manyN (l.take k) + manyN (l.drop k) := by simp only [manyN, List.map_append, List.sum_append]
  rw [List.take_append_drop] at h
  omega
theorem hasN_take (l : List (List Int)) (a : Int) (k : Nat) : hasN (l.take k) a ≤ hasN l a := by
  have h : hasN (l.take k ++ l.drop k) a = hasN (l.take k) a + hasN (l.drop k) a := by simp only [hasN, List.map_append, List.sum_append]
  rw [List.take_append_drop] at h
  omega
theorem hasN_le (l : List (List Int)) (a : Int) : hasN l a ≤ manyN l := by
  induction l with
  | nil => simp [hasN, manyN]
  | cons x t ih =>
    simp only [hasN, manyN, List.map_cons, List.sum_cons] at ih ⊢
    have := List.count_le_length (a := a) (l := x)
    omega
theorem count_succ {s : List Int} {j : Nat} {x : Int} (h : s[j]? = some x) (a : Int) : (s.take (j + 1)).count a = (s.take j).count a + (if x = a then 1 else 0) := by
  simp [List.take_add_one, h, List.count_singleton]
theorem count_take (s : List Int) (a : Int) (k : Nat) : (s.take k).count a ≤ s.count a := by
  have h : (s.take k ++ s.drop k).count a = (s.take k).count a + (s.drop k).count a := by rw [List.count_append]
  rw [List.take_append_drop] at h
  omega

set_option maxRecDepth 100000 in
set_option maxHeartbeats 8000000 in
theorem hasQ (A : Option Addr) (c : Nat) (vs : List QV) (l : List (List Int)) (a : Int) (w : World) (ha : RdQ w A vs l) (hm : manyN l ≤ 1000000) :
    Calls Try.prog 22 #[.agg #[.slice A l.length c], .int .u64 a] w (Ret (.int .i64 (hasN l a : Nat)) w) := by
  have hl := ha.len
  have HA := Lib.hid ha
  have HM := Lib.hid hm
  have HB1 := Lib.hid (balloc (Below.refl w.heap.size w) (.cells #[.slice A l.length c] 24))
  clear ha hm
  go_enter Try.func22, Try.ntmps22
  go_wp2
  go_loopw [5, 13] (fun n i wr => ∃ k z : Nat, n = .int .i64 z ∧ k ≤ l.length ∧ i = .int .i64 k ∧ Hid (z = hasN (l.take k) a) ∧ Hid (Below w.heap.size w wr)) (fun n i _ => l.length - (intOf i).toNat)
  case atStart => exact ⟨0, 0, rfl, Nat.zero_le _, rfl, Eq.refl (hasN (l.take 0) a), HB1.out⟩
  case round =>
    obtain ⟨k, z, rfl, hk, rfl, HZ, HBr⟩ := hrel
    by_cases hlt : k < l.length
    · have hs : l[k]? = some l[k] := List.getElem?_eq_getElem hlt
      generalize l[k] = s at hs
      obtain ⟨v, bv, ov, hvi, hA, hbv, c0, hR⟩ := HA.out.at_ hs
      subst hA
      have hsl := hR.len
      have HR := Lib.hid (hR.below HBr.out)
      obtain ⟨v1, v2, v3⟩ := v
      simp only at c0 HR
      have HS := Lib.hid hs
      have hc := cell_later HBr.out c0
      clear hR hvi hs c0
      go_wp2
      go_loopw [5, 19] (fun n j wr2 => ∃ q y : Nat, n = .int .i64 y ∧ q ≤ s.length ∧ j = .int .i64 q ∧ Hid (y = hasN (l.take k) a + (s.take q).count a) ∧ Hid (Below wr.heap.size wr wr2)) (fun n j _ => s.length - (intOf j).toNat)
      case atStart => exact ⟨0, z, rfl, Nat.zero_le _, rfl, (by show _ = _; rw [HZ.out]; simp), Below.refl _ _⟩
      case round =>
        obtain ⟨q, y, rfl, hq, rfl, HY, HBq⟩ := hrel
        by_cases hqt : q < s.length
        · have hx : s[q]? = some s[q] := List.getElem?_eq_getElem hqt
          generalize s[q] = x at hx
          obtain ⟨b2, o2, e2, _, d0⟩ := HR.out.at_ hx
          subst e2
          have d0 := cell_later HBq.out d0
          have hyb : y ≤ 2000000 := by
            have h1 := HY.out
            have h2 := HM.out
            have h3 := hasN_succ HS.out a
            have h4 := hasN_take l a (k + 1)
            have h5 := hasN_le l a
            have h6 := count_take s a q
            omega
          have HX := Lib.hid hx
          clear hx
          by_cases hxa : x = a
          · have HY2 : Hid (y + 1 = hasN (l.take k) a + (s.take (q + 1)).count a) := by show _ = _; rw [count_succ HX.out, if_pos hxa, HY.out]; omega
            have e1 : (x == a) = true := by simp [hxa]
            clear hxa
            go_wp2
            go_roundw
            case rel => exact ⟨q + 1, y + 1, by go_num, by omega, by go_num, HY2.out, HBq.out⟩
            case measure => simp [intOf]; omega
          · have HY2 : Hid (y = hasN (l.take k) a + (s.take (q + 1)).count a) := by show _ = _; rw [count_succ HX.out, if_neg hxa, HY.out]; omega
            have e1 : (x == a) = false := by simp [hxa]
            clear hxa
            go_wp2
            go_roundw
            case rel => exact ⟨q + 1, y, rfl, by omega, by go_num, HY2.out, HBq.out⟩
            case measure => simp [intOf]; omega
        · obtain rfl : q = s.length := by omega
          have HY2 : Hid (y = hasN (l.take (k + 1)) a) := by show _ = _; rw [HY.out, hasN_succ HS.out, List.take_length]
          have HBW := Lib.hid (bthen HBr.out HBq.out)
          go_wp2
          go_roundw
          case rel => exact ⟨k + 1, y, rfl, by omega, by go_num, HY2.out, HBW.out⟩
          case measure => simp [intOf]; omega
    · obtain rfl : k = l.length := by omega
      go_wp2
      go_ret
      refine ⟨?_, HBr.out⟩
      have := HZ.out
      rw [List.take_length] at this
      rw [this]
      rfl

set_option maxRecDepth 100000 in
set_option maxHeartbeats 8000000 in
theorem manyR (A : Option Addr) (c : Nat) (vs : List QV) (l : List (List Int)) (w : World) (ha : RdQ w A vs l) (hm : manyN l ≤ 1000000) :
    Calls Try.prog 25 #[.agg #[.slice A l.length c]] w (Ret (.int .i64 (manyN l : Nat)) w) := by
  have hl := ha.len
  have HA := Lib.hid ha
  have HM := Lib.hid hm
  have HB1 := Lib.hid (balloc (Below.refl w.heap.size w) (.cells #[.slice A l.length c] 24))
  clear ha hm
  go_enter Try.func25, Try.ntmps25
  go_wp2
  go_loopw [3, 9] (fun n i wr => ∃ k z : Nat, n = .int .i64 z ∧ k ≤ l.length ∧ i = .int .i64 k ∧ Hid (z = manyN (l.take k)) ∧ Hid (Below w.heap.size w wr)) (fun n i _ => l.length - (intOf i).toNat)
  case atStart => exact ⟨0, 0, rfl, Nat.zero_le _, rfl, Eq.refl (manyN (l.take 0)), HB1.out⟩
  case round =>
    obtain ⟨k, z, rfl, hk, rfl, HZ, HBr⟩ := hrel
    by_cases hlt : k < l.length
    · have hs : l[k]? = some l[k] := List.getElem?_eq_getElem hlt
      generalize l[k] = s at hs
      obtain ⟨v, bv, ov, hvi, hA, hbv, c0, hR⟩ := HA.out.at_ hs
      subst hA
      obtain ⟨v1, v2, v3⟩ := v
      simp only at c0
      have HZ2 : Hid (z + s.length = manyN (l.take (k + 1))) := by show _ = _; rw [manyN_succ hs, HZ.out]
      have hzb : z + s.length ≤ 1000000 := by
        have h1 := HZ2.out
        have h2 := HM.out
        have h3 := manyN_take l (k + 1)
        omega
      have hc := cell_later HBr.out c0
      clear hR hvi hs c0
      go_wp2
      go_roundw
      case rel => exact ⟨k + 1, z + s.length, by go_num, by omega, by go_num, HZ2.out, HBr.out⟩
      case measure => simp [intOf]; omega
    · obtain rfl : k = l.length := by omega
      go_wp2
      go_ret
      refine ⟨?_, HBr.out⟩
      have := HZ.out
      rw [List.take_length] at this
      rw [this]
      rfl

/-- As many as there are, or more than there may be. -/
def ManyP (l : List (List Int)) (w : World) (e : Ending) (w' : World) : Prop := ∃ n : Nat, (manyN l ≤ 16384 → n = manyN l) ∧ (16384 < manyN l → 16384 < n) ∧ n ≤ 100000 ∧ e = .returned (.int .i64 n) ∧ Below w.heap.size w w'
set_option maxRecDepth 100000 in
set_option maxHeartbeats 8000000 in
theorem manyC (A : Option Addr) (b c : Nat) (vs : List QV) (l : List (List Int)) (w : World) (ha : RdQ w A vs l) (hv : VarG w b A l.length c) :
    Calls Try.prog 28 #[.pointer (some ⟨b, 0, none⟩)] w (ManyP l w) := by
  have hl := ha.len
  have HA := Lib.hid ha
  unfold VarG at hv
  clear ha
  go_enter Try.func28, Try.ntmps28
  go_upto_block 0 with fail
  go_cut [3] (fun n wx => ∃ z : Nat, n = .int .i64 z ∧ (manyN l ≤ 16384 → z = manyN l) ∧ (16384 < manyN l → 16384 < z) ∧ z ≤ 100000 ∧ Below w.heap.size w wx)
  case first =>
    go_wp2
    go_loopw [3, 12] (fun n i wr => ∃ k z : Nat, n = .int .i64 z ∧ k ≤ l.length ∧ i = .int .i64 k ∧ z ≤ 16384 ∧ Hid (z = manyN (l.take k)) ∧ Hid (Below w.heap.size w wr)) (fun n i _ => l.length - (intOf i).toNat)
    case atStart => exact ⟨0, 0, rfl, Nat.zero_le _, rfl, Nat.zero_le _, Eq.refl (manyN (l.take 0)), Below.refl _ _⟩
    case round =>
      obtain ⟨k, z, rfl, hk, rfl, hz, HZ, HBr⟩ := hrel
      by_cases hlt : k < l.length
      · have hs : l[k]? = some l[k] := List.getElem?_eq_getElem hlt
        generalize l[k] = s at hs
        obtain ⟨v, bv, ov, hvi, hA, hbv, c0, hR⟩ := HA.out.at_ hs
        subst hA
        obtain ⟨v1, v2, v3⟩ := v
        simp only at c0
        have HZ2 : Hid (z + s.length = manyN (l.take (k + 1))) := by show _ = _; rw [manyN_succ hs, HZ.out]
        have HZ3 : Hid (manyN (l.take (k + 1)) ≤ manyN l) := manyN_take l (k + 1)
        have hc := cell_later HBr.out c0
        clear hR hvi hs c0
        obtain ⟨y, hy⟩ : ∃ y : Nat, y = min s.length 16385 := ⟨_, rfl⟩
        have hy1 : min (s.length : Int) 16385 = (y : Int) := by omega
        have HY := Lib.hid hy
        have hyb : y ≤ 16385 := by omega
        clear hy
        by_cases hbig : 16384 < z + y
        · go_wp2
          go_meet
          refine ⟨z + y, by go_num, fun h => ?_, fun _ => hbig, by omega, HBr.out⟩
          have h1 := HY.out
          have h2 := HZ2.out
          have h3 := HZ3.out
          omega
        · have hys : y = s.length := by have := HY.out; omega
          subst hys
          go_wp2
          go_roundw
          case rel => exact ⟨k + 1, z + s.length, by go_num, by omega, by go_num, by omega, HZ2.out, HBr.out⟩
          case measure => simp [intOf]; omega
      · obtain rfl : k = l.length := by omega
        have HZ2 : Hid (z = manyN l) := by have := HZ.out; rw [List.take_length] at this; exact this
        go_wp2
        go_meet
        exact ⟨z, rfl, fun _ => HZ2.out, fun h => by have := HZ2.out; omega, by omega, HBr.out⟩
  case rest =>
    obtain ⟨z, rfl, h1, h2, h3, hb1⟩ := hcut
    have H1 := Lib.hid h1
    have H2 := Lib.hid h2
    have HB := Lib.hid hb1
    clear h1 h2 hb1
    go_wp2
    go_ret
    exact ⟨z, H1.out, H2.out, h3, rfl, HB.out⟩

/-- The first of the longest of the first k. -/
def lenAt (l : List (List Int)) (i : Nat) : Nat := match l[i]? with | some s => s.length | none => 0
def bestTo (l : List (List Int)) : Nat → Nat
  | 0 => 0
  | k + 1 => if lenAt l (bestTo l k) < lenAt l k then k else bestTo l k
theorem bestTo_le (l : List (List Int)) (k : Nat) : bestTo l k ≤ k := by
  induction k with
  | zero => simp [bestTo]
  | succ k ih => simp only [bestTo]; split <;> omega
theorem bestTo_lt (l : List (List Int)) (k : Nat) (hk : k < l.length) : bestTo l k < l.length := Nat.lt_of_le_of_lt (bestTo_le l k) hk
theorem lenAt_eq {l : List (List Int)} {i : Nat} {s : List Int} (h : l[i]? = some s) : lenAt l i = s.length := by simp [lenAt, h]
set_option maxRecDepth 100000 in
set_option maxHeartbeats 8000000 in
theorem longestC (A : Option Addr) (b c : Nat) (vs : List QV) (l : List (List Int)) (w : World) (ha : RdQ w A vs l) (hv : VarG w b A l.length c) :
    Calls Try.prog 26 #[.pointer (some ⟨b, 0, none⟩)] w (Ret (.int .i64 (bestTo l l.length : Nat)) w) := by
  have hl := ha.len
  have HA := Lib.hid ha
  have hbs := hv.lt
  unfold VarG at hv
  have HV := Lib.hid hv
  clear ha
  go_enter Try.func26, Try.ntmps26
  go_wp2
  go_loopw [3, 12] (fun n i wr => ∃ k z : Nat, n = .int .i64 z ∧ k ≤ l.length ∧ i = .int .i64 k ∧ z ≤ k ∧ Hid (z = bestTo l k) ∧ Hid (Below w.heap.size w wr)) (fun n i _ => l.length - (intOf i).toNat)
  case atStart => exact ⟨0, 0, rfl, Nat.zero_le _, rfl, Nat.le_refl _, Eq.refl (bestTo l 0), Below.refl _ _⟩
  case round =>
    obtain ⟨k, z, rfl, hk, rfl, hz, HZ, HBr⟩ := hrel
    by_cases hlt : k < l.length
    · have hs : l[k]? = some l[k] := List.getElem?_eq_getElem hlt
      generalize l[k] = s at hs
      have hzl : z < l.length := by omega
      have hzl1 : (z : Int) < (l.length : Int) := by omega
      have ht : l[z]? = some l[z] := List.getElem?_eq_getElem hzl
      generalize l[z] = t at ht
      obtain ⟨v, bv, ov, hvi, hA, hbv, c0, hR⟩ := HA.out.at_ hs
      obtain ⟨u, bu, ou, hui, hA', hbu, d0, hR'⟩ := HA.out.at_ ht
      rw [hA] at hA'
      injection hA' with hA'
      injection hA' with e1 e2
      subst e1
      subst e2
      subst hA
      have hsl := hR.len
      have htl := hR'.len
      obtain ⟨v1, v2, v3⟩ := v
      obtain ⟨u1, u2, u3⟩ := u
      simp only at c0 d0
      have hc := cell_later HBr.out c0
      have hd := cell_later HBr.out d0
      have hv2 := cell_later HBr.out HV.out
      have HE : Hid (lenAt l k = s.length ∧ lenAt l (bestTo l k) = t.length) := ⟨lenAt_eq hs, by rw [← HZ.out]; exact lenAt_eq ht⟩
      clear hR hR' hvi hui hs ht c0 d0 hv
      by_cases hgt : t.length < s.length
      · have HN : Hid (k = bestTo l (k + 1)) := by show _ = _; simp only [bestTo]; rw [HE.out.1, HE.out.2, if_pos hgt]
        go_wp2
        go_roundw
        case rel => exact ⟨k + 1, k, rfl, by omega, by go_num, by omega, HN.out, HBr.out⟩
        case measure => simp [intOf]; omega
      · have HN : Hid (z = bestTo l (k + 1)) := by show _ = _; simp only [bestTo]; rw [HE.out.1, HE.out.2, if_neg hgt, HZ.out]
        go_wp2
        go_roundw
        case rel => exact ⟨k + 1, z, rfl, by omega, by go_num, by omega, HN.out, HBr.out⟩
        case measure => simp [intOf]; omega
    · obtain rfl : k = l.length := by omega
      go_wp2
      go_ret
      exact ⟨by rw [HZ.out]; rfl, HBr.out⟩
end Go.Proofs.Ytinjeoohklabpaa
