/- The walks of slices.Equal on words, and of the reference's Same of bits. -/
import Derived.Test.YtchbbldanmmpjaaDoorS9
namespace Go.Proofs.YtchbbldanmmpjaaDoor
open Go.RowKit
set_option linter.unusedVariables false
set_option linter.unusedSimpArgs false

theorem take_eq_succ {l m : List Int} {k : Nat} {x y : Int} (h : l.take k = m.take k) (hx : l[k]? = some x) (hy : m[k]? = some y) (e : x = y) : l.take (k + 1) = m.take (k + 1) := by
  obtain ⟨h1, h2⟩ := List.getElem?_eq_some_iff.1 hx
  obtain ⟨h3, h4⟩ := List.getElem?_eq_some_iff.1 hy
  rw [List.take_succ_eq_append_getElem h1, List.take_succ_eq_append_getElem h3, h, h2, h4, e]
theorem ne_of_at {l m : List Int} {k : Nat} {x y : Int} (hx : l[k]? = some x) (hy : m[k]? = some y) (e : x ≠ y) : l ≠ m := by
  rintro rfl
  rw [hx] at hy
  exact e (Option.some.inj hy)

set_option maxRecDepth 100000 in
set_option maxHeartbeats 8000000 in
theorem equal66 (la lb : List Int) (A B : Option Addr) (ca cb m : Nat) (w : World) (ha : RdU w A la) (hb : RdU w B lb) (hm : lb.length = m) :
    Calls Tryd.prog 66 #[.slice A la.length ca, .slice B m cb] w (Ret (.bool (decide (la = lb))) w) := by
  have hla := ha.len
  have hlb := hb.len
  rw [hm] at hlb
  have HA := Lib.hid ha
  have HB := Lib.hid hb
  have HB0 := Lib.hid (Below.refl w.heap.size w)
  clear ha hb
  by_cases h : la.length = m
  · subst h
    have HM := Lib.hid hm
    clear hm
    go_enter Tryd.func66, Tryd.ntmps66
    go_wp2
    obtain ⟨wo, hwo⟩ : ∃ wo : World, wo = w := ⟨_, rfl⟩
    go_loopw [13] (fun i wr => ∃ k : Nat, k ≤ la.length ∧ i = .int .i64 k ∧ Hid (la.take k = lb.take k) ∧ Hid (Below w.heap.size w wr)) (fun i _ => la.length - (intOf i).toNat)
    case atStart => exact ⟨0, Nat.zero_le _, rfl, rfl, Below.refl _ _⟩
    case round =>
      obtain ⟨k, hk, rfl, HT, HBr⟩ := hrel
      by_cases hlt : k < la.length
      · have hx : la[k]? = some la[k] := List.getElem?_eq_getElem hlt
        have hy : lb[k]? = some (lb[k]'(by have := HM.out; omega)) := List.getElem?_eq_getElem (by have := HM.out; omega)
        obtain ⟨b1, o1, e1, _, c1⟩ := HA.out.at_ hx
        obtain ⟨b2, o2, e2, _, c2⟩ := HB.out.at_ hy
        cases e1
        cases e2
        have c1 := cell_later HBr.out c1
        have c2 := cell_later HBr.out c2
        have HX := Lib.hid hx
        have HY := Lib.hid hy
        clear hx hy
        generalize la[k] = x at *
        generalize (lb[k]'_) = y at *
        skip
        by_cases hxy : x = y
        · have e1 : (x != y) = false := by simp [hxy]
          have HE := Lib.hid hxy
          clear hxy
          go_wp2
          go_quiet (fail)
          go_wp2
          go_roundw
          case rel => exact ⟨k + 1, by omega, by go_num, take_eq_succ HT.out HX.out HY.out HE.out, by first | exact HBr.out | exact bdrewN HBr.out _⟩
          case measure => simp [intOf]; omega
        · have e1 : (x != y) = true := by simp [hxy]
          have HE := Lib.hid hxy
          clear hxy
          go_wp2
          go_quiet (fail)
          go_wp2
          go_ret
          (rw [decide_eq_false (ne_of_at HX.out HY.out HE.out)]; exact ⟨rfl, bdrewN HBr.out _⟩)
      · obtain rfl : k = la.length := by omega
        skip
        go_wp2
        go_ret
        (rw [decide_eq_true (show la = lb from by have := HT.out; rwa [List.take_length, ← HM.out, List.take_length] at this)]; exact ⟨rfl, HBr.out⟩)
  · have E : Hid (decide (la = lb) = false) := by show _ = _; exact decide_eq_false (fun e => h (by rw [e, hm]))
    have e1 : (la.length == m) = false := by simpa using h
    have e2 : (la.length != m) = true := by simpa using h
    have e3 : (((la.length : Nat) : Int) != ((m : Nat) : Int)) = true := by rw [bne_iff_ne]; omega
    clear h hm
    go_enter Tryd.func66, Tryd.ntmps66
    go_wp2
    go_ret
    rw [E.out]
    exact ⟨rfl, Below.refl _ _⟩
def sameB (a b : BitB) : Bool := decide (a = b)
theorem sameB_yes {n : Int} {l m : List Int} (h : l = m) : sameB ⟨n, l⟩ ⟨n, m⟩ = true := by simp [sameB, h]
theorem sameB_no {n n' : Int} {l m : List Int} (h : l ≠ m) : sameB ⟨n, l⟩ ⟨n', m⟩ = false := by simp [sameB, h]
set_option maxRecDepth 100000 in
set_option maxHeartbeats 8000000 in
theorem same45 (v u : BitV) (a b : BitB) (w : World) (ha : RdB w v a) (hb : RdB w u b) :
    Calls Tryd.prog 45 #[v.v, u.v] w (Ret (.bool (sameB a b)) w) := by
  obtain ⟨n, A, m, ca⟩ := v
  obtain ⟨n', B, m', cb⟩ := u
  obtain ⟨rfl, rfl, hc1, _, _, _, hra⟩ := ha
  obtain ⟨rfl, hm, hc2, _, _, _, hrb⟩ := hb
  obtain ⟨n, la⟩ := a
  obtain ⟨n', lb⟩ := b
  simp only at hm hra hrb
  have hla := hra.len
  have hlb := hrb.len
  rw [← hm] at hlb
  have HA := Lib.hid hra
  have HB := Lib.hid hrb
  clear hra hrb hc1 hc2
  unfold BitV.v
  simp only
  have HB0 : Hid (Below w.heap.size w ((w.alloc (.cells #[.int .i64 n, .slice A la.length ca] 24)).alloc (.cells #[.int .i64 n', .slice B m' cb] 24))) := balloc (balloc (Below.refl _ _) _) _
  by_cases hn : n = n'
  · subst hn
    by_cases h : la.length = m'
    · subst h
      have HM := Lib.hid hm.symm
      clear hm
      have F1 : Hid (((w.alloc (.cells #[.int .i64 n, .slice A la.length ca] 24)).alloc (.cells #[.int .i64 n, .slice B la.length cb] 24)).cell? ⟨w.heap.size, 1, none⟩ = some (.slice A la.length ca)) := by show _ = _; go_simp
      have F2 : Hid (((w.alloc (.cells #[.int .i64 n, .slice A la.length ca] 24)).alloc (.cells #[.int .i64 n, .slice B la.length cb] 24)).cell? ⟨w.heap.size + 1, 1, none⟩ = some (.slice B la.length cb)) := by show _ = _; go_simp
      have HS : Hid (w.heap.size + 2 ≤ ((w.alloc (.cells #[.int .i64 n, .slice A la.length ca] 24)).alloc (.cells #[.int .i64 n, .slice B la.length cb] 24)).heap.size) := by show _ ≤ _; simp
      go_enter Tryd.func45, Tryd.ntmps45
      go_wp2
      generalize ((w.alloc (.cells #[.int .i64 n, .slice A la.length ca] 24)).alloc (.cells #[.int .i64 n, .slice B la.length cb] 24)) = W0 at *
      have HA := Lib.hid (HA.out.below HB0.out)
      have HB := Lib.hid (HB.out.below HB0.out)
      clear HS
      obtain ⟨wo, hwo⟩ : ∃ wo : World, wo = W0 := ⟨_, rfl⟩
      go_loopw [23] (fun i wr => ∃ k : Nat, k ≤ la.length ∧ i = .int .i64 k ∧ Hid (la.take k = lb.take k) ∧ Hid (Below W0.heap.size W0 wr)) (fun i _ => la.length - (intOf i).toNat)
      case atStart => exact ⟨0, Nat.zero_le _, rfl, rfl, Below.refl _ _⟩
      case round =>
        obtain ⟨k, hk, rfl, HT, HBr⟩ := hrel
        by_cases hlt : k < la.length
        · have hx : la[k]? = some la[k] := List.getElem?_eq_getElem hlt
          have hy : lb[k]? = some (lb[k]'(by have := HM.out; omega)) := List.getElem?_eq_getElem (by have := HM.out; omega)
          obtain ⟨b1, o1, e1, _, c1⟩ := HA.out.at_ hx
          obtain ⟨b2, o2, e2, _, c2⟩ := HB.out.at_ hy
          cases e1
          cases e2
          have c1 := cell_later HBr.out c1
          have c2 := cell_later HBr.out c2
          have HX := Lib.hid hx
          have HY := Lib.hid hy
          clear hx hy
          generalize la[k] = x at *
          generalize (lb[k]'_) = y at *
          (have f1 := cell_later HBr.out F1.out; have f2 := cell_later HBr.out F2.out)
          by_cases hxy : x = y
          · have e1 : (x != y) = false := by simp [hxy]
            have HE := Lib.hid hxy
            clear hxy
            go_wp2
            go_quiet (fail)
            go_wp2
            go_roundw
            case rel => exact ⟨k + 1, by omega, by go_num, take_eq_succ HT.out HX.out HY.out HE.out, by first | exact HBr.out | exact bdrewN HBr.out _⟩
            case measure => simp [intOf]; omega
          · have e1 : (x != y) = true := by simp [hxy]
            have HE := Lib.hid hxy
            clear hxy
            go_wp2
            go_quiet (fail)
            go_wp2
            go_ret
            (rw [sameB_no (ne_of_at HX.out HY.out HE.out)]; exact ⟨rfl, bthen HB0.out (bdrewN HBr.out _)⟩)
        · obtain rfl : k = la.length := by omega
          skip
          go_wp2
          go_ret
          (rw [sameB_yes (show la = lb from by have := HT.out; rwa [List.take_length, ← HM.out, List.take_length] at this)]; exact ⟨rfl, bthen HB0.out HBr.out⟩)
    · have E : Hid (sameB ⟨n, la⟩ ⟨n, lb⟩ = false) := by show _ = _; exact sameB_no (fun e => h (by rw [e, hm]))
      have e1 : (la.length == m') = false := by simpa using h
      have e2 : (la.length != m') = true := by simpa using h
      have e3 : (((la.length : Nat) : Int) != ((m' : Nat) : Int)) = true := by rw [bne_iff_ne]; omega
      clear h hm
      go_enter Tryd.func45, Tryd.ntmps45
      go_wp2
      go_ret
      rw [E.out]
      exact ⟨rfl, HB0.out⟩
  · have E : Hid (sameB ⟨n, la⟩ ⟨n', lb⟩ = false) := by show _ = _; simp [sameB, hn]
    have e3 : (n != n') = true := by simpa using hn
    clear hn hm
    go_enter Tryd.func45, Tryd.ntmps45
    go_wp2
    go_ret
    rw [E.out]
    exact ⟨rfl, HB0.out⟩
end Go.Proofs.YtchbbldanmmpjaaDoor
