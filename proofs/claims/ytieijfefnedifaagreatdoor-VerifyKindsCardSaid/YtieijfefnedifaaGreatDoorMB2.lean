/- Out of the texts of spans: SA SB SC SD SE SF. -/
import Derived.Test.YtieijfefnedifaaGreatDoorMB1
import Derived.Laws.BitsLemmas
namespace Go.Proofs.YtieijfefnedifaaGreatDoor
open Go.RowKit
set_option linter.unusedVariables false
set_option linter.unusedSimpArgs false

theorem take_eq_succ {l m : List Int} {k : Nat} {x y : Int} (h : l.take k = m.take k) (hx : l[k]? = some x) (hy : m[k]? = some y) (e : x = y) : l.take (k + 1) = m.take (k + 1) := by
  obtain ⟨h1, h2⟩ := List.getElem?_eq_some_iff.1 hx
  obtain ⟨h3, h4⟩ := List.getElem?_eq_some_iff.1 hy
  rw [List.take_succ_eq_append_getElem h1, List.take_succ_eq_append_getElem h3, h, h2, h4, e]
theorem ne_of_at {l m : List Int} {k : Nat} {x y : Int} (hx : l[k]? = some x) (hy : m[k]? = some y) (e : x ≠ y) : l ≠ m := by
  rintro rfl
  rw [hx] at hy
  exact e (Option.some.inj hy)

set_option maxRecDepth 100000 in
set_option maxHeartbeats 8000000 in
theorem equal66 (la lb : List Int) (A B : Option Addr) (ca cb m : Nat) (w : World) (ha : RdU w A la) (hb : RdU w B lb) (hm : lb.length = m) :
    Calls Tryz.prog 81 #[.slice A la.length ca, .slice B m cb] w (Ret (.bool (decide (la = lb))) w) := by
  have hla := ha.len
  have hlb := hb.len
  rw [hm] at hlb
  have HA := Lib.hid ha
  have HB := Lib.hid hb
  have HB0 := Lib.hid (Below.refl w.heap.size w)
  clear ha hb
  by_cases h : la.length = m
  · subst h
    have HM := Lib.hid hm
    clear hm
    go_enter Tryz.func81, Tryz.ntmps81
    go_wp2
    obtain ⟨wo, hwo⟩ : ∃ wo : World, wo = w := ⟨_, rfl⟩
    go_loopw [13] (fun i wr => ∃ k : Nat, k ≤ la.length ∧ i = .int .i64 k ∧ Hid (la.take k = lb.take k) ∧ Hid (Below w.heap.size w wr)) (fun i _ => la.length - (intOf i).toNat)
    case atStart => exact ⟨0, Nat.zero_le _, rfl, rfl, Below.refl _ _⟩
    case round =>
      obtain ⟨k, hk, rfl, HT, HBr⟩ := hrel
      by_cases hlt : k < la.length
      · have hx : la[k]? = some la[k] := List.getElem?_eq_getElem hlt
        have hy : lb[k]? = some (lb[k]'(by have := HM.out; omega)) := List.getElem?_eq_getElem (by have := HM.out; omega)
        obtain ⟨b1, o1, e1, _, c1⟩ := HA.out.at_ hx
        obtain ⟨b2, o2, e2, _, c2⟩ := HB.out.at_ hy
        cases e1
        cases e2
        have c1 := cell_later HBr.out c1
        have c2 := cell_later HBr.out c2
        have HX := Lib.hid hx
        have HY := Lib.hid hy
        clear hx hy
        generalize la[k] = x at *
        generalize (lb[k]'_) = y at *
        skip
        by_cases hxy : x = y
        · have e1 : (x != y) = false := by simp [hxy]
          have HE := Lib.hid hxy
          clear hxy
          go_wp2
          go_quiet (fail)
          go_wp2
          go_roundw
          case rel => exact ⟨k + 1, by omega, by go_num, take_eq_succ HT.out HX.out HY.out HE.out, by first | exact HBr.out | exact bdrewN HBr.out _⟩
          case measure => simp [intOf]; omega
        · have e1 : (x != y) = true := by simp [hxy]
          have HE := Lib.hid hxy
          clear hxy
          go_wp2
          go_quiet (fail)
          go_wp2
          go_ret
          (rw [decide_eq_false (ne_of_at HX.out HY.out HE.out)]; exact ⟨rfl, bdrewN HBr.out _⟩)
      · obtain rfl : k = la.length := by omega
        skip
        go_wp2
        go_ret
        (rw [decide_eq_true (show la = lb from by have := HT.out; rwa [List.take_length, ← HM.out, List.take_length] at this)]; exact ⟨rfl, HBr.out⟩)
  · have E : Hid (decide (la = lb) = false) := by show _ = _; exact decide_eq_false (fun e => h (by rw [e, hm]))
    have e1 : (la.length == m) = false := by simpa using h
    have e2 : (la.length != m) = true := by simpa using h
    have e3 : (((la.length : Nat) : Int) != ((m : Nat) : Int)) = true := by rw [bne_iff_ne]; omega
    clear h hm
    go_enter Tryz.func81, Tryz.ntmps81
    go_wp2
    go_ret
    rw [E.out]
    exact ⟨rfl, Below.refl _ _⟩
def sameB (a b : BitB) : Bool := decide (a = b)
theorem sameB_yes {n : Int} {l m : List Int} (h : l = m) : sameB ⟨n, l⟩ ⟨n, m⟩ = true := by simp [sameB, h]
theorem sameB_no {n n' : Int} {l m : List Int} (h : l ≠ m) : sameB ⟨n, l⟩ ⟨n', m⟩ = false := by simp [sameB, h]
set_option maxRecDepth 100000 in
set_option maxHeartbeats 8000000 in
theorem same45 (v u : BitV) (a b : BitB) (w : World) (ha : RdB w v a) (hb : RdB w u b) :
    Calls Tryz.prog 53 #[v.v, u.v] w (Ret (.bool (sameB a b)) w) := by
  obtain ⟨n, A, m, ca⟩ := v
  obtain ⟨n', B, m', cb⟩ := u
  obtain ⟨rfl, rfl, hc1, _, _, _, hra⟩ := ha
  obtain ⟨rfl, hm, hc2, _, _, _, hrb⟩ := hb
  obtain ⟨n, la⟩ := a
  obtain ⟨n', lb⟩ := b
  simp only at hm hra hrb
  have hla := hra.len
  have hlb := hrb.len
  rw [← hm] at hlb
  have HA := Lib.hid hra
  have HB := Lib.hid hrb
  clear hra hrb hc1 hc2
  unfold BitV.v
  simp only
  have HB0 : Hid (Below w.heap.size w ((w.alloc (.cells #[.int .i64 n, .slice A la.length ca] 26)).alloc (.cells #[.int .i64 n', .slice B m' cb] 26))) := balloc (balloc (Below.refl _ _) _) _
  by_cases hn : n = n'
  · subst hn
    by_cases h : la.length = m'
    · subst h
      have HM := Lib.hid hm.symm
      clear hm
      have F1 : Hid (((w.alloc (.cells #[.int .i64 n, .slice A la.length ca] 26)).alloc (.cells #[.int .i64 n, .slice B la.length cb] 26)).cell? ⟨w.heap.size, 1, none⟩ = some (.slice A la.length ca)) := by show _ = _; go_simp
      have F2 : Hid (((w.alloc (.cells #[.int .i64 n, .slice A la.length ca] 26)).alloc (.cells #[.int .i64 n, .slice B la.length cb] 26)).cell? ⟨w.heap.size + 1, 1, none⟩ = some (.slice B la.length cb)) := by show _ = _; go_simp
      have HS : Hid (w.heap.size + 2 ≤ ((w.alloc (.cells #[.int .i64 n, .slice A la.length ca] 26)).alloc (.cells #[.int .i64 n, .slice B la.length cb] 26)).heap.size) := by show _ ≤ _; simp
      go_enter Tryz.func53, Tryz.ntmps53
      go_wp2
      generalize ((w.alloc (.cells #[.int .i64 n, .slice A la.length ca] 26)).alloc (.cells #[.int .i64 n, .slice B la.length cb] 26)) = W0 at *
      have HA := Lib.hid (HA.out.below HB0.out)
      have HB := Lib.hid (HB.out.below HB0.out)
      clear HS
      obtain ⟨wo, hwo⟩ : ∃ wo : World, wo = W0 := ⟨_, rfl⟩
      go_loopw [23] (fun i wr => ∃ k : Nat, k ≤ la.length ∧ i = .int .i64 k ∧ Hid (la.take k = lb.take k) ∧ Hid (Below W0.heap.size W0 wr)) (fun i _ => la.length - (intOf i).toNat)
      case atStart => exact ⟨0, Nat.zero_le _, rfl, rfl, Below.refl _ _⟩
      case round =>
        obtain ⟨k, hk, rfl, HT, HBr⟩ := hrel
        by_cases hlt : k < la.length
        · have hx : la[k]? = some la[k] := List.getElem?_eq_getElem hlt
          have hy : lb[k]? = some (lb[k]'(by have := HM.out; omega)) := List.getElem?_eq_getElem (by have := HM.out; omega)
          obtain ⟨b1, o1, e1, _, c1⟩ := HA.out.at_ hx
          obtain ⟨b2, o2, e2, _, c2⟩ := HB.out.at_ hy
          cases e1
          cases e2
          have c1 := cell_later HBr.out c1
          have c2 := cell_later HBr.out c2
          have HX := Lib.hid hx
          have HY := Lib.hid hy
          clear hx hy
          generalize la[k] = x at *
          generalize (lb[k]'_) = y at *
          (have f1 := cell_later HBr.out F1.out; have f2 := cell_later HBr.out F2.out)
          by_cases hxy : x = y
          · have e1 : (x != y) = false := by simp [hxy]
            have HE := Lib.hid hxy
            clear hxy
            go_wp2
            go_quiet (fail)
            go_wp2
            go_roundw
            case rel => exact ⟨k + 1, by omega, by go_num, take_eq_succ HT.out HX.out HY.out HE.out, by first | exact HBr.out | exact bdrewN HBr.out _⟩
            case measure => simp [intOf]; omega
          · have e1 : (x != y) = true := by simp [hxy]
            have HE := Lib.hid hxy
            clear hxy
            go_wp2
            go_quiet (fail)
            go_wp2
            go_ret
            (rw [sameB_no (ne_of_at HX.out HY.out HE.out)]; exact ⟨rfl, bthen HB0.out (bdrewN HBr.out _)⟩)
        · obtain rfl : k = la.length := by omega
          skip
          go_wp2
          go_ret
          (rw [sameB_yes (show la = lb from by have := HT.out; rwa [List.take_length, ← HM.out, List.take_length] at this)]; exact ⟨rfl, bthen HB0.out HBr.out⟩)
    · have E : Hid (sameB ⟨n, la⟩ ⟨n, lb⟩ = false) := by show _ = _; exact sameB_no (fun e => h (by rw [e, hm]))
      have e1 : (la.length == m') = false := by simpa using h
      have e2 : (la.length != m') = true := by simpa using h
      have e3 : (((la.length : Nat) : Int) != ((m' : Nat) : Int)) = true := by rw [bne_iff_ne]; omega
      clear h hm
      go_enter Tryz.func53, Tryz.ntmps53
      go_wp2
      go_ret
      rw [E.out]
      exact ⟨rfl, HB0.out⟩
  · have E : Hid (sameB ⟨n, la⟩ ⟨n', lb⟩ = false) := by show _ = _; simp [sameB, hn]
    have e3 : (n != n') = true := by simpa using hn
    clear hn hm
    go_enter Tryz.func53, Tryz.ntmps53
    go_wp2
    go_ret
    rw [E.out]
    exact ⟨rfl, HB0.out⟩


def andL (a b : List Int) : List Int := List.zipWith (fun x y => Go.bits .and .u64 x y) a b
def bothOk (a b : BitB) : Prop := okB a = true ∧ okB b = true ∧ a.n = b.n
instance (a b : BitB) : Decidable (bothOk a b) := by unfold bothOk; infer_instance
def bothB (a b : BitB) : BitB := if bothOk a b then ⟨a.n, andL a.w b.w⟩ else ⟨0, []⟩
def bothE (a b : BitB) : Int := if bothOk a b then 0 else 2
theorem okE_0 {b : BitB} (h : okB b = true) : okE b = 0 := by simp [okE, h]
theorem okE_2 {b : BitB} (h : okB b = false) : okE b = 2 := by simp [okE, h]
theorem okB_parts {b : BitB} (h : okB b = true) : 0 ≤ b.n ∧ b.n ≤ 4096 ∧ (b.w.length : Int) = (b.n + 63) / 64 := by
  unfold okB at h
  simp only [Bool.and_eq_true, decide_eq_true_eq] at h
  exact ⟨h.1, h.2.1, h.2.2.1⟩
/-- A store into a row of words of the call's own. -/
theorem wpl_stU {ops : Array Oper} {rest : List Oper} {o : Oper} {a : Act} {w : World} {Q : Exit → Act → World → Prop} (hgd : o.guard = none) (p x : Operand) (ho : o.op = .store 46 p x)
    (base g n cap : Nat) (l : List Int) (h : OwU w base (.slice (some ⟨g, 0, none⟩) n cap) l) (hn : l.length = n) (k : Nat) (y : Int) (hp : a.eval p = .pointer (some ⟨g, k, none⟩)) (hx : a.eval x = .int .u64 y) (hk : k < n)
    (hK : ∀ w', OwU w' base (.slice (some ⟨g, 0, none⟩) n cap) (l.set k y) → w.grownBy w' (some g) → wpList Tryz.prog ops Q rest (a.put o.dst undef) w') :
    wpList Tryz.prog ops Q (o :: rest) a w := by
  subst hn
  obtain ⟨i0, hi, hz0, hz1, hz2⟩ := info_parts info33
  refine wpl_store_own (P := Tryz.prog) hgd 46 p x ho base 46 1 i0 hi hz1 g l.length cap (us l) h k hp (.int .u64 y) hx rfl (by omega) (by simp [Value.cells, Value.oneCell']) ?_
  intro w' h1 h2
  refine hK w' ?_ h2
  unfold OwU
  rw [List.length_set]
  have e : us (l.set k y) = (us l).take k ++ (Value.cells (.int .u64 y)).toList ++ (us l).drop (k + 1) := by
    show us (l.set k y) = (us l).take k ++ [Value.int .u64 y] ++ (us l).drop (k + 1)
    unfold us
    rw [List.map_set, List.set_eq_take_append_cons_drop]
    rw [if_pos (by simpa using hk)]
    simp
  rw [e]
  exact h1
theorem and_step {a b : List Int} {k : Nat} {x y : Int} (hx : a[k]? = some x) (hy : b[k]? = some y) :
    (andL (a.take k) (b.take k) ++ a.drop k).set k (Go.bits .and .u64 x y) = andL (a.take (k + 1)) (b.take (k + 1)) ++ a.drop (k + 1) := by
  obtain ⟨h1, h2⟩ := List.getElem?_eq_some_iff.1 hx
  obtain ⟨h3, h4⟩ := List.getElem?_eq_some_iff.1 hy
  have hl : (andL (a.take k) (b.take k)).length = k := by simp [andL]; omega
  rw [List.set_append_right _ _ (by omega), hl, Nat.sub_self, List.drop_eq_getElem_cons h1, List.set_cons_zero]
  rw [List.take_succ_eq_append_getElem h1, List.take_succ_eq_append_getElem h3, h2, h4]
  unfold andL
  rw [List.zipWith_append (by simp; omega)]
  simp
theorem and_at {a b : List Int} {k : Nat} (hk : k ≤ a.length) (hkb : k ≤ b.length) {x : Int} (hx : a[k]? = some x) : (andL (a.take k) (b.take k) ++ a.drop k)[k]? = some x := by
  have hl : (andL (a.take k) (b.take k)).length = k := by simp [andL]; omega
  rw [List.getElem?_append_right (by omega), hl, Nat.sub_self, List.getElem?_drop, Nat.add_zero]
  exact hx
theorem and_len {a b : List Int} {k : Nat} (hk : k ≤ a.length) (hkb : k ≤ b.length) : (andL (a.take k) (b.take k) ++ a.drop k).length = a.length := by
  simp [andL]; omega

theorem own_form {w : World} {base n m c : Nat} {e : TypeId} {size : Nat} {A : Option Addr} {xs : List Value} (h : w.ownsRow base e size (.slice A m c) n xs) (h0 : 0 < n) : ∃ g, A = some ⟨g, 0, none⟩ := by
  rcases h.2 with ⟨_, h1⟩ | ⟨g, cap, cur, e1, _⟩
  · omega
  · simp only [Value.slice.injEq] at e1
    exact ⟨g, e1.1⟩
theorem OwU.rd {w : World} {base n c : Nat} {A : Option Addr} {l : List Int} (h : OwU w base (.slice A n c) l) (hn : l.length = n) : RdU w A l := by
  subst hn
  exact own_rd h
theorem gfrozen {w w1 : World} {r : Option Nat} (h : w.grownBy w1 r) {a : Addr} (ha : a.block < w.heap.size) (hr : some a.block ≠ r) : w1.frozen? a = w.frozen? a := by
  simp only [World.frozen?, h.block _ ha hr]
theorem bcellB {W w1 : World} {B : Nat} (hb : Below W.heap.size W w1) (hB : B ≤ W.heap.size) : (∀ b o, b < B → w1.cell? ⟨b, o, none⟩ = W.cell? ⟨b, o, none⟩) ∧ (∀ b o, b < B → w1.frozen? ⟨b, o, none⟩ = W.frozen? ⟨b, o, none⟩) ∧ B ≤ w1.heap.size :=
  ⟨fun b o h => hb.cell (p := ⟨b, o, none⟩) (show b < _ by omega), fun b o h => hb.frozen (p := ⟨b, o, none⟩) (show b < _ by omega), by have := hb.size; omega⟩
set_option maxRecDepth 100000 in
set_option maxHeartbeats 8000000 in
theorem both65 (v u : BitV) (a b : BitB) (w : World) (ha : RdB w v a) (hb : RdB w u b) :
    Calls Tryz.prog 112 #[v.v, u.v] w (RetBE (bothB a b) (bothE a b) w) := by
  have CA : Hid (∀ W, Below w.heap.size w W → Calls Tryz.prog 91 #[v.v] W (Ret (.int .i64 (okE a)) W)) := fun W hW => check62 v a W (ha.below hW)
  have CB : Hid (∀ W, Below w.heap.size w W → Calls Tryz.prog 91 #[u.v] W (Ret (.int .i64 (okE b)) W)) := fun W hW => check62 u b W (hb.below hW)
  have CO : Hid (okB a = true → ∀ W, Below w.heap.size w W → Calls Tryz.prog 88 #[v.v] W (RetB a W)) := fun hk W hW => own37 v a W (ha.below hW) (by have := okB_parts hk; omega)
  have hra := ha.row
  have hrb := hb.row
  have hla := hra.len
  have hlb := hrb.len
  obtain ⟨n, A, m, ca⟩ := v
  obtain ⟨n', B, m', cb⟩ := u
  obtain ⟨rfl, rfl, hca, _, _, _, _⟩ := ha
  obtain ⟨rfl, rfl, hcb, _, _, _, _⟩ := hb
  have HRA := Lib.hid hra
  have HRB := Lib.hid hrb
  clear hra hrb hca hcb
  simp only at HRA HRB
  unfold BitV.v at CA CB CO ⊢
  simp only at CA CB CO ⊢
  have HW0 : Hid (Below w.heap.size w (((w.alloc (.cells #[.int .i64 a.n, .slice A a.w.length ca] 26)).alloc (.cells #[.int .i64 b.n, .slice B b.w.length cb] 26)).alloc (.cells #[.int .i64 0, .slice none 0 0] 26))) := balloc (balloc (balloc (Below.refl _ _) _) _) _
  by_cases hA : okB a = true
  · have EA := Lib.hid (okE_0 hA)
    by_cases hB : okB b = true
    · have EB := Lib.hid (okE_0 hB)
      by_cases hn : a.n = b.n
      · have E1 : Hid (bothB a b = ⟨a.n, andL a.w b.w⟩) := by show _ = _; unfold bothB; rw [if_pos ⟨hA, hB, hn⟩]
        have E2 : Hid (bothE a b = 0) := by show _ = _; unfold bothE; rw [if_pos ⟨hA, hB, hn⟩]
        have HL : Hid (b.w.length = a.w.length) := by show _ = _; have h1 := okB_parts hA; have h2 := okB_parts hB; omega
        have e1 : (a.n != b.n) = false := by simp [hn]
        have CO := Lib.hid (CO.out hA)
        clear hA hB hn
        rw [EA.out] at CA
        rw [EB.out] at CB
        go_enter Tryz.func112, Tryz.ntmps112
        go_wp2_with fail
        refine (CA.out _ HW0.out).mono ?_
        rintro e w1 ⟨rfl, hb1⟩
        have HB1 := Lib.hid (bthen HW0.out hb1)
        obtain ⟨hc1, hf1, hs1⟩ := bcellB (B := w.heap.size + 3) hb1 (by simp)
        clear hb1 CA
        go_wp2_with fail
        refine (CB.out _ HB1.out).mono ?_
        rintro e w2 ⟨rfl, hb2⟩
        have HB2 := Lib.hid (bthen HB1.out hb2)
        obtain ⟨hc2, hf2, hs2⟩ := bcellB hb2 hs1
        clear hb2 CB
        go_wp2_with fail
        refine (CO.out _ HB2.out).mono ?_
        rintro e w3 ⟨⟨n3, A3, m3, c3⟩, rfl, rfl, rfl, hcap, ho, hb3⟩
        simp only at hcap ho
        have HB3 := Lib.hid (bthen HB2.out hb3)
        have HO := Lib.hid (ho.mono hs2)
        obtain ⟨hc3, hf3, hs3⟩ := bcellB hb3 hs2
        have z0 : w.heap.size < w3.heap.size := by omega
        have z1 : w.heap.size + 1 < w3.heap.size := by omega
        have z2 : w.heap.size + 2 < w3.heap.size := by omega
        clear hb3 CO ho
        unfold BitV.v
        simp only
        go_wp2
        have F0 : Hid ((w3.alloc (.cells #[.int .i64 a.n, .slice A3 a.w.length c3] 26)).cell? ⟨w3.heap.size, 0, none⟩ = some (.int .i64 a.n)) := by show _ = _; go_simp
        have F1 : Hid ((w3.alloc (.cells #[.int .i64 a.n, .slice A3 a.w.length c3] 26)).cell? ⟨w3.heap.size, 1, none⟩ = some (.slice A3 a.w.length c3)) := by show _ = _; go_simp
        have F2 : Hid ((w3.alloc (.cells #[.int .i64 a.n, .slice A3 a.w.length c3] 26)).cell? ⟨w.heap.size + 2, 0, none⟩ = some (.int .i64 0)) := by show _ = _; go_simp
        have F3 : Hid ((w3.alloc (.cells #[.int .i64 a.n, .slice A3 a.w.length c3] 26)).cell? ⟨w.heap.size + 2, 1, none⟩ = some (.slice none 0 0)) := by show _ = _; go_simp
        have F4 : Hid ((w3.alloc (.cells #[.int .i64 a.n, .slice A3 a.w.length c3] 26)).frozen? ⟨w.heap.size + 2, 0, none⟩ = false) := by show _ = _; go_simp
        have F5 : Hid ((w3.alloc (.cells #[.int .i64 a.n, .slice A3 a.w.length c3] 26)).frozen? ⟨w.heap.size + 2, 1, none⟩ = false) := by show _ = _; go_simp
        have HB4 := Lib.hid (balloc HB3.out (.cells #[.int .i64 a.n, .slice A3 a.w.length c3] 26))
        have HO4 := Lib.hid (HO.out.below (balloc (Below.refl _ _) (.cells #[.int .i64 a.n, .slice A3 a.w.length c3] 26)))
        have HG : Hid (∀ g, (Value.slice A3 a.w.length c3).ownBlock = some g → w.heap.size + 3 ≤ g ∧ g < w3.heap.size) := fun g hg => HO.out.lt g hg
        have HS4 : Hid (w3.heap.size < (w3.alloc (.cells #[.int .i64 a.n, .slice A3 a.w.length c3] 26)).heap.size) := by show _ < _; simp
        generalize w3.alloc (.cells #[.int .i64 a.n, .slice A3 a.w.length c3] 26) = W4 at *
        have HZ : Hid (w.heap.size + 2 < w3.heap.size) := z2
        clear hc1 hc2 hc3 hf1 hf2 hf3 HB1 HB2 HB3 z0 z1 z2 hs1 hs2 hs3
        go_loopw [30] (fun i wr => ∃ k : Nat, k ≤ a.w.length ∧ i = .int .i64 k ∧ Hid (OwU wr (w.heap.size + 3) (.slice A3 a.w.length c3) (andL (a.w.take k) (b.w.take k) ++ a.w.drop k)) ∧ Hid (W4.grownBy wr (Value.slice A3 a.w.length c3).ownBlock)) (fun i _ => a.w.length - (intOf i).toNat)
        case atStart => exact ⟨0, Nat.zero_le _, rfl, HO4.out, gbelow (Below.refl _ _) _⟩
        case round =>
          obtain ⟨k, hk, rfl, HR, HGr⟩ := hrel
          have HBr := Lib.hid (bgrown HB4.out HGr.out (fun g hg => by have := (HG.out g hg).1; omega))
          by_cases hlt : k < a.w.length
          · have hx : a.w[k]? = some a.w[k] := List.getElem?_eq_getElem hlt
            have hy : b.w[k]? = some (b.w[k]'(by have := HL.out; omega)) := List.getElem?_eq_getElem (by have := HL.out; omega)
            obtain ⟨b2, o2, e2, _, c2⟩ := HRB.out.at_ hy
            cases e2
            have c2 := cell_later HBr.out c2
            have hkb : k ≤ b.w.length := by have := HL.out; omega
            have hlen := and_len (a := a.w) (b := b.w) hk hkb
            obtain ⟨g, eg⟩ := own_form HR.out (by rw [hlen]; omega)
            cases eg
            obtain ⟨hg1, hg2⟩ := HG.out g rfl
            obtain ⟨b1, o1, e1', _, c1⟩ := (HR.out.rd hlen).at_ (and_at hk hkb hx)
            cases e1'
            have f0 := gcell HGr.out F0.out (by simp [Value.ownBlock]; omega)
            have f1 := gcell HGr.out F1.out (by simp [Value.ownBlock]; omega)
            have HX := Lib.hid hx
            have HY := Lib.hid hy
            have HLN := Lib.hid hlen
            clear hx hy hlen
            have e2 : k < b.w.length := by have := HL.out; omega
            generalize a.w[k] = x at *
            generalize (b.w[k]'_) = y at *
            simp only [Nat.zero_add] at c1
            go_wp2_with (refine wpl_stU rfl (.tmp 42) (.tmp 41) rfl (w.heap.size + 3) g a.w.length c3 _ HR.out HLN.out k _ rfl rfl hlt ?_)
            intro w' ho hg
            rw [and_step HX.out HY.out] at ho
            have HO' := Lib.hid ho
            have HG' := Lib.hid (gtrans HGr.out hg)
            clear ho hg
            go_wp2
            go_roundw
            case rel => exact ⟨k + 1, by omega, by go_num, HO'.out, HG'.out⟩
            case measure => simp [intOf]; omega
          · obtain rfl : k = a.w.length := by omega
            have e3 : ¬ a.w.length < b.w.length := by have := HL.out; omega
            have hne : ∀ j, j < w3.heap.size + 1 → (∀ g, (Value.slice A3 a.w.length c3).ownBlock = some g → j ≠ g) → some j ≠ (Value.slice A3 a.w.length c3).ownBlock := fun j _ h e => h j e.symm rfl
            have r0 : some w3.heap.size ≠ (Value.slice A3 a.w.length c3).ownBlock := fun e => by have := (HG.out _ e.symm).2; omega
            have r2 : some (w.heap.size + 2) ≠ (Value.slice A3 a.w.length c3).ownBlock := fun e => by have := (HG.out _ e.symm).1; omega
            have f0 := gcell HGr.out F0.out r0
            have f1 := gcell HGr.out F1.out r0
            have f2 := gcell HGr.out F2.out r2
            have f3 := gcell HGr.out F3.out r2
            have z4 : wr.frozen? ⟨w.heap.size + 2, 0, none⟩ = false := by rw [gfrozen HGr.out (by have := HS4.out; have := HZ.out; show w.heap.size + 2 < _; omega) r2]; exact F4.out
            have z5 : wr.frozen? ⟨w.heap.size + 2, 1, none⟩ = false := by rw [gfrozen HGr.out (by have := HS4.out; have := HZ.out; show w.heap.size + 2 < _; omega) r2]; exact F5.out
            have HR' : Hid (OwU wr (w.heap.size + 3) (.slice A3 a.w.length c3) (andL a.w b.w)) := by
              show OwU _ _ _ _
              have := HR.out
              rw [List.take_length, show b.w.take a.w.length = b.w from by rw [← HL.out, List.take_length], List.drop_length, List.append_nil] at this
              exact this
            have HLN : Hid (a.w.length = (andL a.w b.w).length) := by show _ = _; simp [andL, HL.out]
            have HC := Lib.hid hcap
            clear r0 r2 hne hcap
            go_wp2
            have n3 : (⟨w.heap.size + 2, 0, none⟩ : Addr) ≠ ⟨w.heap.size + 2, 1, none⟩ := by simp
            have n4 : (⟨w.heap.size + 2, 1, none⟩ : Addr) ≠ ⟨w.heap.size + 2, 0, none⟩ := by simp
            have g1 : (wr.setCell ⟨w.heap.size + 2, 0, none⟩ (.int .i64 a.n)).cell? ⟨w.heap.size + 2, 0, none⟩ = some (.int .i64 a.n) := World.cell?_setCell_same _ _ _ f2
            have g2 : ((wr.setCell ⟨w.heap.size + 2, 0, none⟩ (.int .i64 a.n)).setCell ⟨w.heap.size + 2, 1, none⟩ (.slice A3 a.w.length c3)).cell? ⟨w.heap.size + 2, 1, none⟩ = some (.slice A3 a.w.length c3) :=
              World.cell?_setCell_same _ _ _ ((World.cell?_setCell_other (h := n3) ..).trans f3)
            have g3 : ((wr.setCell ⟨w.heap.size + 2, 0, none⟩ (.int .i64 a.n)).setCell ⟨w.heap.size + 2, 1, none⟩ (.slice A3 a.w.length c3)).cell? ⟨w.heap.size + 2, 0, none⟩ = some (.int .i64 a.n) :=
              (World.cell?_setCell_other (h := n4) ..).trans g1
            refine bodyPost_ret (v := .tuple #[.agg #[.int .i64 a.n, .slice A3 a.w.length c3], .int .i64 0]) (by simp [results, Tryz.results112, go_sem, g1, g2, g3]) rfl ?_
            rw [E1.out, E2.out]
            refine ⟨⟨a.n, A3, a.w.length, c3⟩, rfl, rfl, HLN.out, HC.out, ?_, ?_⟩
            · refine OwU.mono (base := w.heap.size + 3) ?_ (by omega)
              repeat (refine OwU.set_lo ?_ (by simp) _)
              exact HR'.out
            · repeat (refine Below.setCell ?_ (by first | (simp; done) | (simp; omega)) _)
              exact HBr.out
      · have E1 : Hid (bothB a b = ⟨0, []⟩) := by show _ = _; unfold bothB; rw [if_neg (fun h => hn h.2.2)]
        have E2 : Hid (bothE a b = 2) := by show _ = _; unfold bothE; rw [if_neg (fun h => hn h.2.2)]
        have e1 : (a.n != b.n) = true := by simp [hn]
        clear hA hB hn CO
        rw [EA.out] at CA
        rw [EB.out] at CB
        go_enter Tryz.func112, Tryz.ntmps112
        go_wp2_with fail
        refine (CA.out _ HW0.out).mono ?_
        rintro e w1 ⟨rfl, hb1⟩
        have HB1 := Lib.hid (bthen HW0.out hb1)
        obtain ⟨hc1, hf1, hs1⟩ := bcellB (B := w.heap.size + 3) hb1 (by simp)
        clear hb1 CA
        go_wp2_with fail
        refine (CB.out _ HB1.out).mono ?_
        rintro e w2 ⟨rfl, hb2⟩
        have HB2 := Lib.hid (bthen HB1.out hb2)
        obtain ⟨hc2, hf2, hs2⟩ := bcellB hb2 hs1
        clear hb2 CB
        go_wp2
        have f2 : w2.cell? ⟨w.heap.size + 2, 0, none⟩ = some (.int .i64 0) := by go_simp
        have f3 : w2.cell? ⟨w.heap.size + 2, 1, none⟩ = some (.slice none 0 0) := by go_simp
        have n3 : (⟨w.heap.size + 2, 0, none⟩ : Addr) ≠ ⟨w.heap.size + 2, 1, none⟩ := by simp
        have n4 : (⟨w.heap.size + 2, 1, none⟩ : Addr) ≠ ⟨w.heap.size + 2, 0, none⟩ := by simp
        have g1 : (w2.setCell ⟨w.heap.size + 2, 0, none⟩ (.int .i64 0)).cell? ⟨w.heap.size + 2, 0, none⟩ = some (.int .i64 0) := World.cell?_setCell_same _ _ _ f2
        have g2 : ((w2.setCell ⟨w.heap.size + 2, 0, none⟩ (.int .i64 0)).setCell ⟨w.heap.size + 2, 1, none⟩ (.slice none 0 0)).cell? ⟨w.heap.size + 2, 1, none⟩ = some (.slice none 0 0) :=
          World.cell?_setCell_same _ _ _ ((World.cell?_setCell_other (h := n3) ..).trans f3)
        have g3 : ((w2.setCell ⟨w.heap.size + 2, 0, none⟩ (.int .i64 0)).setCell ⟨w.heap.size + 2, 1, none⟩ (.slice none 0 0)).cell? ⟨w.heap.size + 2, 0, none⟩ = some (.int .i64 0) :=
          (World.cell?_setCell_other (h := n4) ..).trans g1
        refine bodyPost_ret (v := .tuple #[.agg #[.int .i64 0, .slice none 0 0], .int .i64 2]) (by simp [results, Tryz.results112, go_sem, g1, g2, g3]) rfl ?_
        rw [E1.out, E2.out]
        refine ⟨⟨0, none, 0, 0⟩, rfl, rfl, rfl, Nat.le_refl _, OwU.nil_ _ _, ?_⟩
        repeat (refine Below.setCell ?_ (by first | (simp; done) | (simp; omega)) _)
        exact HB2.out
    · have E1 : Hid (bothB a b = ⟨0, []⟩) := by show _ = _; unfold bothB; rw [if_neg (fun h => hB h.2.1)]
      have E2 : Hid (bothE a b = 2) := by show _ = _; unfold bothE; rw [if_neg (fun h => hB h.2.1)]
      have EB := Lib.hid (okE_2 (by simpa using hB))
      clear hA hB CO
      rw [EA.out] at CA
      rw [EB.out] at CB
      go_enter Tryz.func112, Tryz.ntmps112
      go_wp2_with fail
      refine (CA.out _ HW0.out).mono ?_
      rintro e w1 ⟨rfl, hb1⟩
      have HB1 := Lib.hid (bthen HW0.out hb1)
      obtain ⟨hc1, hf1, hs1⟩ := bcellB (B := w.heap.size + 3) hb1 (by simp)
      clear hb1 CA
      go_wp2_with fail
      refine (CB.out _ HB1.out).mono ?_
      rintro e w2 ⟨rfl, hb2⟩
      have HB2 := Lib.hid (bthen HB1.out hb2)
      obtain ⟨hc2, hf2, hs2⟩ := bcellB hb2 hs1
      clear hb2 CB
      go_wp2
      have f2 : w2.cell? ⟨w.heap.size + 2, 0, none⟩ = some (.int .i64 0) := by go_simp
      have f3 : w2.cell? ⟨w.heap.size + 2, 1, none⟩ = some (.slice none 0 0) := by go_simp
      have n3 : (⟨w.heap.size + 2, 0, none⟩ : Addr) ≠ ⟨w.heap.size + 2, 1, none⟩ := by simp
      have n4 : (⟨w.heap.size + 2, 1, none⟩ : Addr) ≠ ⟨w.heap.size + 2, 0, none⟩ := by simp
      have g1 : (w2.setCell ⟨w.heap.size + 2, 0, none⟩ (.int .i64 0)).cell? ⟨w.heap.size + 2, 0, none⟩ = some (.int .i64 0) := World.cell?_setCell_same _ _ _ f2
      have g2 : ((w2.setCell ⟨w.heap.size + 2, 0, none⟩ (.int .i64 0)).setCell ⟨w.heap.size + 2, 1, none⟩ (.slice none 0 0)).cell? ⟨w.heap.size + 2, 1, none⟩ = some (.slice none 0 0) :=
        World.cell?_setCell_same _ _ _ ((World.cell?_setCell_other (h := n3) ..).trans f3)
      have g3 : ((w2.setCell ⟨w.heap.size + 2, 0, none⟩ (.int .i64 0)).setCell ⟨w.heap.size + 2, 1, none⟩ (.slice none 0 0)).cell? ⟨w.heap.size + 2, 0, none⟩ = some (.int .i64 0) :=
        (World.cell?_setCell_other (h := n4) ..).trans g1
      refine bodyPost_ret (v := .tuple #[.agg #[.int .i64 0, .slice none 0 0], .int .i64 2]) (by simp [results, Tryz.results112, go_sem, g1, g2, g3]) rfl ?_
      rw [E1.out, E2.out]
      refine ⟨⟨0, none, 0, 0⟩, rfl, rfl, rfl, Nat.le_refl _, OwU.nil_ _ _, ?_⟩
      repeat (refine Below.setCell ?_ (by first | (simp; done) | (simp; omega)) _)
      exact HB2.out
  · have E1 : Hid (bothB a b = ⟨0, []⟩) := by show _ = _; unfold bothB; rw [if_neg (fun h => hA h.1)]
    have E2 : Hid (bothE a b = 2) := by show _ = _; unfold bothE; rw [if_neg (fun h => hA h.1)]
    have EA := Lib.hid (okE_2 (by simpa using hA))
    clear hA CO CB
    rw [EA.out] at CA
    go_enter Tryz.func112, Tryz.ntmps112
    go_wp2_with fail
    refine (CA.out _ HW0.out).mono ?_
    rintro e w1 ⟨rfl, hb1⟩
    have HB1 := Lib.hid (bthen HW0.out hb1)
    obtain ⟨hc1, hf1, hs1⟩ := bcellB (B := w.heap.size + 3) hb1 (by simp)
    clear hb1 CA
    go_wp2
    have f2 : w1.cell? ⟨w.heap.size + 2, 0, none⟩ = some (.int .i64 0) := by go_simp
    have f3 : w1.cell? ⟨w.heap.size + 2, 1, none⟩ = some (.slice none 0 0) := by go_simp
    have n3 : (⟨w.heap.size + 2, 0, none⟩ : Addr) ≠ ⟨w.heap.size + 2, 1, none⟩ := by simp
    have n4 : (⟨w.heap.size + 2, 1, none⟩ : Addr) ≠ ⟨w.heap.size + 2, 0, none⟩ := by simp
    have g1 : (w1.setCell ⟨w.heap.size + 2, 0, none⟩ (.int .i64 0)).cell? ⟨w.heap.size + 2, 0, none⟩ = some (.int .i64 0) := World.cell?_setCell_same _ _ _ f2
    have g2 : ((w1.setCell ⟨w.heap.size + 2, 0, none⟩ (.int .i64 0)).setCell ⟨w.heap.size + 2, 1, none⟩ (.slice none 0 0)).cell? ⟨w.heap.size + 2, 1, none⟩ = some (.slice none 0 0) :=
      World.cell?_setCell_same _ _ _ ((World.cell?_setCell_other (h := n3) ..).trans f3)
    have g3 : ((w1.setCell ⟨w.heap.size + 2, 0, none⟩ (.int .i64 0)).setCell ⟨w.heap.size + 2, 1, none⟩ (.slice none 0 0)).cell? ⟨w.heap.size + 2, 0, none⟩ = some (.int .i64 0) :=
      (World.cell?_setCell_other (h := n4) ..).trans g1
    refine bodyPost_ret (v := .tuple #[.agg #[.int .i64 0, .slice none 0 0], .int .i64 2]) (by simp [results, Tryz.results112, go_sem, g1, g2, g3]) rfl ?_
    rw [E1.out, E2.out]
    refine ⟨⟨0, none, 0, 0⟩, rfl, rfl, rfl, Nat.le_refl _, OwU.nil_ _ _, ?_⟩
    repeat (refine Below.setCell ?_ (by first | (simp; done) | (simp; omega)) _)
    exact HB1.out


def rightP (s : SpanB) : Bool := shapedP s.pages s.size && (decide (0 ≤ s.first) && (decide (s.first ≤ 1024 - s.pages) && (decide (bothOk s.al s.ma) && ((s.al.n == manyP s.size) && decide (andL s.al.w s.ma.w = s.ma.w)))))
theorem shapedP_pages {p z : Int} (h : shapedP p z = true) : 1 ≤ p ∧ p ≤ 4 := by
  unfold shapedP at h
  by_cases hz : z = 0
  · simp [hz] at h; omega
  · by_cases h2 : z = 2 ∨ z = 4 ∨ z = 8 ∨ z = 16
    · simp [hz, h2] at h; omega
    · simp [hz, h2] at h
theorem shapedP_size {p z : Int} (h : shapedP p z = true) : z = 0 ∨ z = 2 ∨ z = 4 ∨ z = 8 ∨ z = 16 := by
  unfold shapedP at h
  by_cases hz : z = 0
  · exact .inl hz
  · by_cases h2 : z = 2 ∨ z = 4 ∨ z = 8 ∨ z = 16
    · exact .inr h2
    · simp [hz, h2] at h
theorem manyP_of {p z : Int} (h : shapedP p z = true) : 1 ≤ manyP z ∧ manyP z ≤ 8 := by
  rcases shapedP_size h with rfl | rfl | rfl | rfl | rfl <;> decide +kernel

set_option maxRecDepth 100000 in
set_option maxHeartbeats 8000000 in
theorem right38 (v : SpanV) (s : SpanB) (w : World) (h : RdN w v s) : Calls Tryz.prog 97 #[v.v] w (Ret (.bool (rightP s)) w) := by
  have CB : Hid (∀ W, Below w.heap.size w W → Calls Tryz.prog 112 #[v.al.v, v.ma.v] W (RetBE (bothB s.al s.ma) (bothE s.al s.ma) W)) := fun W hW => both65 v.al v.ma s.al s.ma W (h.al.below hW) (h.ma.below hW)
  have CE : Hid (∀ W, Below w.heap.size w W → ∀ A c l, RdU W A l → Calls Tryz.prog 81 #[.slice A l.length c, .slice v.ma.A v.ma.m v.ma.c] W (Ret (.bool (decide (l = s.ma.w))) W)) :=
    fun W hW A c l hl => equal66 l s.ma.w A v.ma.A c v.ma.c v.ma.m W hl (h.ma.row.below hW) h.ma.m.symm
  have HAN := Lib.hid h.al.n
  have HMN := Lib.hid h.ma.n
  obtain ⟨f, p, z, ⟨n, A, m, ca⟩, ⟨n', B, m', cb⟩, sw⟩ := v
  obtain ⟨rfl, rfl, rfl, rfl, _, _, hf1, hp1, hz1⟩ := h
  simp only at HAN HMN
  unfold SpanV.v
  unfold BitV.v at CB
  simp only at CB CE ⊢
  have HW0 : Hid (Below w.heap.size w (w.alloc (.cells #[.int .i64 s.first, .int .i64 s.pages, .int .i64 s.size, .int .i64 n, .slice A m ca, .int .i64 n', .slice B m' cb, .bool s.sw] 44))) := balloc (Below.refl _ _) _
  by_cases hsh : shapedP s.pages s.size = true
  · have hpp := shapedP_pages hsh
    have hmm := manyP_of hsh
    by_cases h0 : 0 ≤ s.first
    · by_cases h1 : s.first ≤ 1024 - s.pages
      · have E : Hid (rightP s = (decide (bothOk s.al s.ma) && ((s.al.n == manyP s.size) && decide (andL s.al.w s.ma.w = s.ma.w)))) := by
          show _ = _
          unfold rightP
          rw [hsh, decide_eq_true h0, decide_eq_true h1]
          rfl
        have HSH := Lib.hid hsh
        have HMM := Lib.hid hmm
        clear hsh hmm
        go_enter Tryz.func97, Tryz.ntmps97
        go_wp2_with fail
        refine (shaped34 _ _ _).mono ?_
        rintro e w1 ⟨rfl, hb1⟩
        rw [HSH.out]
        have HB1 := Lib.hid (bthen HW0.out hb1)
        obtain ⟨hc1, hf1, hs1⟩ := bcellB (B := w.heap.size + 1) hb1 (by simp)
        clear hb1
        go_wp2_with fail
        refine (slots36 _ _).mono ?_
        rintro e w2 ⟨rfl, hb2⟩
        have HB2 := Lib.hid (bthen HB1.out hb2)
        obtain ⟨hc2, hf2, hs2⟩ := bcellB hb2 hs1
        clear hb2
        go_wp2_with fail
        refine (CB.out _ HB2.out).mono ?_
        rintro e w3 ⟨⟨n3, A3, m3, c3⟩, rfl, hn3, hm3, hcap, ho, hb3⟩
        simp only at hcap ho hn3 hm3
        have HB3 := Lib.hid (bthen HB2.out hb3)
        have HR3 : Hid (RdU w3 A3 (bothB s.al s.ma).w) := ho.rd hm3.symm
        obtain ⟨hc3, hf3, hs3⟩ := bcellB hb3 hs2
        have z0 : w.heap.size < w3.heap.size := hs3
        clear hb3 CB ho hcap hn3
        unfold BitV.v
        simp only
        by_cases hok : bothOk s.al s.ma
        · have EE : Hid (bothE s.al s.ma = 0) := by show _ = _; simp [bothE, hok]
          rw [EE.out]
          by_cases hmn : s.al.n = manyP s.size
          · have en : n = manyP s.size := by rw [HAN.out, hmn]
            have en' : n' = manyP s.size := by rw [HMN.out, ← hok.2.2, hmn]
            have E' : Hid (rightP s = decide ((bothB s.al s.ma).w = s.ma.w)) := by
              show _ = _
              rw [E.out, decide_eq_true hok, hmn]
              simp [bothB, hok]
            have HB4 := Lib.hid (balloc HB3.out (.cells #[.int .i64 n3, .slice A3 m3 c3] 26))
            have CE' := Lib.hid (CE.out _ HB4.out _ c3 _ (HR3.out.below (balloc (Below.refl _ _) _)))
            rw [← hm3] at CE'
            clear hok hmn E CE hm3
            subst en
            subst en'
            go_wp2_with fail
            refine CE'.out.mono ?_
            rintro e w5 ⟨rfl, hb5⟩
            have HB5 := Lib.hid (bthen HB4.out hb5)
            clear hb5
            go_wp2
            go_ret
            rw [E'.out]
            exact ⟨rfl, HB5.out⟩
          · have E' : Hid (rightP s = false) := by
              show _ = _
              rw [E.out, beq_eq_false_iff_ne.2 hmn]
              simp
            have e1 : (n == manyP s.size) = false := by rw [HAN.out]; simpa using hmn
            clear hok hmn E CE hm3
            go_wp2
            go_ret
            rw [E'.out]
            exact ⟨rfl, balloc HB3.out _⟩
        · have E' : Hid (rightP s = false) := by
            show _ = _
            rw [E.out, decide_eq_false hok]
            rfl
          have EE : Hid (bothE s.al s.ma = 2) := by show _ = _; simp [bothE, hok]
          rw [EE.out]
          clear hok E CE hm3
          go_wp2
          go_ret
          rw [E'.out]
          exact ⟨rfl, balloc HB3.out _⟩
      · have E : Hid (rightP s = false) := by
          show _ = _
          unfold rightP
          rw [decide_eq_false h1]
          simp
        have HSH := Lib.hid hsh
        have q1 : ¬ s.first < 0 := by omega
        have q2 : 1024 - s.pages < s.first := by omega
        clear hsh hmm CB CE h1
        go_enter Tryz.func97, Tryz.ntmps97
        go_wp2_with fail
        refine (shaped34 _ _ _).mono ?_
        rintro e w1 ⟨rfl, hb1⟩
        rw [HSH.out]
        have HB1 := Lib.hid (bthen HW0.out hb1)
        obtain ⟨hc1, hf1, hs1⟩ := bcellB (B := w.heap.size + 1) hb1 (by simp)
        clear hb1
        go_wp2
        go_ret
        rw [E.out]
        exact ⟨rfl, HB1.out⟩
    · have E : Hid (rightP s = false) := by
        show _ = _
        unfold rightP
        rw [decide_eq_false h0]
        simp
      have HSH := Lib.hid hsh
      have q1 : s.first < 0 := by omega
      clear hsh hmm CB CE h0
      go_enter Tryz.func97, Tryz.ntmps97
      go_wp2_with fail
      refine (shaped34 _ _ _).mono ?_
      rintro e w1 ⟨rfl, hb1⟩
      rw [HSH.out]
      have HB1 := Lib.hid (bthen HW0.out hb1)
      obtain ⟨hc1, hf1, hs1⟩ := bcellB (B := w.heap.size + 1) hb1 (by simp)
      clear hb1
      go_wp2
      go_ret
      rw [E.out]
      exact ⟨rfl, HB1.out⟩
  · have hsh : shapedP s.pages s.size = false := by simpa using hsh
    have E : Hid (rightP s = false) := by
      show _ = _
      unfold rightP
      rw [hsh]
      rfl
    have HSH := Lib.hid hsh
    clear hsh CB CE
    go_enter Tryz.func97, Tryz.ntmps97
    go_wp2_with fail
    refine (shaped34 _ _ _).mono ?_
    rintro e w1 ⟨rfl, hb1⟩
    rw [HSH.out]
    have HB1 := Lib.hid (bthen HW0.out hb1)
    obtain ⟨hc1, hf1, hs1⟩ := bcellB (B := w.heap.size + 1) hb1 (by simp)
    clear hb1
    go_wp2
    go_ret
    rw [E.out]
    exact ⟨rfl, HB1.out⟩


def subTo (a b : BitB) (k : Nat) : Bool := (List.range k).all (fun i => !bitP b i || bitP a i)
def fitP (s : SpanB) : Bool := shapedP s.pages s.size && (decide (0 ≤ s.first) && decide (s.first ≤ 1024 - s.pages))
def numsP (s : SpanB) : Bool := okB s.al && (okB s.ma && ((s.al.n == manyP s.size) && (s.ma.n == manyP s.size)))
def rightR (s : SpanB) : Bool := fitP s && (numsP s && subTo s.al s.ma s.ma.n.toNat)
theorem subTo_succ {a b : BitB} {k : Nat} : subTo a b (k + 1) = (subTo a b k && (!bitP b k || bitP a k)) := by
  simp [subTo, List.range_succ]
theorem subTo_no {a b : BitB} {k n : Nat} (hk : k < n) (h1 : bitP b k = true) (h2 : bitP a k = false) : subTo a b n = false := by
  rw [subTo, List.all_eq_false]
  exact ⟨k, List.mem_range.2 hk, by simp [h1, h2]⟩


theorem u64_and (x y : Int) (hx : 0 ≤ x ∧ x < 18446744073709551616) (hy : 0 ≤ y ∧ y < 18446744073709551616) : Go.bits .and .u64 x y = ((x.toNat &&& y.toNat : Nat) : Int) := by
  obtain ⟨a, rfl⟩ := Int.eq_ofNat_of_zero_le hx.1
  obtain ⟨b, rfl⟩ := Int.eq_ofNat_of_zero_le hy.1
  have e2 : (2 : Nat) ^ 64 = 18446744073709551616 := by decide
  rw [Int.toNat_natCast, Int.toNat_natCast]
  exact (bits_nat .u64 64 (by decide) (fun n h0 h1 => by
    have e : ((2 : Int) ^ 64) = 18446744073709551616 := by decide
    rw [e] at h1
    simp [IntKind.wrap, IntKind.bits, IntKind.signed]
    omega) a b (by rw [e2]; omega) (by rw [e2]; omega)).1
theorem and_iff (x y : Int) (hx : 0 ≤ x ∧ x < 18446744073709551616) (hy : 0 ≤ y ∧ y < 18446744073709551616) :
    (Go.bits .and .u64 x y = y) ↔ ∀ j, y.toNat.testBit j = true → x.toNat.testBit j = true := by
  rw [u64_and x y hx hy]
  constructor
  · intro h j hj
    have h2 : x.toNat &&& y.toNat = y.toNat := by omega
    have h3 := congrArg (fun n => n.testBit j) h2
    simp only [Nat.testBit_and, hj, Bool.and_true] at h3
    exact h3
  · intro h
    have h2 : x.toNat &&& y.toNat = y.toNat := by
      apply Nat.eq_of_testBit_eq
      intro j
      rw [Nat.testBit_and]
      cases hj : y.toNat.testBit j
      · simp
      · rw [h j hj]; rfl
    rw [h2]
    omega
theorem okB_bits {b : BitB} (h : okB b = true) (i : Nat) (hi : i < 64 * b.w.length) (hn : b.n ≤ i) : bitP b i = false := by
  unfold okB at h
  simp only [Bool.and_eq_true, decide_eq_true_eq, List.all_eq_true, List.mem_range, Bool.or_eq_true, Bool.not_eq_true'] at h
  rcases h.2.2.2 i hi with h | h
  · omega
  · exact h
structure WordsB (b : BitB) : Prop where
  words : ∀ x ∈ b.w, 0 ≤ x ∧ x < 18446744073709551616
theorem sub_iff {a b : BitB} (ha : okB a = true) (hb : okB b = true) (hn : a.n = b.n) (h1 : 1 ≤ a.n) (h8 : a.n ≤ 64) (wa : WordsB a) (wb : WordsB b) : decide (andL a.w b.w = b.w) = subTo a b b.n.toNat := by
  have pa := okB_parts ha
  have pb := okB_parts hb
  obtain ⟨x, hx⟩ := List.length_eq_one_iff.1 (show a.w.length = 1 by omega)
  obtain ⟨y, hy⟩ := List.length_eq_one_iff.1 (show b.w.length = 1 by omega)
  have hx0 := wa.words x (by rw [hx]; simp)
  have hy0 := wb.words y (by rw [hy]; simp)
  have ea : ∀ i, i < 64 → bitP a i = x.toNat.testBit i := by
    intro i hi
    unfold bitP
    rw [show i / 64 = 0 from by omega, hx, show i % 64 = i from by omega]
    rfl
  have eb : ∀ i, i < 64 → bitP b i = y.toNat.testBit i := by
    intro i hi
    unfold bitP
    rw [show i / 64 = 0 from by omega, hy, show i % 64 = i from by omega]
    rfl
  have e : (andL a.w b.w = b.w) ↔ subTo a b b.n.toNat = true := by
    rw [hx, hy]
    show [Go.bits .and .u64 x y] = [y] ↔ _
    rw [List.cons.injEq]
    simp only [and_true]
    rw [and_iff x y hx0 hy0]
    unfold subTo
    simp only [List.all_eq_true, List.mem_range, Bool.or_eq_true, Bool.not_eq_true']
    constructor
    · intro h i hi
      rw [ea i (by omega), eb i (by omega)]
      cases hj : y.toNat.testBit i
      · exact .inl rfl
      · exact .inr (h i hj)
    · intro h j hj
      by_cases hjn : j < b.n.toNat
      · have := h j hjn
        rw [ea j (by omega), eb j (by omega), hj] at this
        simpa using this
      · by_cases hj64 : j < 64
        · have := okB_bits hb j (by rw [hy]; simpa using hj64) (by omega)
          rw [eb j hj64, hj] at this
          cases this
        · have e2 : (2 : Nat) ^ 64 = 18446744073709551616 := by decide
          have := Nat.testBit_lt_two_pow (x := y.toNat) (i := j) (Nat.lt_of_lt_of_le (by rw [e2]; omega) (Nat.pow_le_pow_right (by decide) (Nat.le_of_not_lt hj64)))
          rw [hj] at this
          cases this
  by_cases h : andL a.w b.w = b.w
  · rw [decide_eq_true h, e.1 h]
  · rw [decide_eq_false h]
    cases hs : subTo a b b.n.toNat
    · rfl
    · exact absurd (e.2 hs) h
theorem rightR_eq {s : SpanB} (wa : WordsB s.al) (wb : WordsB s.ma) : rightR s = rightP s := by
  by_cases hf : fitP s = true
  · have hsh : shapedP s.pages s.size = true := by simp [fitP] at hf; exact hf.1
    have hm := manyP_of hsh
    have e1 : rightP s = (decide (bothOk s.al s.ma) && ((s.al.n == manyP s.size) && decide (andL s.al.w s.ma.w = s.ma.w))) := by
      simp [fitP] at hf
      simp [rightP, hf.1, hf.2.1, hf.2.2]
    rw [e1, rightR, hf, Bool.true_and, numsP]
    by_cases hA : okB s.al = true
    · by_cases hM : okB s.ma = true
      · by_cases hn : s.al.n = manyP s.size
        · by_cases hn' : s.ma.n = manyP s.size
          · rw [decide_eq_true (show bothOk s.al s.ma from ⟨hA, hM, by rw [hn, hn']⟩), sub_iff hA hM (by rw [hn, hn']) (by omega) (by omega) wa wb, hA, hM]
            simp [hn, hn']
          · rw [decide_eq_false (show ¬ bothOk s.al s.ma from fun h => hn' (by rw [← h.2.2, hn])), beq_eq_false_iff_ne.2 hn']
            simp
        · rw [beq_eq_false_iff_ne.2 hn]
          simp
      · rw [decide_eq_false (show ¬ bothOk s.al s.ma from fun h => hM h.2.1), show okB s.ma = false from by simpa using hM]
        simp
    · rw [decide_eq_false (show ¬ bothOk s.al s.ma from fun h => hA h.1), show okB s.al = false from by simpa using hA]
      simp
  · have e0 : fitP s = false := by simpa using hf
    rw [rightR, e0, Bool.false_and]
    unfold rightP
    unfold fitP at e0
    cases h1 : shapedP s.pages s.size
    · simp
    · cases h2 : decide (0 ≤ s.first)
      · simp
      · cases h3 : decide (s.first ≤ 1024 - s.pages)
        · simp
        · rw [h1, h2, h3] at e0
          simp at e0
theorem RdB.ws {w : World} {v : BitV} {b : BitB} (h : RdB w v b) : WordsB b := ⟨h.words⟩
/-! ### Spans in line -/
def RdL (w : World) (A : Option Addr) (vs : List SpanV) (l : List SpanB) : Prop := RdS w A vs ∧ vs.length = l.length ∧ ∀ (i : Nat) v s, vs[i]? = some v → l[i]? = some s → RdN w v s
theorem RdL.below {w w1 : World} {A : Option Addr} {vs : List SpanV} {l : List SpanB} (h : RdL w A vs l) (hb : Below w.heap.size w w1) : RdL w1 A vs l :=
  ⟨h.1.below hb, h.2.1, fun i v s hv hs => (h.2.2 i v s hv hs).below hb⟩
theorem RdL.len {w : World} {A : Option Addr} {vs : List SpanV} {l : List SpanB} (h : RdL w A vs l) : l.length ≤ 9223372036854775807 := by
  have := h.1.len
  rw [h.2.1] at this
  exact this
theorem RdL.at_ {w : World} {A : Option Addr} {vs : List SpanV} {l : List SpanB} (h : RdL w A vs l) {i : Nat} {s : SpanB} (hs : l[i]? = some s) : ∃ v b o, vs[i]? = some v ∧ RdN w v s ∧ A = some ⟨b, o, none⟩ ∧ b < w.heap.size ∧
    w.cell? ⟨b, o + i * 8, none⟩ = some (.int .i64 v.first) ∧ w.cell? ⟨b, o + i * 8 + 1, none⟩ = some (.int .i64 v.pages) ∧ w.cell? ⟨b, o + i * 8 + 2, none⟩ = some (.int .i64 v.size) ∧
    w.cell? ⟨b, o + i * 8 + 3, none⟩ = some (.int .i64 v.al.n) ∧ w.cell? ⟨b, o + i * 8 + 4, none⟩ = some (.slice v.al.A v.al.m v.al.c) ∧
    w.cell? ⟨b, o + i * 8 + 5, none⟩ = some (.int .i64 v.ma.n) ∧ w.cell? ⟨b, o + i * 8 + 6, none⟩ = some (.slice v.ma.A v.ma.m v.ma.c) ∧ w.cell? ⟨b, o + i * 8 + 7, none⟩ = some (.bool v.sw) := by
  have hi : i < l.length := (List.getElem?_eq_some_iff.1 hs).1
  have hv : vs[i]? = some (vs[i]'(by rw [h.2.1]; exact hi)) := List.getElem?_eq_getElem _
  obtain ⟨b, o, e, hb, hc⟩ := h.1.at_ hv
  exact ⟨_, b, o, hv, h.2.2 i _ s hv hs, e, hb, hc⟩
def endP (s : SpanB) : Int := s.first + s.pages
def atOk (l : List SpanB) (i : Nat) : Bool := match l[i]? with
  | some s => rightP s && (decide (i = 0) || (match l[i - 1]? with | some p => decide (endP p ≤ s.first) | none => true))
  | none => true
def okTo (l : List SpanB) (k : Nat) : Bool := (List.range k).all (atOk l)
def okL (l : List SpanB) : Bool := decide (l.length ≤ 256) && okTo l l.length
def chkE (l : List SpanB) : Int := if okL l then 0 else 2
theorem okTo_succ {l : List SpanB} {k : Nat} : okTo l (k + 1) = (okTo l k && atOk l k) := by simp [okTo, List.range_succ]
theorem okTo_no {l : List SpanB} {k n : Nat} (hk : k < n) (h : atOk l k = false) : okTo l n = false := by
  rw [okTo, List.all_eq_false]
  exact ⟨k, List.mem_range.2 hk, by simp [h]⟩
theorem okTo_at {l : List SpanB} {k n : Nat} (h : okTo l n = true) (hk : k < n) : atOk l k = true := by
  rw [okTo, List.all_eq_true] at h
  exact h k (List.mem_range.2 hk)
theorem rightP_parts {s : SpanB} (h : rightP s = true) : shapedP s.pages s.size = true ∧ 0 ≤ s.first ∧ s.first ≤ 1024 - s.pages ∧ okB s.al = true ∧ okB s.ma = true ∧ s.al.n = manyP s.size ∧ s.ma.n = manyP s.size ∧ andL s.al.w s.ma.w = s.ma.w := by
  unfold rightP at h
  simp only [Bool.and_eq_true, decide_eq_true_eq, beq_iff_eq] at h
  obtain ⟨h1, h2, h3, h4, h5, h6⟩ := h
  exact ⟨h1, h2, h3, h4.1, h4.2.1, h5, by rw [← h4.2.2, h5], h6⟩
theorem right_end {s : SpanB} (h : rightP s = true) : wrap64 (s.first + s.pages) = endP s ∧ 1 ≤ endP s ∧ endP s ≤ 1024 := by
  obtain ⟨h1, h2, h3, _⟩ := rightP_parts h
  have := shapedP_pages h1
  unfold endP wrap64
  omega


theorem atOk_first {l : List SpanB} {s : SpanB} (hs : l[0]? = some s) : atOk l 0 = rightP s := by simp [atOk, hs]
theorem atOk_next {l : List SpanB} {j : Nat} {p s : SpanB} (hp : l[j]? = some p) (hs : l[j + 1]? = some s) : atOk l (j + 1) = (rightP s && decide (endP p ≤ s.first)) := by simp [atOk, hp, hs]
theorem atOk_bad {l : List SpanB} {k : Nat} {s : SpanB} (hs : l[k]? = some s) (h : rightP s = false) : atOk l k = false := by simp [atOk, hs, h]
theorem atOk_right {l : List SpanB} {k : Nat} {s : SpanB} (hs : l[k]? = some s) (h : atOk l k = true) : rightP s = true := by
  unfold atOk at h
  rw [hs] at h
  simp only [Bool.and_eq_true] at h
  exact h.1

theorem wrap_in {x : Int} (h : -9223372036854775808 ≤ x ∧ x ≤ 9223372036854775807) : IntKind.i64.wrap x = x := by rw [IntKind.wrap_i64]; omega
set_option maxRecDepth 100000 in
set_option maxHeartbeats 8000000 in
theorem check19 (A : Option Addr) (c : Nat) (vs : List SpanV) (l : List SpanB) (w : World) (h : RdL w A vs l) : Calls Tryz.prog 66 #[.slice A l.length c] w (Ret (.int .i64 (chkE l)) w) := by
  have hl := h.len
  have H := Lib.hid h
  clear h
  by_cases hb : l.length ≤ 256
  · go_enter Tryz.func66, Tryz.ntmps66
    go_wp2
    have E : Hid (∀ b, okTo l l.length = b → chkE l = if b then 0 else 2) := by
      intro b hb'
      rw [chkE, okL, decide_eq_true hb, hb', Bool.true_and]
    obtain ⟨wo, hwo⟩ : ∃ wo : World, wo = w := ⟨w, rfl⟩
    go_loopw [10] (fun i wr => ∃ k : Nat, k ≤ l.length ∧ i = .int .i64 k ∧ Hid (okTo l k = true) ∧ Hid (Below w.heap.size w wr)) (fun i _ => l.length - (intOf i).toNat)
    case atStart => exact ⟨0, Nat.zero_le _, rfl, rfl, Below.refl _ _⟩
    case round =>
      obtain ⟨k, hk, rfl, HT, HBr⟩ := hrel
      by_cases hlt : k < l.length
      · have hs : l[k]? = some l[k] := List.getElem?_eq_getElem hlt
        generalize l[k] = s at hs
        obtain ⟨v, bk, o, hv, hR, hA, hbk, c0, c1, c2, c3, c4, c5, c6, c7⟩ := H.out.at_ hs
        have CR : Hid (∀ W, Below w.heap.size w W → Calls Tryz.prog 97 #[v.v] W (Ret (.bool (rightP s)) W)) := fun W hW => right38 v s W (hR.below hW)
        have hR1 := hR.first
        obtain ⟨f, p, z, ⟨n, A1, m, ca⟩, ⟨n', A2, m', cb⟩, sw⟩ := v
        unfold SpanV.v at CR
        simp only at c0 c1 c2 c3 c4 c5 c6 c7 hR1 CR
        subst hR1
        subst hA
        clear hR
        have HV := Lib.hid hv
        have HSS := Lib.hid hs
        clear hv hs
        replace c0 := cell_later HBr.out c0
        replace c1 := cell_later HBr.out c1
        replace c2 := cell_later HBr.out c2
        replace c3 := cell_later HBr.out c3
        replace c4 := cell_later HBr.out c4
        replace c5 := cell_later HBr.out c5
        replace c6 := cell_later HBr.out c6
        replace c7 := cell_later HBr.out c7
        go_wp2
        have HB1 := Lib.hid (balloc HBr.out (.cells #[.int .i64 s.first, .int .i64 p, .int .i64 z, .int .i64 n, .slice A1 m ca, .int .i64 n', .slice A2 m' cb, .bool sw] 44))
        have K0 : Hid ((wr.alloc (.cells #[.int .i64 s.first, .int .i64 p, .int .i64 z, .int .i64 n, .slice A1 m ca, .int .i64 n', .slice A2 m' cb, .bool sw] 44)).cell? ⟨wr.heap.size, 0, none⟩ = some (.int .i64 s.first)) := by show _ = _; go_simp
        have K1 : Hid ((wr.alloc (.cells #[.int .i64 s.first, .int .i64 p, .int .i64 z, .int .i64 n, .slice A1 m ca, .int .i64 n', .slice A2 m' cb, .bool sw] 44)).cell? ⟨wr.heap.size, 1, none⟩ = some (.int .i64 p)) := by show _ = _; go_simp
        have K2 : Hid ((wr.alloc (.cells #[.int .i64 s.first, .int .i64 p, .int .i64 z, .int .i64 n, .slice A1 m ca, .int .i64 n', .slice A2 m' cb, .bool sw] 44)).cell? ⟨wr.heap.size, 2, none⟩ = some (.int .i64 z)) := by show _ = _; go_simp
        have K3 : Hid ((wr.alloc (.cells #[.int .i64 s.first, .int .i64 p, .int .i64 z, .int .i64 n, .slice A1 m ca, .int .i64 n', .slice A2 m' cb, .bool sw] 44)).cell? ⟨wr.heap.size, 3, none⟩ = some (.int .i64 n)) := by show _ = _; go_simp
        have K4 : Hid ((wr.alloc (.cells #[.int .i64 s.first, .int .i64 p, .int .i64 z, .int .i64 n, .slice A1 m ca, .int .i64 n', .slice A2 m' cb, .bool sw] 44)).cell? ⟨wr.heap.size, 4, none⟩ = some (.slice A1 m ca)) := by show _ = _; go_simp
        have K5 : Hid ((wr.alloc (.cells #[.int .i64 s.first, .int .i64 p, .int .i64 z, .int .i64 n, .slice A1 m ca, .int .i64 n', .slice A2 m' cb, .bool sw] 44)).cell? ⟨wr.heap.size, 5, none⟩ = some (.int .i64 n')) := by show _ = _; go_simp
        have K6 : Hid ((wr.alloc (.cells #[.int .i64 s.first, .int .i64 p, .int .i64 z, .int .i64 n, .slice A1 m ca, .int .i64 n', .slice A2 m' cb, .bool sw] 44)).cell? ⟨wr.heap.size, 6, none⟩ = some (.slice A2 m' cb)) := by show _ = _; go_simp
        have K7 : Hid ((wr.alloc (.cells #[.int .i64 s.first, .int .i64 p, .int .i64 z, .int .i64 n, .slice A1 m ca, .int .i64 n', .slice A2 m' cb, .bool sw] 44)).cell? ⟨wr.heap.size, 7, none⟩ = some (.bool sw)) := by show _ = _; go_simp
        clear c0 c1 c2 c3 c4 c5 c6 c7
        generalize wr.alloc (.cells #[.int .i64 s.first, .int .i64 p, .int .i64 z, .int .i64 n, .slice A1 m ca, .int .i64 n', .slice A2 m' cb, .bool sw] 44) = W1 at *
        by_cases hr : rightP s = true
        · rw [hr] at CR
          have HRR := Lib.hid hr
          clear hr
          rcases k with _ | j
          · skip
            refine region_up (by kernel_rfl) (by kernel_rfl) ?_
            go_big_quiet_want
            apply Exists.intro
            refine ⟨fun W hW => ?_, ?_⟩
            · have g0 := cell_later hW K0.out
              have g1 := cell_later hW K1.out
              have g2 := cell_later hW K2.out
              have g3 := cell_later hW K3.out
              have g4 := cell_later hW K4.out
              have g5 := cell_later hW K5.out
              have g6 := cell_later hW K6.out
              have g7 := cell_later hW K7.out
              go_simp
              all_goals exact rfl
            simp only [Act.put, List.setIfInBounds_toArray, List.set_cons_succ, List.set_cons_zero]
            go_big_quiet_on
            go_big_quiet_want
            apply Exists.intro
            refine ⟨fun W hW => ?_, ?_⟩
            · have g0 := cell_later hW K0.out
              have g1 := cell_later hW K1.out
              have g2 := cell_later hW K2.out
              have g3 := cell_later hW K3.out
              have g4 := cell_later hW K4.out
              have g5 := cell_later hW K5.out
              have g6 := cell_later hW K6.out
              have g7 := cell_later hW K7.out
              go_simp
              exact call_up hW (CR.out W (bthen HB1.out hW))
            simp only [Act.put, List.setIfInBounds_toArray, List.set_cons_succ, List.set_cons_zero]
            go_big_quiet_on
            iterate 5
              go_big_quiet_want
              apply Exists.intro
              refine ⟨fun W hW => ?_, ?_⟩
              · have g0 := cell_later hW K0.out
                have g1 := cell_later hW K1.out
                have g2 := cell_later hW K2.out
                have g3 := cell_later hW K3.out
                have g4 := cell_later hW K4.out
                have g5 := cell_later hW K5.out
                have g6 := cell_later hW K6.out
                have g7 := cell_later hW K7.out
                go_simp
                all_goals exact rfl
              simp only [Act.put, List.setIfInBounds_toArray, List.set_cons_succ, List.set_cons_zero]
              go_big_quiet_on
            iterate 9 go_big_quiet_skip
            iterate 2
              go_big_quiet_want
              apply Exists.intro
              refine ⟨fun W hW => ?_, ?_⟩
              · have g0 := cell_later hW K0.out
                have g1 := cell_later hW K1.out
                have g2 := cell_later hW K2.out
                have g3 := cell_later hW K3.out
                have g4 := cell_later hW K4.out
                have g5 := cell_later hW K5.out
                have g6 := cell_later hW K6.out
                have g7 := cell_later hW K7.out
                go_simp
                all_goals exact rfl
              simp only [Act.put, List.setIfInBounds_toArray, List.set_cons_succ, List.set_cons_zero]
              go_big_quiet_on
            refine wpQuiet_nil ?_
            intro W hW
            have HBW := Lib.hid (bthen HB1.out hW)
            clear hW
            go_wp2
            go_roundw
            case rel => exact ⟨1, by omega, by go_num, (by show _ = _; rw [okTo_succ, HT.out, atOk_first HSS.out, HRR.out]; rfl), HBW.out⟩
            case measure => simp [intOf]; omega
          · have hj : j < l.length := by omega
            have hsp : l[j]? = some l[j] := List.getElem?_eq_getElem hj
            generalize l[j] = sp at hsp
            obtain ⟨vp, bk', o', hvp, hRp, hA', hbk', d0, d1, d2, d3, d4, d5, d6, d7⟩ := H.out.at_ hsp
            cases hA'
            have hrp := atOk_right hsp (okTo_at HT.out (Nat.lt_succ_self j))
            have hend := right_end hrp
            have CP : Hid (∀ W, Calls Tryz.prog 98 #[vp.v] W (Ret (.int .i64 (endP sp)) W)) := fun W => by
              have := end46 vp W
              rwa [hRp.first, hRp.pages, hend.1] at this
            have q1 : 1 ≤ sp.first + sp.pages := hend.2.1
            have q2 : sp.first + sp.pages ≤ 1024 := hend.2.2
            have hR1 := hRp.first
            have hR2 := hRp.pages
            obtain ⟨fp, pp, zp, ⟨np, A1p, mp, cap⟩, ⟨np', A2p, mp', cbp⟩, swp⟩ := vp
            unfold SpanV.v at CP
            simp only at d0 d1 d2 d3 d4 d5 d6 d7 hR1 hR2 CP
            subst hR1
            subst hR2
            have HSP := Lib.hid hsp
            clear hRp hrp hvp hsp hend
            have L0 := Lib.hid (cell_later HB1.out d0)
            have L1 := Lib.hid (cell_later HB1.out d1)
            have L2 := Lib.hid (cell_later HB1.out d2)
            have L3 := Lib.hid (cell_later HB1.out d3)
            have L4 := Lib.hid (cell_later HB1.out d4)
            have L5 := Lib.hid (cell_later HB1.out d5)
            have L6 := Lib.hid (cell_later HB1.out d6)
            have L7 := Lib.hid (cell_later HB1.out d7)
            clear d0 d1 d2 d3 d4 d5 d6 d7
            by_cases hle : sp.first + sp.pages ≤ s.first
            · have q3 : ¬ s.first < sp.first + sp.pages := by omega
              have q4 : Hid (endP sp ≤ s.first) := hle
              have hw1 := wrap_in (x := (j : Int)) (by omega)
              have hw2 := wrap_in (x := sp.first + sp.pages) (by omega)
              unfold endP at CP
              refine region_up (by kernel_rfl) (by kernel_rfl) ?_
              go_big_quiet_want
              apply Exists.intro
              refine ⟨fun W hW => ?_, ?_⟩
              · have g0 := cell_later hW K0.out
                have g1 := cell_later hW K1.out
                have g2 := cell_later hW K2.out
                have g3 := cell_later hW K3.out
                have g4 := cell_later hW K4.out
                have g5 := cell_later hW K5.out
                have g6 := cell_later hW K6.out
                have g7 := cell_later hW K7.out
                have g8 := cell_later hW L0.out
                have g9 := cell_later hW L1.out
                have g10 := cell_later hW L2.out
                have g11 := cell_later hW L3.out
                have g12 := cell_later hW L4.out
                have g13 := cell_later hW L5.out
                have g14 := cell_later hW L6.out
                have g15 := cell_later hW L7.out
                go_simp
                all_goals exact rfl
              simp only [Act.put, List.setIfInBounds_toArray, List.set_cons_succ, List.set_cons_zero]
              go_big_quiet_on
              go_big_quiet_want
              apply Exists.intro
              refine ⟨fun W hW => ?_, ?_⟩
              · have g0 := cell_later hW K0.out
                have g1 := cell_later hW K1.out
                have g2 := cell_later hW K2.out
                have g3 := cell_later hW K3.out
                have g4 := cell_later hW K4.out
                have g5 := cell_later hW K5.out
                have g6 := cell_later hW K6.out
                have g7 := cell_later hW K7.out
                have g8 := cell_later hW L0.out
                have g9 := cell_later hW L1.out
                have g10 := cell_later hW L2.out
                have g11 := cell_later hW L3.out
                have g12 := cell_later hW L4.out
                have g13 := cell_later hW L5.out
                have g14 := cell_later hW L6.out
                have g15 := cell_later hW L7.out
                go_simp
                exact call_up hW (CR.out W (bthen HB1.out hW))
              simp only [Act.put, List.setIfInBounds_toArray, List.set_cons_succ, List.set_cons_zero]
              go_big_quiet_on
              iterate 10
                go_big_quiet_want
                apply Exists.intro
                refine ⟨fun W hW => ?_, ?_⟩
                · have g0 := cell_later hW K0.out
                  have g1 := cell_later hW K1.out
                  have g2 := cell_later hW K2.out
                  have g3 := cell_later hW K3.out
                  have g4 := cell_later hW K4.out
                  have g5 := cell_later hW K5.out
                  have g6 := cell_later hW K6.out
                  have g7 := cell_later hW K7.out
                  have g8 := cell_later hW L0.out
                  have g9 := cell_later hW L1.out
                  have g10 := cell_later hW L2.out
                  have g11 := cell_later hW L3.out
                  have g12 := cell_later hW L4.out
                  have g13 := cell_later hW L5.out
                  have g14 := cell_later hW L6.out
                  have g15 := cell_later hW L7.out
                  go_simp
                  all_goals exact rfl
                simp only [Act.put, List.setIfInBounds_toArray, List.set_cons_succ, List.set_cons_zero]
                go_big_quiet_on
              go_big_quiet_want
              apply Exists.intro
              refine ⟨fun W hW => ?_, ?_⟩
              · have g0 := cell_later hW K0.out
                have g1 := cell_later hW K1.out
                have g2 := cell_later hW K2.out
                have g3 := cell_later hW K3.out
                have g4 := cell_later hW K4.out
                have g5 := cell_later hW K5.out
                have g6 := cell_later hW K6.out
                have g7 := cell_later hW K7.out
                have g8 := cell_later hW L0.out
                have g9 := cell_later hW L1.out
                have g10 := cell_later hW L2.out
                have g11 := cell_later hW L3.out
                have g12 := cell_later hW L4.out
                have g13 := cell_later hW L5.out
                have g14 := cell_later hW L6.out
                have g15 := cell_later hW L7.out
                go_simp
                exact call_up hW (CP.out W)
              simp only [Act.put, List.setIfInBounds_toArray, List.set_cons_succ, List.set_cons_zero]
              go_big_quiet_on
              iterate 5
                go_big_quiet_want
                apply Exists.intro
                refine ⟨fun W hW => ?_, ?_⟩
                · have g0 := cell_later hW K0.out
                  have g1 := cell_later hW K1.out
                  have g2 := cell_later hW K2.out
                  have g3 := cell_later hW K3.out
                  have g4 := cell_later hW K4.out
                  have g5 := cell_later hW K5.out
                  have g6 := cell_later hW K6.out
                  have g7 := cell_later hW K7.out
                  have g8 := cell_later hW L0.out
                  have g9 := cell_later hW L1.out
                  have g10 := cell_later hW L2.out
                  have g11 := cell_later hW L3.out
                  have g12 := cell_later hW L4.out
                  have g13 := cell_later hW L5.out
                  have g14 := cell_later hW L6.out
                  have g15 := cell_later hW L7.out
                  go_simp
                  all_goals exact rfl
                simp only [Act.put, List.setIfInBounds_toArray, List.set_cons_succ, List.set_cons_zero]
                go_big_quiet_on
              refine wpQuiet_nil ?_
              intro W hW
              clear hw1 hw2
              have HBW := Lib.hid (bthen HB1.out hW)
              clear hW
              go_wp2
              go_roundw
              case rel => exact ⟨j + 1 + 1, by omega, by go_num, (by show _ = _; rw [okTo_succ, HT.out, atOk_next HSP.out HSS.out, HRR.out, decide_eq_true q4.out]; rfl), HBW.out⟩
              case measure => simp [intOf]; omega
            · have q3 : s.first < sp.first + sp.pages := by omega
              have q4 : Hid (¬ endP sp ≤ s.first) := by show ¬ _; unfold endP; omega
              have hno := okTo_no hlt (by rw [atOk_next HSP.out HSS.out, decide_eq_false q4.out, Bool.and_false])
              have E := Lib.hid (E.out _ hno)
              clear hno
              have hw1 := wrap_in (x := (j : Int)) (by omega)
              have hw2 := wrap_in (x := sp.first + sp.pages) (by omega)
              unfold endP at CP
              refine region_up (by kernel_rfl) (by kernel_rfl) ?_
              go_big_quiet_want
              apply Exists.intro
              refine ⟨fun W hW => ?_, ?_⟩
              · have g0 := cell_later hW K0.out
                have g1 := cell_later hW K1.out
                have g2 := cell_later hW K2.out
                have g3 := cell_later hW K3.out
                have g4 := cell_later hW K4.out
                have g5 := cell_later hW K5.out
                have g6 := cell_later hW K6.out
                have g7 := cell_later hW K7.out
                have g8 := cell_later hW L0.out
                have g9 := cell_later hW L1.out
                have g10 := cell_later hW L2.out
                have g11 := cell_later hW L3.out
                have g12 := cell_later hW L4.out
                have g13 := cell_later hW L5.out
                have g14 := cell_later hW L6.out
                have g15 := cell_later hW L7.out
                go_simp
                all_goals exact rfl
              simp only [Act.put, List.setIfInBounds_toArray, List.set_cons_succ, List.set_cons_zero]
              go_big_quiet_on
              go_big_quiet_want
              apply Exists.intro
              refine ⟨fun W hW => ?_, ?_⟩
              · have g0 := cell_later hW K0.out
                have g1 := cell_later hW K1.out
                have g2 := cell_later hW K2.out
                have g3 := cell_later hW K3.out
                have g4 := cell_later hW K4.out
                have g5 := cell_later hW K5.out
                have g6 := cell_later hW K6.out
                have g7 := cell_later hW K7.out
                have g8 := cell_later hW L0.out
                have g9 := cell_later hW L1.out
                have g10 := cell_later hW L2.out
                have g11 := cell_later hW L3.out
                have g12 := cell_later hW L4.out
                have g13 := cell_later hW L5.out
                have g14 := cell_later hW L6.out
                have g15 := cell_later hW L7.out
                go_simp
                exact call_up hW (CR.out W (bthen HB1.out hW))
              simp only [Act.put, List.setIfInBounds_toArray, List.set_cons_succ, List.set_cons_zero]
              go_big_quiet_on
              iterate 10
                go_big_quiet_want
                apply Exists.intro
                refine ⟨fun W hW => ?_, ?_⟩
                · have g0 := cell_later hW K0.out
                  have g1 := cell_later hW K1.out
                  have g2 := cell_later hW K2.out
                  have g3 := cell_later hW K3.out
                  have g4 := cell_later hW K4.out
                  have g5 := cell_later hW K5.out
                  have g6 := cell_later hW K6.out
                  have g7 := cell_later hW K7.out
                  have g8 := cell_later hW L0.out
                  have g9 := cell_later hW L1.out
                  have g10 := cell_later hW L2.out
                  have g11 := cell_later hW L3.out
                  have g12 := cell_later hW L4.out
                  have g13 := cell_later hW L5.out
                  have g14 := cell_later hW L6.out
                  have g15 := cell_later hW L7.out
                  go_simp
                  all_goals exact rfl
                simp only [Act.put, List.setIfInBounds_toArray, List.set_cons_succ, List.set_cons_zero]
                go_big_quiet_on
              go_big_quiet_want
              apply Exists.intro
              refine ⟨fun W hW => ?_, ?_⟩
              · have g0 := cell_later hW K0.out
                have g1 := cell_later hW K1.out
                have g2 := cell_later hW K2.out
                have g3 := cell_later hW K3.out
                have g4 := cell_later hW K4.out
                have g5 := cell_later hW K5.out
                have g6 := cell_later hW K6.out
                have g7 := cell_later hW K7.out
                have g8 := cell_later hW L0.out
                have g9 := cell_later hW L1.out
                have g10 := cell_later hW L2.out
                have g11 := cell_later hW L3.out
                have g12 := cell_later hW L4.out
                have g13 := cell_later hW L5.out
                have g14 := cell_later hW L6.out
                have g15 := cell_later hW L7.out
                go_simp
                exact call_up hW (CP.out W)
              simp only [Act.put, List.setIfInBounds_toArray, List.set_cons_succ, List.set_cons_zero]
              go_big_quiet_on
              iterate 5
                go_big_quiet_want
                apply Exists.intro
                refine ⟨fun W hW => ?_, ?_⟩
                · have g0 := cell_later hW K0.out
                  have g1 := cell_later hW K1.out
                  have g2 := cell_later hW K2.out
                  have g3 := cell_later hW K3.out
                  have g4 := cell_later hW K4.out
                  have g5 := cell_later hW K5.out
                  have g6 := cell_later hW K6.out
                  have g7 := cell_later hW K7.out
                  have g8 := cell_later hW L0.out
                  have g9 := cell_later hW L1.out
                  have g10 := cell_later hW L2.out
                  have g11 := cell_later hW L3.out
                  have g12 := cell_later hW L4.out
                  have g13 := cell_later hW L5.out
                  have g14 := cell_later hW L6.out
                  have g15 := cell_later hW L7.out
                  go_simp
                  all_goals exact rfl
                simp only [Act.put, List.setIfInBounds_toArray, List.set_cons_succ, List.set_cons_zero]
                go_big_quiet_on
              refine wpQuiet_nil ?_
              intro W hW
              clear hw1 hw2
              have HBW := Lib.hid (bthen HB1.out hW)
              clear hW
              go_wp2
              go_ret
              rw [E.out]
              exact ⟨rfl, HBW.out⟩
        · have hr : rightP s = false := by simpa using hr
          rw [hr] at CR
          have E := Lib.hid (E.out _ (okTo_no hlt (atOk_bad HSS.out hr)))
          clear hr
          refine region_up (by kernel_rfl) (by kernel_rfl) ?_
          go_big_quiet_want
          apply Exists.intro
          refine ⟨fun W hW => ?_, ?_⟩
          · have g0 := cell_later hW K0.out
            have g1 := cell_later hW K1.out
            have g2 := cell_later hW K2.out
            have g3 := cell_later hW K3.out
            have g4 := cell_later hW K4.out
            have g5 := cell_later hW K5.out
            have g6 := cell_later hW K6.out
            have g7 := cell_later hW K7.out
            go_simp
            all_goals exact rfl
          simp only [Act.put, List.setIfInBounds_toArray, List.set_cons_succ, List.set_cons_zero]
          go_big_quiet_on
          go_big_quiet_want
          apply Exists.intro
          refine ⟨fun W hW => ?_, ?_⟩
          · have g0 := cell_later hW K0.out
            have g1 := cell_later hW K1.out
            have g2 := cell_later hW K2.out
            have g3 := cell_later hW K3.out
            have g4 := cell_later hW K4.out
            have g5 := cell_later hW K5.out
            have g6 := cell_later hW K6.out
            have g7 := cell_later hW K7.out
            go_simp
            exact call_up hW (CR.out W (bthen HB1.out hW))
          simp only [Act.put, List.setIfInBounds_toArray, List.set_cons_succ, List.set_cons_zero]
          go_big_quiet_on
          iterate 2
            go_big_quiet_want
            apply Exists.intro
            refine ⟨fun W hW => ?_, ?_⟩
            · have g0 := cell_later hW K0.out
              have g1 := cell_later hW K1.out
              have g2 := cell_later hW K2.out
              have g3 := cell_later hW K3.out
              have g4 := cell_later hW K4.out
              have g5 := cell_later hW K5.out
              have g6 := cell_later hW K6.out
              have g7 := cell_later hW K7.out
              go_simp
              all_goals exact rfl
            simp only [Act.put, List.setIfInBounds_toArray, List.set_cons_succ, List.set_cons_zero]
            go_big_quiet_on
          iterate 13 go_big_quiet_skip
          go_big_quiet_want
          apply Exists.intro
          refine ⟨fun W hW => ?_, ?_⟩
          · have g0 := cell_later hW K0.out
            have g1 := cell_later hW K1.out
            have g2 := cell_later hW K2.out
            have g3 := cell_later hW K3.out
            have g4 := cell_later hW K4.out
            have g5 := cell_later hW K5.out
            have g6 := cell_later hW K6.out
            have g7 := cell_later hW K7.out
            go_simp
            all_goals exact rfl
          simp only [Act.put, List.setIfInBounds_toArray, List.set_cons_succ, List.set_cons_zero]
          go_big_quiet_on
          refine wpQuiet_nil ?_
          intro W hW
          have HBW := Lib.hid (bthen HB1.out hW)
          clear hW
          go_wp2
          go_ret
          rw [E.out]
          exact ⟨rfl, HBW.out⟩
      · obtain rfl : k = l.length := by omega
        have E := Lib.hid (E.out _ HT.out)
        go_wp2
        go_ret
        rw [E.out]
        exact ⟨rfl, HBr.out⟩
  · have E : Hid (chkE l = 2) := by show _ = _; rw [chkE, okL, decide_eq_false hb, Bool.false_and]; rfl
    have hb : 256 < l.length := by omega
    go_enter Tryz.func66, Tryz.ntmps66
    go_wp2
    go_ret
    rw [E.out]
    exact ⟨rfl, Below.refl _ _⟩
end Go.Proofs.YtieijfefnedifaaGreatDoor
