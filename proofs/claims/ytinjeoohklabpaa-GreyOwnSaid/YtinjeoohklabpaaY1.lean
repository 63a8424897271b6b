/- The walks of the two Same. -/
import Derived.Test.YtinjeoohklabpaaY0
import Derived.OwnWalk
namespace Go.Proofs.Ytinjeoohklabpaa
open Go.RowKit
set_option linter.unusedVariables false
set_option linter.unusedSimpArgs false

theorem bcell {W w1 : World} (hb : Below W.heap.size W w1) : (∀ b o, b < W.heap.size → w1.cell? ⟨b, o, none⟩ = W.cell? ⟨b, o, none⟩) ∧ (∀ b o, b < W.heap.size → w1.frozen? ⟨b, o, none⟩ = W.frozen? ⟨b, o, none⟩) :=
  ⟨fun b o h => hb.cell (p := ⟨b, o, none⟩) h, fun b o h => hb.frozen (p := ⟨b, o, none⟩) h⟩
theorem take_eq_succ {α : Type} {l m : List α} {k : Nat} {x y : α} (h : l.take k = m.take k) (hx : l[k]? = some x) (hy : m[k]? = some y) (e : x = y) : l.take (k + 1) = m.take (k + 1) := by
  rw [List.take_add_one, List.take_add_one, h, hx, hy, e]
theorem ne_of_at {α : Type} {l m : List α} {k : Nat} {x y : α} (hx : l[k]? = some x) (hy : m[k]? = some y) (e : x ≠ y) : l ≠ m := by
  rintro rfl
  rw [hx] at hy
  exact e (Option.some.inj hy)
set_option maxRecDepth 100000 in
set_option maxHeartbeats 8000000 in
theorem sameU (la lb : List Int) (A B : Option Addr) (ca cb : Nat) (w : World) (ha : RdU w A la) (hb : RdU w B lb) :
    Calls Try.prog 27 #[.slice A la.length ca, .slice B lb.length cb] w (Ret (.bool (decide (la = lb))) w) := by
  have hla := ha.len
  have hlb := hb.len
  have HA := Lib.hid ha
  have HB := Lib.hid hb
  clear ha hb
  by_cases h : lb.length = la.length
  · have HM := Lib.hid h
    rw [h] at hlb ⊢
    clear h hlb
    go_enter Try.func27, Try.ntmps27
    go_wp2
    obtain ⟨wo, hwo⟩ : ∃ wo : World, wo = w := ⟨_, rfl⟩
    go_loopw [13] (fun i wr => ∃ k : Nat, k ≤ la.length ∧ i = .int .i64 k ∧ Hid (la.take k = lb.take k) ∧ Hid (Below w.heap.size w wr)) (fun i _ => la.length - (intOf i).toNat)
    case atStart => exact ⟨0, Nat.zero_le _, rfl, Eq.refl (la.take 0), Below.refl _ _⟩
    case round =>
      obtain ⟨k, hk, rfl, HT, HBr⟩ := hrel
      by_cases hlt : k < la.length
      · have hx : la[k]? = some la[k] := List.getElem?_eq_getElem hlt
        have hy : lb[k]? = some (lb[k]'(by have := HM.out; omega)) := List.getElem?_eq_getElem (by have := HM.out; omega)
        obtain ⟨b1, o1, e1, _, c1⟩ := HA.out.at_ hx
        obtain ⟨b2, o2, e2, _, c2⟩ := HB.out.at_ hy
        subst e1
        subst e2
        have c1 := cell_later HBr.out c1
        have c2 := cell_later HBr.out c2
        have HX := Lib.hid hx
        have HY := Lib.hid hy
        clear hx hy
        generalize la[k] = x at *
        generalize (lb[k]'_) = y at *
        by_cases hxy : x = y
        · have e1 : (x != y) = false := by simp [hxy]
          have HE := Lib.hid hxy
          clear hxy
          go_wp2
          go_quiet (fail)
          go_wp2
          go_roundw
          case rel => exact ⟨k + 1, by omega, by go_num, take_eq_succ HT.out HX.out HY.out HE.out, by first | exact HBr.out | exact bdrewN HBr.out _⟩
          case measure => simp [intOf]; omega
        · have e1 : (x != y) = true := by simp [hxy]
          have HE := Lib.hid (ne_of_at HX.out HY.out hxy)
          clear hxy
          go_wp2
          go_quiet (fail)
          go_wp2
          go_ret
          rw [decide_eq_false HE.out]
          exact ⟨rfl, by first | exact HBr.out | exact bdrewN HBr.out _⟩
      · obtain rfl : k = la.length := by omega
        go_wp2
        go_ret
        rw [decide_eq_true (show la = lb from by have := HT.out; rwa [List.take_length, ← HM.out, List.take_length] at this)]
        exact ⟨rfl, HBr.out⟩
  · have E : Hid (decide (la = lb) = false) := by show _ = _; exact decide_eq_false (fun e => h (by rw [e]))
    have e2 : (la.length != lb.length) = true := by rw [bne_iff_ne]; omega
    have e3 : (((la.length : Nat) : Int) != ((lb.length : Nat) : Int)) = true := by rw [bne_iff_ne]; omega
    clear h
    go_enter Try.func27, Try.ntmps27
    go_wp2
    go_ret
    rw [E.out]
    exact ⟨rfl, Below.refl _ _⟩

/-- A variable that holds queues. -/
def VarG (W : World) (b : Nat) (A : Option Addr) (n c : Nat) : Prop := W.cell? ⟨b, 0, none⟩ = some (.slice A n c)
theorem VarG.below {w w1 : World} {b : Nat} {A : Option Addr} {n c : Nat} (h : VarG w b A n c) (hb : Below w.heap.size w w1) : VarG w1 b A n c := cell_later hb h
theorem VarG.lt {w : World} {b : Nat} {A : Option Addr} {n c : Nat} (h : VarG w b A n c) : b < w.heap.size := World.block_lt_of_cell? w _ h

set_option maxRecDepth 100000 in
set_option maxHeartbeats 8000000 in
theorem sameQ (A B : Option Addr) (c d : Nat) (vs us : List QV) (l m : List (List Int)) (w : World) (ha : RdQ w A vs l) (hb : RdQ w B us m) :
    Calls Try.prog 15 #[.agg #[.slice A l.length c], .agg #[.slice B m.length d]] w (Ret (.bool (decide (l = m))) w) := by
  have hl := ha.len
  have hlm := hb.len
  have HA := Lib.hid ha
  have HB := Lib.hid hb
  clear ha hb
  by_cases h : m.length = l.length
  · have HM := Lib.hid h
    rw [h] at hlm ⊢
    clear h hlm
    have hb1 : Below w.heap.size w ((w.alloc (.cells #[.slice A l.length c] 24)).alloc (.cells #[.slice B l.length d] 24)) := balloc (balloc (Below.refl _ _) _) _
    have HB1 := Lib.hid hb1
    clear hb1
    go_enter Try.func15, Try.ntmps15
    go_wp2
    go_loopw [16] (fun i wr => ∃ k : Nat, k ≤ l.length ∧ i = .int .i64 k ∧ Hid (l.take k = m.take k) ∧ Hid (VarG wr w.heap.size A l.length c) ∧ Hid (VarG wr (w.heap.size + 1) B l.length d) ∧ Hid (Below w.heap.size w wr)) (fun i _ => l.length - (intOf i).toNat)
    case atStart => exact ⟨0, Nat.zero_le _, rfl, Eq.refl (l.take 0), (by show _ = _; go_simp), (by show _ = _; go_simp), HB1.out⟩
    case round =>
      obtain ⟨k, hk, rfl, HT, HC1, HC2, HBr⟩ := hrel
      by_cases hlt : k < l.length
      · have hs : l[k]? = some l[k] := List.getElem?_eq_getElem hlt
        have hmk : k < m.length := by rw [HM.out]; exact hlt
        have ht : m[k]? = some m[k] := List.getElem?_eq_getElem hmk
        generalize l[k] = s at hs
        generalize m[k] = t at ht
        clear hmk
        obtain ⟨v, bv, ov, hvi, hA, hbv, c0, hR⟩ := HA.out.at_ hs
        obtain ⟨u, bu, ou, hvk, hA', hbu, d0, hR'⟩ := HB.out.at_ ht
        subst hA
        subst hA'
        have hsl := hR.len
        have htl := hR'.len
        have CS : Hid (∀ W, Below w.heap.size w W → Calls Try.prog 27 #[.slice v.A s.length v.c, .slice u.A t.length u.c] W (Ret (.bool (decide (s = t))) W)) := fun W hW => sameU s t _ _ _ _ W (hR.below hW) (hR'.below hW)
        obtain ⟨v1, v2, v3⟩ := v
        obtain ⟨u1, u2, u3⟩ := u
        simp only at c0 d0 CS
        clear hR hR' hvi hvk
        have HS := Lib.hid hs
        have HTT := Lib.hid ht
        clear hs ht
        have k1 := HC1.out
        have k2 := HC2.out
        unfold VarG at k1 k2
        have X0 := Lib.hid (cell_later HBr.out c0)
        have Y0 := Lib.hid (cell_later HBr.out d0)
        have X1 := Lib.hid k1
        have Y1 := Lib.hid k2
        clear c0 d0 k1 k2
        by_cases hst : s = t
        · rw [decide_eq_true hst] at CS
          have HST := Lib.hid hst
          clear hst
          go_wp2
          refine region_up (by kernel_rfl) (by kernel_rfl) ?_
          iterate 10
            go_big_quiet_want
            apply Exists.intro
            refine ⟨fun W hW => ?_, ?_⟩
            · have g0 := cell_later hW X0.out
              have g1 := cell_later hW X1.out
              have g2 := cell_later hW Y0.out
              have g3 := cell_later hW Y1.out
              go_simp
              all_goals exact rfl
            simp only [Act.put, List.setIfInBounds_toArray, List.set_cons_succ, List.set_cons_zero]
            go_big_quiet_on
          go_big_quiet_want
          apply Exists.intro
          refine ⟨fun W hW => ?_, ?_⟩
          · have g0 := cell_later hW X0.out
            have g1 := cell_later hW X1.out
            have g2 := cell_later hW Y0.out
            have g3 := cell_later hW Y1.out
            go_simp
            exact call_up hW (CS.out W (bthen HBr.out hW))
          simp only [Act.put, List.setIfInBounds_toArray, List.set_cons_succ, List.set_cons_zero]
          go_big_quiet_on
          go_big_quiet_want
          apply Exists.intro
          refine ⟨fun W hW => ?_, ?_⟩
          · have g0 := cell_later hW X0.out
            have g1 := cell_later hW X1.out
            have g2 := cell_later hW Y0.out
            have g3 := cell_later hW Y1.out
            go_simp
            all_goals exact rfl
          simp only [Act.put, List.setIfInBounds_toArray, List.set_cons_succ, List.set_cons_zero]
          go_big_quiet_on
          refine wpQuiet_nil ?_
          intro W hW
          have HBW := Lib.hid (bthen HBr.out hW)
          have HC1' := Lib.hid (HC1.out.below hW)
          have HC2' := Lib.hid (HC2.out.below hW)
          clear hW
          go_wp2
          go_roundw
          case rel => exact ⟨k + 1, by omega, by go_num, take_eq_succ HT.out HS.out HTT.out HST.out, HC1'.out, HC2'.out, HBW.out⟩
          case measure => simp [intOf]; omega
        · rw [decide_eq_false hst] at CS
          have HST := Lib.hid (ne_of_at HS.out HTT.out hst)
          clear hst
          go_wp2
          refine region_up (by kernel_rfl) (by kernel_rfl) ?_
          iterate 10
            go_big_quiet_want
            apply Exists.intro
            refine ⟨fun W hW => ?_, ?_⟩
            · have g0 := cell_later hW X0.out
              have g1 := cell_later hW X1.out
              have g2 := cell_later hW Y0.out
              have g3 := cell_later hW Y1.out
              go_simp
              all_goals exact rfl
            simp only [Act.put, List.setIfInBounds_toArray, List.set_cons_succ, List.set_cons_zero]
            go_big_quiet_on
          go_big_quiet_want
          apply Exists.intro
          refine ⟨fun W hW => ?_, ?_⟩
          · have g0 := cell_later hW X0.out
            have g1 := cell_later hW X1.out
            have g2 := cell_later hW Y0.out
            have g3 := cell_later hW Y1.out
            go_simp
            exact call_up hW (CS.out W (bthen HBr.out hW))
          simp only [Act.put, List.setIfInBounds_toArray, List.set_cons_succ, List.set_cons_zero]
          go_big_quiet_on
          go_big_quiet_want
          apply Exists.intro
          refine ⟨fun W hW => ?_, ?_⟩
          · have g0 := cell_later hW X0.out
            have g1 := cell_later hW X1.out
            have g2 := cell_later hW Y0.out
            have g3 := cell_later hW Y1.out
            go_simp
            all_goals exact rfl
          simp only [Act.put, List.setIfInBounds_toArray, List.set_cons_succ, List.set_cons_zero]
          go_big_quiet_on
          refine wpQuiet_nil ?_
          intro W hW
          have HBW := Lib.hid (bthen HBr.out hW)
          clear hW
          go_wp2
          go_ret
          rw [decide_eq_false HST.out]
          exact ⟨rfl, HBW.out⟩
      · obtain rfl : k = l.length := by omega
        have k1 := HC1.out
        have k2 := HC2.out
        unfold VarG at k1 k2
        go_wp2
        go_ret
        rw [decide_eq_true (show l = m from by have := HT.out; rwa [List.take_length, ← HM.out, List.take_length] at this)]
        exact ⟨rfl, HBr.out⟩
  · have E : Hid (decide (l = m) = false) := by show _ = _; exact decide_eq_false (fun e => h (by rw [e]))
    have e2 : (l.length != m.length) = true := by rw [bne_iff_ne]; omega
    have e3 : (((l.length : Nat) : Int) != ((m.length : Nat) : Int)) = true := by rw [bne_iff_ne]; omega
    have hb1 : Below w.heap.size w ((w.alloc (.cells #[.slice A l.length c] 24)).alloc (.cells #[.slice B m.length d] 24)) := balloc (balloc (Below.refl _ _) _) _
    have HB1 := Lib.hid hb1
    clear h hb1
    go_enter Try.func15, Try.ntmps15
    go_wp2
    go_ret
    rw [E.out]
    exact ⟨rfl, HB1.out⟩
end Go.Proofs.Ytinjeoohklabpaa
