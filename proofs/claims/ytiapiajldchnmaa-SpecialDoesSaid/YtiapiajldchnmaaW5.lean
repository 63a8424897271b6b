/- The walk of the reference's Check: it comes to the same. -/
import Derived.Test.YtiapiajldchnmaaW4
namespace Go.Proofs.Ytiapiajldchnmaa
open Go.RowKit
set_option linter.unusedVariables false
set_option linter.unusedSimpArgs false

def fin2 (s t : Sp) : Bool := (s.k == 1) && ((t.k == 1) && (s.a == t.a))
def badR (l : List Sp) (i : Nat) : Prop := ∃ s, l[i]? = some s ∧ (oneP s = false ∨ (∃ n r, i = n + 1 ∧ l[n]? = some r ∧ s.a < r.a) ∨ ∃ j r, j < i ∧ l[j]? = some r ∧ fin2 s r = true)
theorem cA_neg (s r : Sp) : (0 ≤ cA s r) ↔ r.a ≤ s.a := by
  unfold cA cmpI
  split
  · constructor <;> intro h <;> omega
  · split <;> constructor <;> intro h <;> omega
theorem sortB_cA {l : List Sp} : sortB l cA = true ↔ ∀ n r s, l[n]? = some r → l[n + 1]? = some s → r.a ≤ s.a := by
  unfold sortB
  rw [List.all_eq_true]
  constructor
  · intro h n r s hr hs
    have hlt : n + 1 < l.length := (List.getElem?_eq_some_iff.1 hs).1
    have := h n (List.mem_range.2 (by omega))
    unfold pairB at this
    rw [hr, hs] at this
    simp only [decide_eq_true_eq] at this
    exact (cA_neg s r).1 this
  · intro h n hn
    have hlt : n + 1 < l.length := by have := List.mem_range.1 hn; omega
    have hr := List.getElem?_eq_getElem (show n < l.length by omega)
    have hs := List.getElem?_eq_getElem hlt
    unfold pairB
    rw [hr, hs]
    simp only [decide_eq_true_eq]
    exact (cA_neg _ _).2 (h n _ _ hr hs)
theorem badR_two {l : List Sp} {i : Nat} (h : badR l i) : checkP l = 2 := by
  obtain ⟨s, hs, h1 | ⟨n, r, rfl, hr, h1⟩ | ⟨j, r, hj, hr, h1⟩⟩ := h
  · exact checkP_bad (k := i) (List.getElem?_eq_some_iff.1 hs).1 (by unfold badAt; rw [hs]; simp [h1])
  · apply checkP_unsorted
    cases h2 : sortB l cA with
    | false => rfl
    | true => have := sortB_cA.1 h2 n r s hr hs; omega
  · refine checkP_bad (k := i) (List.getElem?_eq_some_iff.1 hs).1 ?_
    unfold badAt
    rw [hs]
    simp only [fin2, Bool.and_eq_true, beq_iff_eq] at h1
    obtain ⟨h2, h3, h4⟩ := h1
    have : finalP (l.take i) s.a = true := by
      unfold finalP
      rw [List.any_eq_true]
      refine ⟨r, ?_, by simp [isP, h3, h4]⟩
      exact List.mem_of_getElem? (i := j) (by rw [List.getElem?_take, if_pos hj]; exact hr)
    simp [h2, this]
theorem badR_zero {l : List Sp} (h0 : ¬ 64 < l.length) (h : ∀ i, i < l.length → ¬ badR l i) : checkP l = 0 := by
  apply checkP_good h0
  · rw [sortB_cA]
    intro n r s hr hs
    have hlt : n + 1 < l.length := (List.getElem?_eq_some_iff.1 hs).1
    by_cases hh : r.a ≤ s.a
    · exact hh
    · exact absurd ⟨s, hs, .inr (.inl ⟨n, r, rfl, hr, by omega⟩)⟩ (h (n + 1) hlt)
  · intro j hj
    have hs := List.getElem?_eq_getElem hj
    unfold badAt
    rw [hs]
    simp only [Bool.or_eq_false_iff, Bool.not_eq_false', Bool.and_eq_false_iff]
    refine ⟨?_, ?_⟩
    · cases h1 : oneP l[j] with
      | true => rfl
      | false => exact absurd ⟨_, hs, .inl h1⟩ (h j hj)
    · cases h1 : l[j].k == 1 with
      | false => exact .inl rfl
      | true =>
        refine .inr ?_
        cases h2 : finalP (l.take j) l[j].a with
        | false => rfl
        | true =>
          unfold finalP at h2
          rw [List.any_eq_true] at h2
          obtain ⟨r, hr, hp⟩ := h2
          obtain ⟨i, hi, he⟩ := List.getElem_of_mem hr
          rw [List.length_take] at hi
          have hr' : l[i]? = some r := by rw [← he, List.getElem_take]; exact List.getElem?_eq_getElem (by omega)
          refine absurd ⟨_, hs, .inr (.inr ⟨i, r, by omega, hr', ?_⟩)⟩ (h j hj)
          simp only [isP, Bool.and_eq_true, beq_iff_eq] at hp
          simp only [fin2, h1, Bool.true_and, Bool.and_eq_true, beq_iff_eq]
          exact ⟨hp.2, hp.1.symm⟩

theorem fin_more {l : List Sp} {s q : Sp} {j : Nat} (h : ∀ m r, m < j → l[m]? = some r → fin2 s r = false) (hq : l[j]? = some q) (h1 : fin2 s q = false) :
    ∀ m r, m < j + 1 → l[m]? = some r → fin2 s r = false := by
  intro m r hm hr
  rcases Nat.lt_succ_iff_lt_or_eq.1 hm with h2 | rfl
  · exact h m r h2 hr
  · rw [hq] at hr
    cases hr
    exact h1

set_option maxHeartbeats 4000000 in
theorem check21 (l : List Sp) (A : Option Addr) (c : Nat) (w : World) (hr : RdS w A l) (hc : l.length ≤ c) : Calls Try.prog 21 #[.slice A l.length c] w (Ret (.int .i64 (checkP l)) w) := by
  have hl := hr.len
  have HR := Lib.hid hr
  clear hr
  by_cases h1 : 64 < l.length
  · have E := Lib.hid (checkP_long h1)
    go_enter Try.func21, Try.ntmps21
    go_wp2
    go_ret
    exact ⟨by rw [E.out]; rfl, Below.refl _ _⟩
  · go_enter Try.func21, Try.ntmps21
    go_wp2
    go_loopw [12] (fun i wr => ∃ k : Nat, k ≤ l.length ∧ i = .int .i64 k ∧ (∀ j, j < k → ¬ badR l j) ∧ Below w.heap.size w wr) (fun i _ => l.length - (intOf i).toNat)
    case atStart => exact ⟨0, Nat.zero_le _, rfl, fun j h => absurd h (by omega), Below.refl _ _⟩
    case round =>
      obtain ⟨k, hk, rfl, hno, hbr⟩ := hrel
      obtain ⟨wo, rfl⟩ : ∃ wo : World, wo = wr := ⟨_, rfl⟩
      by_cases hlt : k < l.length
      · have hs : l[k]? = some l[k] := List.getElem?_eq_getElem hlt
        obtain ⟨b, o, rfl, hB, c1, c2, c3⟩ := (HR.out.below hbr).at_ hs
        have C35 := Lib.hid (one35 l[k])
        generalize hsk : l[k] = s at *
        obtain ⟨a, kk, t⟩ := s
        unfold Sp.v at C35
        have F1 : Hid ((wo.alloc (Obj.cells #[.int .u64 a, .int .u8 kk, .int .u64 t] 41)).cell? ⟨wo.heap.size, 0, none⟩ = some (.int .u64 a)) := by show _ = _; go_simp
        have F2 : Hid ((wo.alloc (Obj.cells #[.int .u64 a, .int .u8 kk, .int .u64 t] 41)).cell? ⟨wo.heap.size, 1, none⟩ = some (.int .u8 kk)) := by show _ = _; go_simp
        have F3 : Hid ((wo.alloc (Obj.cells #[.int .u64 a, .int .u8 kk, .int .u64 t] 41)).cell? ⟨wo.heap.size, 2, none⟩ = some (.int .u64 t)) := by show _ = _; go_simp
        have hbs : Below w.heap.size w (wo.alloc (Obj.cells #[.int .u64 a, .int .u8 kk, .int .u64 t] 41)) := balloc hbr _
        have HS := Lib.hid hs
        have HN := Lib.hid hno
        clear hs hno hsk
        cases ho : oneP ⟨a, kk, t⟩ with
        | false =>
          have E := Lib.hid (badR_two (l := l) (i := k) ⟨_, HS.out, .inl ho⟩)
          rw [ho] at C35
          clear ho
          go_wp2
          generalize wo.alloc (Obj.cells #[.int .u64 a, .int .u8 kk, .int .u64 t] 41) = W0 at F1 F2 F3 hbs ⊢
          refine region_up (by kernel_rfl) (by kernel_rfl) ?_
          go_big_quiet_want
          apply Exists.intro
          refine ⟨fun W hW => ?_, ?_⟩
          · have g0 := cell_later hW F1.out
            have g1 := cell_later hW F2.out
            have g2 := cell_later hW F3.out
            go_simp
            exact rfl
          simp only [Act.put, List.setIfInBounds_toArray, List.set_cons_succ, List.set_cons_zero]
          go_big_quiet_on
          go_big_quiet_want
          apply Exists.intro
          refine ⟨fun W hW => ?_, ?_⟩
          · have g0 := cell_later hW F1.out
            have g1 := cell_later hW F2.out
            have g2 := cell_later hW F3.out
            go_simp
            exact call_up hW (C35.out W)
          simp only [Act.put, List.setIfInBounds_toArray, List.set_cons_succ, List.set_cons_zero]
          go_big_quiet_on
          go_big_quiet_want
          apply Exists.intro
          refine ⟨fun W hW => ?_, ?_⟩
          · have g0 := cell_later hW F1.out
            have g1 := cell_later hW F2.out
            have g2 := cell_later hW F3.out
            go_simp
            exact rfl
          simp only [Act.put, List.setIfInBounds_toArray, List.set_cons_succ, List.set_cons_zero]
          go_big_quiet_on
          go_big_quiet_want
          apply Exists.intro
          refine ⟨fun W hW => ?_, ?_⟩
          · have g0 := cell_later hW F1.out
            have g1 := cell_later hW F2.out
            have g2 := cell_later hW F3.out
            go_simp
            exact rfl
          simp only [Act.put, List.setIfInBounds_toArray, List.set_cons_succ, List.set_cons_zero]
          go_big_quiet_on
          go_big_quiet_skip
          go_big_quiet_skip
          go_big_quiet_skip
          go_big_quiet_skip
          go_big_quiet_skip
          go_big_quiet_skip
          go_big_quiet_skip
          go_big_quiet_skip
          go_big_quiet_skip
          go_big_quiet_skip
          go_big_quiet_skip
          go_big_quiet_skip
          go_big_quiet_skip
          go_big_quiet_want
          apply Exists.intro
          refine ⟨fun W hW => ?_, ?_⟩
          · have g0 := cell_later hW F1.out
            have g1 := cell_later hW F2.out
            have g2 := cell_later hW F3.out
            go_simp
            exact rfl
          simp only [Act.put, List.setIfInBounds_toArray, List.set_cons_succ, List.set_cons_zero]
          go_big_quiet_on
          refine wpQuiet_nil ?_
          intro W hW
          go_wp2
          go_ret
          exact ⟨by rw [E.out]; rfl, bthen hbs hW⟩
        | true =>
          have HO := Lib.hid ho
          rw [ho] at C35
          clear ho
          by_cases hkp : 0 < k
          · obtain ⟨n, HE⟩ : ∃ n : Nat, Hid (k = n + 1) := ⟨k - 1, by show _ = _; omega⟩
            have hn1 : n < l.length := by have := HE.out; omega
            obtain ⟨b', o', e', hB', d1, d2, d3⟩ := (HR.out.below hbr).at_ (List.getElem?_eq_getElem hn1)
            simp only [Option.some.injEq, Addr.mk.injEq, and_true] at e'
            obtain ⟨rfl, rfl⟩ := e'
            have D1 := Lib.hid (cell_later (balloc (Below.refl _ _) (Obj.cells #[.int .u64 a, .int .u8 kk, .int .u64 t] 41)) d1)
            have EB : Hid (a < l[n].a → checkP l = 2) := fun h => badR_two (l := l) (i := k) ⟨_, HS.out, .inr (.inl ⟨n, l[n], HE.out, List.getElem?_eq_getElem hn1, h⟩)⟩
            have EN : Hid (l[n].a ≤ a → ∀ n' r, k = n' + 1 → l[n']? = some r → r.a ≤ a) := by
              intro h n' r h1 h2
              have := HE.out
              obtain rfl : n' = n := by omega
              rw [List.getElem?_eq_getElem hn1] at h2
              cases h2
              exact h
            have hw1 : IntKind.i64.wrap ((k : Int) - 1) = (n : Int) := by rw [IntKind.wrap_i64]; have := HE.out; omega
            have hi2 : (n : Int) < (l.length : Int) := by omega
            clear d1 d2 d3
            go_wp2
            generalize wo.alloc (Obj.cells #[.int .u64 a, .int .u8 kk, .int .u64 t] 41) = W0 at F1 F2 F3 D1 hbs ⊢
            refine region_up (by kernel_rfl) (by kernel_rfl) ?_
            go_big_quiet_want
            apply Exists.intro
            refine ⟨fun W hW => ?_, ?_⟩
            · have g0 := cell_later hW F1.out
              have g1 := cell_later hW F2.out
              have g2 := cell_later hW F3.out
              have g3 := cell_later hW D1.out
              go_simp
              exact rfl
            simp only [Act.put, List.setIfInBounds_toArray, List.set_cons_succ, List.set_cons_zero]
            go_big_quiet_on
            go_big_quiet_want
            apply Exists.intro
            refine ⟨fun W hW => ?_, ?_⟩
            · have g0 := cell_later hW F1.out
              have g1 := cell_later hW F2.out
              have g2 := cell_later hW F3.out
              have g3 := cell_later hW D1.out
              go_simp
              exact call_up hW (C35.out W)
            simp only [Act.put, List.setIfInBounds_toArray, List.set_cons_succ, List.set_cons_zero]
            go_big_quiet_on
            go_big_quiet_want
            apply Exists.intro
            refine ⟨fun W hW => ?_, ?_⟩
            · have g0 := cell_later hW F1.out
              have g1 := cell_later hW F2.out
              have g2 := cell_later hW F3.out
              have g3 := cell_later hW D1.out
              go_simp
              exact rfl
            simp only [Act.put, List.setIfInBounds_toArray, List.set_cons_succ, List.set_cons_zero]
            go_big_quiet_on
            go_big_quiet_want
            apply Exists.intro
            refine ⟨fun W hW => ?_, ?_⟩
            · have g0 := cell_later hW F1.out
              have g1 := cell_later hW F2.out
              have g2 := cell_later hW F3.out
              have g3 := cell_later hW D1.out
              go_simp
              exact rfl
            simp only [Act.put, List.setIfInBounds_toArray, List.set_cons_succ, List.set_cons_zero]
            go_big_quiet_on
            go_big_quiet_want
            apply Exists.intro
            refine ⟨fun W hW => ?_, ?_⟩
            · have g0 := cell_later hW F1.out
              have g1 := cell_later hW F2.out
              have g2 := cell_later hW F3.out
              have g3 := cell_later hW D1.out
              go_simp
              exact rfl
            simp only [Act.put, List.setIfInBounds_toArray, List.set_cons_succ, List.set_cons_zero]
            go_big_quiet_on
            go_big_quiet_want
            apply Exists.intro
            refine ⟨fun W hW => ?_, ?_⟩
            · have g0 := cell_later hW F1.out
              have g1 := cell_later hW F2.out
              have g2 := cell_later hW F3.out
              have g3 := cell_later hW D1.out
              go_simp
              exact rfl
            simp only [Act.put, List.setIfInBounds_toArray, List.set_cons_succ, List.set_cons_zero]
            go_big_quiet_on
            go_big_quiet_want
            apply Exists.intro
            refine ⟨fun W hW => ?_, ?_⟩
            · have g0 := cell_later hW F1.out
              have g1 := cell_later hW F2.out
              have g2 := cell_later hW F3.out
              have g3 := cell_later hW D1.out
              go_simp
              exact rfl
            simp only [Act.put, List.setIfInBounds_toArray, List.set_cons_succ, List.set_cons_zero]
            go_big_quiet_on
            go_big_quiet_want
            apply Exists.intro
            refine ⟨fun W hW => ?_, ?_⟩
            · have g0 := cell_later hW F1.out
              have g1 := cell_later hW F2.out
              have g2 := cell_later hW F3.out
              have g3 := cell_later hW D1.out
              go_simp
              exact rfl
            simp only [Act.put, List.setIfInBounds_toArray, List.set_cons_succ, List.set_cons_zero]
            go_big_quiet_on
            go_big_quiet_want
            apply Exists.intro
            refine ⟨fun W hW => ?_, ?_⟩
            · have g0 := cell_later hW F1.out
              have g1 := cell_later hW F2.out
              have g2 := cell_later hW F3.out
              have g3 := cell_later hW D1.out
              go_simp
              exact rfl
            simp only [Act.put, List.setIfInBounds_toArray, List.set_cons_succ, List.set_cons_zero]
            go_big_quiet_on
            go_big_quiet_want
            apply Exists.intro
            refine ⟨fun W hW => ?_, ?_⟩
            · have g0 := cell_later hW F1.out
              have g1 := cell_later hW F2.out
              have g2 := cell_later hW F3.out
              have g3 := cell_later hW D1.out
              go_simp
              exact rfl
            simp only [Act.put, List.setIfInBounds_toArray, List.set_cons_succ, List.set_cons_zero]
            go_big_quiet_on
            go_big_quiet_want
            apply Exists.intro
            refine ⟨fun W hW => ?_, ?_⟩
            · have g0 := cell_later hW F1.out
              have g1 := cell_later hW F2.out
              have g2 := cell_later hW F3.out
              have g3 := cell_later hW D1.out
              go_simp
              exact rfl
            simp only [Act.put, List.setIfInBounds_toArray, List.set_cons_succ, List.set_cons_zero]
            go_big_quiet_on
            go_big_quiet_want
            apply Exists.intro
            refine ⟨fun W hW => ?_, ?_⟩
            · have g0 := cell_later hW F1.out
              have g1 := cell_later hW F2.out
              have g2 := cell_later hW F3.out
              have g3 := cell_later hW D1.out
              go_simp
              exact rfl
            simp only [Act.put, List.setIfInBounds_toArray, List.set_cons_succ, List.set_cons_zero]
            go_big_quiet_on
            go_big_quiet_want
            apply Exists.intro
            refine ⟨fun W hW => ?_, ?_⟩
            · have g0 := cell_later hW F1.out
              have g1 := cell_later hW F2.out
              have g2 := cell_later hW F3.out
              have g3 := cell_later hW D1.out
              go_simp
              exact rfl
            simp only [Act.put, List.setIfInBounds_toArray, List.set_cons_succ, List.set_cons_zero]
            go_big_quiet_on
            go_big_quiet_want
            apply Exists.intro
            refine ⟨fun W hW => ?_, ?_⟩
            · have g0 := cell_later hW F1.out
              have g1 := cell_later hW F2.out
              have g2 := cell_later hW F3.out
              have g3 := cell_later hW D1.out
              go_simp
              exact rfl
            simp only [Act.put, List.setIfInBounds_toArray, List.set_cons_succ, List.set_cons_zero]
            go_big_quiet_on
            go_big_quiet_want
            apply Exists.intro
            refine ⟨fun W hW => ?_, ?_⟩
            · have g0 := cell_later hW F1.out
              have g1 := cell_later hW F2.out
              have g2 := cell_later hW F3.out
              have g3 := cell_later hW D1.out
              go_simp
              exact rfl
            simp only [Act.put, List.setIfInBounds_toArray, List.set_cons_succ, List.set_cons_zero]
            go_big_quiet_on
            go_big_quiet_want
            apply Exists.intro
            refine ⟨fun W hW => ?_, ?_⟩
            · have g0 := cell_later hW F1.out
              have g1 := cell_later hW F2.out
              have g2 := cell_later hW F3.out
              have g3 := cell_later hW D1.out
              go_simp
              exact rfl
            simp only [Act.put, List.setIfInBounds_toArray, List.set_cons_succ, List.set_cons_zero]
            go_big_quiet_on
            go_big_quiet_want
            apply Exists.intro
            refine ⟨fun W hW => ?_, ?_⟩
            · have g0 := cell_later hW F1.out
              have g1 := cell_later hW F2.out
              have g2 := cell_later hW F3.out
              have g3 := cell_later hW D1.out
              go_simp
              exact rfl
            simp only [Act.put, List.setIfInBounds_toArray, List.set_cons_succ, List.set_cons_zero]
            go_big_quiet_on
            go_big_quiet_want
            apply Exists.intro
            refine ⟨fun W hW => ?_, ?_⟩
            · have g0 := cell_later hW F1.out
              have g1 := cell_later hW F2.out
              have g2 := cell_later hW F3.out
              have g3 := cell_later hW D1.out
              go_simp
              exact rfl
            simp only [Act.put, List.setIfInBounds_toArray, List.set_cons_succ, List.set_cons_zero]
            go_big_quiet_on
            refine wpQuiet_nil ?_
            intro W hW
            clear hw1 hi2
            go_wp2
            · have hh : a < l[n].a := by assumption
              have E := Lib.hid (EB.out hh)
              go_ret
              exact ⟨by rw [E.out]; rfl, bthen hbs hW⟩
            · have hh : l[n].a ≤ a := by assumption
              have EN' := Lib.hid (EN.out hh)
              clear EN EB
              have G1 := Lib.hid (cell_later hW F1.out)
              have G2 := Lib.hid (cell_later hW F2.out)
              have hbW := bthen hbs hW
              clear hbs hW F1 F2 F3
              go_loopw [39] (fun i wi => ∃ j : Nat, j ≤ k ∧ i = .int .i64 j ∧ (∀ m r, m < j → l[m]? = some r → fin2 ⟨a, kk, t⟩ r = false) ∧ Below W.heap.size W wi) (fun i _ => k - (intOf i).toNat)
              case atStart => exact ⟨0, Nat.zero_le _, rfl, fun m r h => absurd h (by omega), Below.refl _ _⟩
              case round =>
                obtain ⟨j, hj, rfl, hnj, hbi⟩ := hrel
                have HJ := Lib.hid hnj
                clear hnj
                by_cases hjk : j < k
                · have hjl : j < l.length := by omega
                  have hr : l[j]? = some l[j] := List.getElem?_eq_getElem hjl
                  obtain ⟨b', o', e', _, d1, d2, d3⟩ := (HR.out.below (bthen hbW hbi)).at_ hr
                  simp only [Option.some.injEq, Addr.mk.injEq, and_true] at e'
                  obtain ⟨rfl, rfl⟩ := e'
                  have g1 := cell_later hbi G1.out
                  have g2 := cell_later hbi G2.out
                  have hlo : wo.heap.size < wr.heap.size := World.block_lt_of_cell? _ _ g1
                  have YES : Hid (fin2 ⟨a, kk, t⟩ l[j] = true → checkP l = 2) := fun h => badR_two (l := l) (i := k) ⟨_, HS.out, .inr (.inr ⟨j, l[j], hjk, hr, h⟩)⟩
                  have NO : Hid (fin2 ⟨a, kk, t⟩ l[j] = false → ∀ m r, m < j + 1 → l[m]? = some r → fin2 ⟨a, kk, t⟩ r = false) := fun h => fin_more HJ.out hr h
                  generalize l[j] = q at *
                  obtain ⟨a2, k2, t2⟩ := q
                  clear hr
                  cases b1 : kk == 1 with
                  | false =>
                    have E := Lib.hid (NO.out (by simp [fin2, b1]))
                    go_wp2
                    go_roundw
                    case rel => exact ⟨j + 1, by omega, by go_num, E.out, balloc hbi _⟩
                    case measure => simp [intOf]; omega
                  | true =>
                    cases b2 : k2 == 1 with
                    | false =>
                      have E := Lib.hid (NO.out (by simp [fin2, b2]))
                      go_wp2
                      go_roundw
                      case rel => exact ⟨j + 1, by omega, by go_num, E.out, balloc hbi _⟩
                      case measure => simp [intOf]; omega
                    | true =>
                      cases b3 : a == a2 with
                      | false =>
                        have E := Lib.hid (NO.out (by simp only [fin2, b3, Bool.and_false]))
                        go_wp2
                        go_roundw
                        case rel => exact ⟨j + 1, by omega, by go_num, E.out, balloc hbi _⟩
                        case measure => simp [intOf]; omega
                      | true =>
                        have E := Lib.hid (YES.out (by simp only [fin2, b1, b2, b3, Bool.and_true]))
                        go_wp2
                        go_ret
                        exact ⟨by rw [E.out]; rfl, bthen hbW (balloc hbi _)⟩
                · obtain rfl : j = k := by omega
                  have E : Hid (¬ badR l j) := by
                    rintro ⟨s, hs, h1 | ⟨n', r, e, hr, h1⟩ | ⟨m, r, hm, hr, h1⟩⟩
                    · rw [HS.out] at hs
                      cases hs
                      rw [HO.out] at h1
                      cases h1
                    · rw [HS.out] at hs
                      cases hs
                      have := EN'.out n' r e hr
                      have h1' : a < r.a := h1
                      omega
                    · rw [HS.out] at hs
                      cases hs
                      rw [HJ.out m r hm hr] at h1
                      cases h1
                  clear G1 G2
                  go_wp2
                  go_roundw
                  case rel => exact ⟨j + 1, by omega, by go_num, fun i hi => by { rcases Nat.lt_succ_iff_lt_or_eq.1 hi with h | rfl; exact HN.out i h; exact E.out }, bthen hbW hbi⟩
                  case measure => simp [intOf]; omega
          · have EN' : Hid (∀ n' r, k = n' + 1 → l[n']? = some r → r.a ≤ a) := fun n' r h1 => by omega
            go_wp2
            generalize wo.alloc (Obj.cells #[.int .u64 a, .int .u8 kk, .int .u64 t] 41) = W0 at F1 F2 F3 hbs ⊢
            refine region_up (by kernel_rfl) (by kernel_rfl) ?_
            go_big_quiet_want
            apply Exists.intro
            refine ⟨fun W hW => ?_, ?_⟩
            · have g0 := cell_later hW F1.out
              have g1 := cell_later hW F2.out
              have g2 := cell_later hW F3.out
              go_simp
              exact rfl
            simp only [Act.put, List.setIfInBounds_toArray, List.set_cons_succ, List.set_cons_zero]
            go_big_quiet_on
            go_big_quiet_want
            apply Exists.intro
            refine ⟨fun W hW => ?_, ?_⟩
            · have g0 := cell_later hW F1.out
              have g1 := cell_later hW F2.out
              have g2 := cell_later hW F3.out
              go_simp
              exact call_up hW (C35.out W)
            simp only [Act.put, List.setIfInBounds_toArray, List.set_cons_succ, List.set_cons_zero]
            go_big_quiet_on
            go_big_quiet_want
            apply Exists.intro
            refine ⟨fun W hW => ?_, ?_⟩
            · have g0 := cell_later hW F1.out
              have g1 := cell_later hW F2.out
              have g2 := cell_later hW F3.out
              go_simp
              exact rfl
            simp only [Act.put, List.setIfInBounds_toArray, List.set_cons_succ, List.set_cons_zero]
            go_big_quiet_on
            go_big_quiet_want
            apply Exists.intro
            refine ⟨fun W hW => ?_, ?_⟩
            · have g0 := cell_later hW F1.out
              have g1 := cell_later hW F2.out
              have g2 := cell_later hW F3.out
              go_simp
              exact rfl
            simp only [Act.put, List.setIfInBounds_toArray, List.set_cons_succ, List.set_cons_zero]
            go_big_quiet_on
            go_big_quiet_want
            apply Exists.intro
            refine ⟨fun W hW => ?_, ?_⟩
            · have g0 := cell_later hW F1.out
              have g1 := cell_later hW F2.out
              have g2 := cell_later hW F3.out
              go_simp
              exact rfl
            simp only [Act.put, List.setIfInBounds_toArray, List.set_cons_succ, List.set_cons_zero]
            go_big_quiet_on
            go_big_quiet_want
            apply Exists.intro
            refine ⟨fun W hW => ?_, ?_⟩
            · have g0 := cell_later hW F1.out
              have g1 := cell_later hW F2.out
              have g2 := cell_later hW F3.out
              go_simp
              exact rfl
            simp only [Act.put, List.setIfInBounds_toArray, List.set_cons_succ, List.set_cons_zero]
            go_big_quiet_on
            go_big_quiet_want
            apply Exists.intro
            refine ⟨fun W hW => ?_, ?_⟩
            · have g0 := cell_later hW F1.out
              have g1 := cell_later hW F2.out
              have g2 := cell_later hW F3.out
              go_simp
              exact rfl
            simp only [Act.put, List.setIfInBounds_toArray, List.set_cons_succ, List.set_cons_zero]
            go_big_quiet_on
            go_big_quiet_skip
            go_big_quiet_skip
            go_big_quiet_skip
            go_big_quiet_skip
            go_big_quiet_skip
            go_big_quiet_skip
            go_big_quiet_skip
            go_big_quiet_skip
            go_big_quiet_skip
            go_big_quiet_want
            apply Exists.intro
            refine ⟨fun W hW => ?_, ?_⟩
            · have g0 := cell_later hW F1.out
              have g1 := cell_later hW F2.out
              have g2 := cell_later hW F3.out
              go_simp
              exact rfl
            simp only [Act.put, List.setIfInBounds_toArray, List.set_cons_succ, List.set_cons_zero]
            go_big_quiet_on
            go_big_quiet_want
            apply Exists.intro
            refine ⟨fun W hW => ?_, ?_⟩
            · have g0 := cell_later hW F1.out
              have g1 := cell_later hW F2.out
              have g2 := cell_later hW F3.out
              go_simp
              exact rfl
            simp only [Act.put, List.setIfInBounds_toArray, List.set_cons_succ, List.set_cons_zero]
            go_big_quiet_on
            refine wpQuiet_nil ?_
            intro W hW
            clear hkp
            go_wp2
            have G1 := Lib.hid (cell_later hW F1.out)
            have G2 := Lib.hid (cell_later hW F2.out)
            have hbW := bthen hbs hW
            clear hbs hW F1 F2 F3
            go_loopw [39] (fun i wi => ∃ j : Nat, j ≤ k ∧ i = .int .i64 j ∧ (∀ m r, m < j → l[m]? = some r → fin2 ⟨a, kk, t⟩ r = false) ∧ Below W.heap.size W wi) (fun i _ => k - (intOf i).toNat)
            case atStart => exact ⟨0, Nat.zero_le _, rfl, fun m r h => absurd h (by omega), Below.refl _ _⟩
            case round =>
              obtain ⟨j, hj, rfl, hnj, hbi⟩ := hrel
              have HJ := Lib.hid hnj
              clear hnj
              by_cases hjk : j < k
              · have hjl : j < l.length := by omega
                have hr : l[j]? = some l[j] := List.getElem?_eq_getElem hjl
                obtain ⟨b', o', e', _, d1, d2, d3⟩ := (HR.out.below (bthen hbW hbi)).at_ hr
                simp only [Option.some.injEq, Addr.mk.injEq, and_true] at e'
                obtain ⟨rfl, rfl⟩ := e'
                have g1 := cell_later hbi G1.out
                have g2 := cell_later hbi G2.out
                have hlo : wo.heap.size < wr.heap.size := World.block_lt_of_cell? _ _ g1
                have YES : Hid (fin2 ⟨a, kk, t⟩ l[j] = true → checkP l = 2) := fun h => badR_two (l := l) (i := k) ⟨_, HS.out, .inr (.inr ⟨j, l[j], hjk, hr, h⟩)⟩
                have NO : Hid (fin2 ⟨a, kk, t⟩ l[j] = false → ∀ m r, m < j + 1 → l[m]? = some r → fin2 ⟨a, kk, t⟩ r = false) := fun h => fin_more HJ.out hr h
                generalize l[j] = q at *
                obtain ⟨a2, k2, t2⟩ := q
                clear hr
                cases b1 : kk == 1 with
                | false =>
                  have E := Lib.hid (NO.out (by simp [fin2, b1]))
                  go_wp2
                  go_roundw
                  case rel => exact ⟨j + 1, by omega, by go_num, E.out, balloc hbi _⟩
                  case measure => simp [intOf]; omega
                | true =>
                  cases b2 : k2 == 1 with
                  | false =>
                    have E := Lib.hid (NO.out (by simp [fin2, b2]))
                    go_wp2
                    go_roundw
                    case rel => exact ⟨j + 1, by omega, by go_num, E.out, balloc hbi _⟩
                    case measure => simp [intOf]; omega
                  | true =>
                    cases b3 : a == a2 with
                    | false =>
                      have E := Lib.hid (NO.out (by simp only [fin2, b3, Bool.and_false]))
                      go_wp2
                      go_roundw
                      case rel => exact ⟨j + 1, by omega, by go_num, E.out, balloc hbi _⟩
                      case measure => simp [intOf]; omega
                    | true =>
                      have E := Lib.hid (YES.out (by simp only [fin2, b1, b2, b3, Bool.and_true]))
                      go_wp2
                      go_ret
                      exact ⟨by rw [E.out]; rfl, bthen hbW (balloc hbi _)⟩
              · obtain rfl : j = k := by omega
                have E : Hid (¬ badR l j) := by
                  rintro ⟨s, hs, h1 | ⟨n', r, e, hr, h1⟩ | ⟨m, r, hm, hr, h1⟩⟩
                  · rw [HS.out] at hs
                    cases hs
                    rw [HO.out] at h1
                    cases h1
                  · rw [HS.out] at hs
                    cases hs
                    have := EN'.out n' r e hr
                    have h1' : a < r.a := h1
                    omega
                  · rw [HS.out] at hs
                    cases hs
                    rw [HJ.out m r hm hr] at h1
                    cases h1
                clear G1 G2
                go_wp2
                go_roundw
                case rel => exact ⟨j + 1, by omega, by go_num, fun i hi => by { rcases Nat.lt_succ_iff_lt_or_eq.1 hi with h | rfl; exact HN.out i h; exact E.out }, bthen hbW hbi⟩
                case measure => simp [intOf]; omega
      · have E := Lib.hid (badR_zero h1 (fun j hj => hno j (by omega)))
        clear hno
        go_wp2
        go_ret
        exact ⟨by rw [E.out]; rfl, hbr⟩
end Go.Proofs.Ytiapiajldchnmaa
