/- The walks of what asks whether specials are in order, and right. -/
import Derived.Test.YtiapiajldchnmaaW3
namespace Go.Proofs.Ytiapiajldchnmaa
open Go.RowKit
set_option linter.unusedVariables false
set_option linter.unusedSimpArgs false

def pairB (l : List Sp) (q : Sp → Sp → Int) (i : Nat) : Bool := match l[i]?, l[i+1]? with | some s, some r => decide (0 ≤ q r s) | _, _ => true
def sortB (l : List Sp) (q : Sp → Sp → Int) : Bool := (List.range (l.length - 1)).all (pairB l q)
theorem pairB_at {l : List Sp} {q : Sp → Sp → Int} {i : Nat} (h : i + 1 < l.length) : pairB l q i = decide (0 ≤ q l[i+1] l[i]) := by
  unfold pairB
  rw [List.getElem?_eq_getElem (show i < l.length by omega), List.getElem?_eq_getElem h]
theorem sortB_no {l : List Sp} {q : Sp → Sp → Int} {i : Nat} (h : i + 1 < l.length) (hq : decide (q l[i+1] l[i] < 0) = true) : sortB l q = false := by
  unfold sortB
  rw [List.all_eq_false]
  refine ⟨i, List.mem_range.2 (by omega), ?_⟩
  rw [pairB_at h]
  simp only [decide_eq_true_eq] at hq ⊢
  omega
theorem sortB_yes {l : List Sp} {q : Sp → Sp → Int} (h : ∀ i, i + 1 < l.length → pairB l q i = true) : sortB l q = true := by
  unfold sortB
  rw [List.all_eq_true]
  intro i hi
  exact h i (by have := List.mem_range.1 hi; omega)

theorem sorted_any (l : List Sp) (A : Option Addr) (c : Nat) (g : Nat) (q : Sp → Sp → Int) (w : World) (hr : RdS w A l) (hg : Enters g)
    (hf : ∀ s r w', Below w.heap.size w w' → Calls Try.prog g #[s.v, r.v] w' (Ret (.int .i64 (q s r)) w')) :
    Calls Try.prog 30 #[.slice A l.length c, .func (.func g) #[] #[]] w (Ret (.bool (sortB l q)) w) := by
  have hl := hr.len
  unfold Enters at hg
  have hm1 : IntKind.i64.wrap ((l.length : Int) - 1) = (l.length : Int) - 1 := by rw [IntKind.wrap_i64]; omega
  have HM := Lib.hid hm1
  clear hm1
  go_enter Try.func30, Try.ntmps30
  go_wp2
  go_loopw [5] (fun i wr => ∃ k : Int, -1 ≤ k ∧ k < l.length ∧ i = .int .i64 k ∧ (∀ j : Nat, k ≤ j → j + 1 < l.length → pairB l q j = true) ∧ Below w.heap.size w wr) (fun i _ => (intOf i).toNat)
  case atStart => exact ⟨(l.length : Int) - 1, by omega, by omega, rfl, fun j h h' => by omega, Below.refl _ _⟩
  case round =>
    obtain ⟨k, hk, hk2, rfl, hno, hb⟩ := hrel
    have HR := Lib.hid hr
    clear hr
    by_cases hlt : 0 < k
    · obtain ⟨n, m, rfl, HE, hm0⟩ : ∃ n m : Nat, k = (m : Int) ∧ Hid (m = n + 1) ∧ 0 < m := ⟨(k - 1).toNat, k.toNat, by omega, by show _ = _; omega, by omega⟩
      have hn : m < l.length := by omega
      have hn1 : n < l.length := by have := HE.out; omega
      obtain ⟨b, o, rfl, hB, c1, c2, c3⟩ := (HR.out.below hb).at_ (List.getElem?_eq_getElem hn)
      obtain ⟨b', o', e', hB', d1, d2, d3⟩ := (HR.out.below hb).at_ (List.getElem?_eq_getElem hn1)
      simp only [Option.some.injEq, Addr.mk.injEq, and_true] at e'
      obtain ⟨rfl, rfl⟩ := e'
      have HC := Lib.hid (hf l[m] l[n] wr.drew hb.drew)
      clear hf
      have HQ : Hid (∀ hh : n + 1 < l.length, l[n+1]'hh = l[m]) := by intro hh; have := HE.out; subst this; rfl
      have hw1 : IntKind.i64.wrap ((m : Int) - 1) = (n : Int) := by rw [IntKind.wrap_i64]; have := HE.out; omega
      have hi0 : (0 : Int) ≤ (m : Int) := by omega
      have hi1 : (m : Int) < (l.length : Int) := by omega
      have hi2 : (n : Int) < (l.length : Int) := by omega
      have HN : Hid (q l[m] l[n] < 0 → sortB l q = false) := fun hp => sortB_no (l := l) (q := q) (i := n) (by have := HE.out; omega) (by rw [HQ.out]; simpa using hp)
      have HY : Hid (0 ≤ q l[m] l[n] → ∀ j : Nat, (n : Int) ≤ j → j + 1 < l.length → pairB l q j = true) := by
        intro hp j h1 h2
        by_cases h3 : j = n
        · subst h3
          rw [pairB_at h2, HQ.out h2]
          simpa using hp
        · exact hno j (by have := HE.out; omega) h2
      clear hno
      go_wp2
      go_still_tail 10, (by kernel_rfl)
      go_wp2_with (refine HC.out.mono ?_; rintro e w' ⟨rfl, hb'⟩)
      · have hq : q l[m] l[n] < 0 := by assumption
        go_ret
        exact ⟨by rw [HN.out hq]; rfl, bthen hb.drew hb'⟩
      · have hq : 0 ≤ q l[m] l[n] := by assumption
        go_roundw
        case rel => exact ⟨n, by omega, by have := HE.out; omega, by go_num, HY.out hq, bthen hb.drew hb'⟩
        case measure => simp [intOf]; have := HE.out; omega
    · have HN := Lib.hid (sortB_yes (l := l) (q := q) (fun j hj => hno j (by omega) hj))
      clear hno hf
      go_wp2
      go_ret
      exact ⟨by rw [HN.out]; rfl, hb⟩

def cA (s r : Sp) : Int := cmpI s.a r.a
def badAt (l : List Sp) (i : Nat) : Bool := match l[i]? with | some s => !oneP s || (s.k == 1 && finalP (l.take i) s.a) | none => false
def goodP (l : List Sp) : Bool := decide (l.length ≤ 64) && (sortB l cA && !((List.range l.length).any (badAt l)))
def checkP (l : List Sp) : Int := if goodP l then 0 else 2
theorem checkP_long {l : List Sp} (h : 64 < l.length) : checkP l = 2 := by
  have : goodP l = false := by unfold goodP; simp; omega
  simp [checkP, this]
theorem checkP_unsorted {l : List Sp} (h : sortB l cA = false) : checkP l = 2 := by
  have : goodP l = false := by unfold goodP; simp [h]
  simp [checkP, this]
theorem checkP_bad {l : List Sp} {k : Nat} (hk : k < l.length) (h : badAt l k = true) : checkP l = 2 := by
  have : goodP l = false := by
    unfold goodP
    have h1 : (List.range l.length).any (badAt l) = true := List.any_eq_true.2 ⟨k, List.mem_range.2 hk, h⟩
    simp [h1]
  simp [checkP, this]
theorem checkP_good {l : List Sp} (h1 : ¬ 64 < l.length) (h2 : sortB l cA = true) (h3 : ∀ j, j < l.length → badAt l j = false) : checkP l = 0 := by
  have : goodP l = true := by
    unfold goodP
    have h4 : (List.range l.length).any (badAt l) = false := by
      rw [List.any_eq_false]
      intro x hx
      simp [h3 x (List.mem_range.1 hx)]
    simp [h4, h2]
    omega
  simp [checkP, this]

set_option maxHeartbeats 2000000 in
theorem check20 (l : List Sp) (A : Option Addr) (c : Nat) (w : World) (hr : RdS w A l) (hc : l.length ≤ c) : Calls Try.prog 20 #[.slice A l.length c] w (Ret (.int .i64 (checkP l)) w) := by
  have hl := hr.len
  have C30 := Lib.hid (sorted_any l A c 31 cA w hr Try.call31 (fun s r w' _ => clo31 s r w'))
  have HR := Lib.hid hr
  clear hr
  by_cases h1 : 64 < l.length
  · have E := Lib.hid (checkP_long h1)
    go_enter Try.func20, Try.ntmps20
    go_wp2_with (go_at_call 30; refine C30.out.mono ?_; rintro e w' ⟨rfl, hb⟩)
    go_ret
    exact ⟨by rw [E.out]; rfl, hb⟩
  · cases h2 : sortB l cA with
    | false =>
      have E := Lib.hid (checkP_unsorted h2)
      have H2 := Lib.hid h2
      clear h2
      go_enter Try.func20, Try.ntmps20
      go_wp2_with (go_at_call 30; refine C30.out.mono ?_; rintro e w' ⟨rfl, hb⟩; rw [H2.out])
      go_ret
      exact ⟨by rw [E.out]; rfl, hb⟩
    | true =>
      have H2 := Lib.hid h2
      clear h2
      go_enter Try.func20, Try.ntmps20
      go_wp2_with (go_at_call 30; refine C30.out.mono ?_; rintro e w' ⟨rfl, hb⟩; rw [H2.out])
      go_loopw [17] (fun i wr => ∃ k : Nat, k ≤ l.length ∧ i = .int .i64 k ∧ (∀ j, j < k → badAt l j = false) ∧ Below w.heap.size w wr) (fun i _ => l.length - (intOf i).toNat)
      case atStart => exact ⟨0, Nat.zero_le _, rfl, fun j h => absurd h (by omega), by assumption⟩
      case round =>
        obtain ⟨k, hk, rfl, hno, hbr⟩ := hrel
        by_cases hlt : k < l.length
        · have hs : l[k]? = some l[k] := List.getElem?_eq_getElem hlt
          obtain ⟨b, o, rfl, hB, c1, c2, c3⟩ := (HR.out.below hbr).at_ hs
          have C33 := Lib.hid (one33 l[k])
          generalize hsk : l[k] = s at *
          obtain ⟨a, kk, t⟩ := s
          unfold Sp.v at C33
          have f1 : (wr.alloc (Obj.cells #[.int .u64 a, .int .u8 kk, .int .u64 t] 41)).cell? ⟨wr.heap.size, 0, none⟩ = some (.int .u64 a) := by go_simp
          have f2 : (wr.alloc (Obj.cells #[.int .u64 a, .int .u8 kk, .int .u64 t] 41)).cell? ⟨wr.heap.size, 1, none⟩ = some (.int .u8 kk) := by go_simp
          have f3 : (wr.alloc (Obj.cells #[.int .u64 a, .int .u8 kk, .int .u64 t] 41)).cell? ⟨wr.heap.size, 2, none⟩ = some (.int .u64 t) := by go_simp
          have F1 := Lib.hid f1
          have F2 := Lib.hid f2
          have F3 := Lib.hid f3
          clear f1 f2 f3
          have hbs : Below w.heap.size w (wr.alloc (Obj.cells #[.int .u64 a, .int .u8 kk, .int .u64 t] 41)) := balloc hbr _
          cases ho : oneP ⟨a, kk, t⟩ with
          | false =>
            have HO := Lib.hid ho
            have E := Lib.hid (checkP_bad hlt (show badAt l k = true by unfold badAt; rw [hs]; simp [ho]))
            rw [ho] at C33
            clear ho hno hs hsk
            go_wp2
            generalize wr.alloc (Obj.cells #[.int .u64 a, .int .u8 kk, .int .u64 t] 41) = W0 at F1 F2 F3 hbs ⊢
            refine region_up (by kernel_rfl) (by kernel_rfl) ?_
            go_big_quiet_want
            apply Exists.intro
            refine ⟨fun W hW => ?_, ?_⟩
            · have g0 := cell_later hW F1.out
              have g1 := cell_later hW F2.out
              have g2 := cell_later hW F3.out
              go_simp
              exact rfl
            simp only [Act.put, List.setIfInBounds_toArray, List.set_cons_succ, List.set_cons_zero]
            go_big_quiet_on
            go_big_quiet_want
            apply Exists.intro
            refine ⟨fun W hW => ?_, ?_⟩
            · have g0 := cell_later hW F1.out
              have g1 := cell_later hW F2.out
              have g2 := cell_later hW F3.out
              go_simp
              exact call_up hW (C33.out W)
            simp only [Act.put, List.setIfInBounds_toArray, List.set_cons_succ, List.set_cons_zero]
            go_big_quiet_on
            go_big_quiet_want
            apply Exists.intro
            refine ⟨fun W hW => ?_, ?_⟩
            · have g0 := cell_later hW F1.out
              have g1 := cell_later hW F2.out
              have g2 := cell_later hW F3.out
              go_simp
              exact rfl
            simp only [Act.put, List.setIfInBounds_toArray, List.set_cons_succ, List.set_cons_zero]
            go_big_quiet_on
            go_big_quiet_want
            apply Exists.intro
            refine ⟨fun W hW => ?_, ?_⟩
            · have g0 := cell_later hW F1.out
              have g1 := cell_later hW F2.out
              have g2 := cell_later hW F3.out
              go_simp
              exact rfl
            simp only [Act.put, List.setIfInBounds_toArray, List.set_cons_succ, List.set_cons_zero]
            go_big_quiet_on
            go_big_quiet_skip
            go_big_quiet_skip
            go_big_quiet_skip
            go_big_quiet_skip
            go_big_quiet_skip
            go_big_quiet_skip
            go_big_quiet_skip
            go_big_quiet_skip
            go_big_quiet_skip
            go_big_quiet_skip
            go_big_quiet_skip
            go_big_quiet_want
            apply Exists.intro
            refine ⟨fun W hW => ?_, ?_⟩
            · have g0 := cell_later hW F1.out
              have g1 := cell_later hW F2.out
              have g2 := cell_later hW F3.out
              go_simp
              exact rfl
            simp only [Act.put, List.setIfInBounds_toArray, List.set_cons_succ, List.set_cons_zero]
            go_big_quiet_on
            refine wpQuiet_nil ?_
            intro W hW
            go_wp2
            go_ret
            exact ⟨by rw [E.out]; rfl, bthen hbs hW⟩
          | true =>
            have HO := Lib.hid ho
            rw [ho] at C33
            cases hk1 : kk == 1 with
            | false =>
              have E := Lib.hid (show badAt l k = false by unfold badAt; rw [hs]; simp [ho, hk1])
              clear ho hs hsk
              go_wp2
              generalize wr.alloc (Obj.cells #[.int .u64 a, .int .u8 kk, .int .u64 t] 41) = W0 at F1 F2 F3 hbs ⊢
              refine region_up (by kernel_rfl) (by kernel_rfl) ?_
              go_big_quiet_want
              apply Exists.intro
              refine ⟨fun W hW => ?_, ?_⟩
              · have g0 := cell_later hW F1.out
                have g1 := cell_later hW F2.out
                have g2 := cell_later hW F3.out
                go_simp
                exact rfl
              simp only [Act.put, List.setIfInBounds_toArray, List.set_cons_succ, List.set_cons_zero]
              go_big_quiet_on
              go_big_quiet_want
              apply Exists.intro
              refine ⟨fun W hW => ?_, ?_⟩
              · have g0 := cell_later hW F1.out
                have g1 := cell_later hW F2.out
                have g2 := cell_later hW F3.out
                go_simp
                exact call_up hW (C33.out W)
              simp only [Act.put, List.setIfInBounds_toArray, List.set_cons_succ, List.set_cons_zero]
              go_big_quiet_on
              go_big_quiet_want
              apply Exists.intro
              refine ⟨fun W hW => ?_, ?_⟩
              · have g0 := cell_later hW F1.out
                have g1 := cell_later hW F2.out
                have g2 := cell_later hW F3.out
                go_simp
                exact rfl
              simp only [Act.put, List.setIfInBounds_toArray, List.set_cons_succ, List.set_cons_zero]
              go_big_quiet_on
              go_big_quiet_want
              apply Exists.intro
              refine ⟨fun W hW => ?_, ?_⟩
              · have g0 := cell_later hW F1.out
                have g1 := cell_later hW F2.out
                have g2 := cell_later hW F3.out
                go_simp
                exact rfl
              simp only [Act.put, List.setIfInBounds_toArray, List.set_cons_succ, List.set_cons_zero]
              go_big_quiet_on
              go_big_quiet_want
              apply Exists.intro
              refine ⟨fun W hW => ?_, ?_⟩
              · have g0 := cell_later hW F1.out
                have g1 := cell_later hW F2.out
                have g2 := cell_later hW F3.out
                go_simp
                exact rfl
              simp only [Act.put, List.setIfInBounds_toArray, List.set_cons_succ, List.set_cons_zero]
              go_big_quiet_on
              go_big_quiet_want
              apply Exists.intro
              refine ⟨fun W hW => ?_, ?_⟩
              · have g0 := cell_later hW F1.out
                have g1 := cell_later hW F2.out
                have g2 := cell_later hW F3.out
                go_simp
                exact rfl
              simp only [Act.put, List.setIfInBounds_toArray, List.set_cons_succ, List.set_cons_zero]
              go_big_quiet_on
              go_big_quiet_want
              apply Exists.intro
              refine ⟨fun W hW => ?_, ?_⟩
              · have g0 := cell_later hW F1.out
                have g1 := cell_later hW F2.out
                have g2 := cell_later hW F3.out
                go_simp
                exact rfl
              simp only [Act.put, List.setIfInBounds_toArray, List.set_cons_succ, List.set_cons_zero]
              go_big_quiet_on
              go_big_quiet_want
              apply Exists.intro
              refine ⟨fun W hW => ?_, ?_⟩
              · have g0 := cell_later hW F1.out
                have g1 := cell_later hW F2.out
                have g2 := cell_later hW F3.out
                go_simp
                exact rfl
              simp only [Act.put, List.setIfInBounds_toArray, List.set_cons_succ, List.set_cons_zero]
              go_big_quiet_on
              go_big_quiet_skip
              go_big_quiet_skip
              go_big_quiet_skip
              go_big_quiet_skip
              go_big_quiet_skip
              go_big_quiet_skip
              go_big_quiet_want
              apply Exists.intro
              refine ⟨fun W hW => ?_, ?_⟩
              · have g0 := cell_later hW F1.out
                have g1 := cell_later hW F2.out
                have g2 := cell_later hW F3.out
                go_simp
                exact rfl
              simp only [Act.put, List.setIfInBounds_toArray, List.set_cons_succ, List.set_cons_zero]
              go_big_quiet_on
              go_big_quiet_want
              apply Exists.intro
              refine ⟨fun W hW => ?_, ?_⟩
              · have g0 := cell_later hW F1.out
                have g1 := cell_later hW F2.out
                have g2 := cell_later hW F3.out
                go_simp
                exact rfl
              simp only [Act.put, List.setIfInBounds_toArray, List.set_cons_succ, List.set_cons_zero]
              go_big_quiet_on
              refine wpQuiet_nil ?_
              intro W hW
              go_wp2
              go_roundw
              case rel => exact ⟨k + 1, by omega, by go_num, fun j hj => by { rcases Nat.lt_succ_iff_lt_or_eq.1 hj with h | rfl; exact hno j h; exact E.out }, bthen hbs hW⟩
              case measure => simp [intOf]; omega
            | true =>
              obtain rfl : kk = 1 := by simpa using hk1
              have HT : Hid ((l.take k).length = k) := by show _ = _; rw [List.length_take]; omega
              have C34 : Hid (∀ W, Below w.heap.size w W → Calls Try.prog 34 #[.slice (some ⟨b, o, none⟩) k c, .int .u64 a] W (Ret (.bool (finalP (l.take k) a)) W)) := by
                intro W hW
                have h := final_any (l.take k) (some ⟨b, o, none⟩) c a W ((HR.out.below hW).take_ k hk)
                rw [HT.out] at h
                exact h
              have hkc : k ≤ c := by omega
              clear hk1
              cases hf : finalP (l.take k) a with
              | true =>
                have E := Lib.hid (checkP_bad hlt (show badAt l k = true by unfold badAt; rw [hs]; simp [ho, hf]))
                rw [hf] at C34
                clear ho hs hsk hf hno
                go_wp2
                generalize wr.alloc (Obj.cells #[.int .u64 a, .int .u8 1, .int .u64 t] 41) = W0 at F1 F2 F3 hbs ⊢
                refine region_up (by kernel_rfl) (by kernel_rfl) ?_
                go_big_quiet_want
                apply Exists.intro
                refine ⟨fun W hW => ?_, ?_⟩
                · have g0 := cell_later hW F1.out
                  have g1 := cell_later hW F2.out
                  have g2 := cell_later hW F3.out
                  go_simp
                  exact rfl
                simp only [Act.put, List.setIfInBounds_toArray, List.set_cons_succ, List.set_cons_zero]
                go_big_quiet_on
                go_big_quiet_want
                apply Exists.intro
                refine ⟨fun W hW => ?_, ?_⟩
                · have g0 := cell_later hW F1.out
                  have g1 := cell_later hW F2.out
                  have g2 := cell_later hW F3.out
                  go_simp
                  exact call_up hW (C33.out W)
                simp only [Act.put, List.setIfInBounds_toArray, List.set_cons_succ, List.set_cons_zero]
                go_big_quiet_on
                go_big_quiet_want
                apply Exists.intro
                refine ⟨fun W hW => ?_, ?_⟩
                · have g0 := cell_later hW F1.out
                  have g1 := cell_later hW F2.out
                  have g2 := cell_later hW F3.out
                  go_simp
                  exact rfl
                simp only [Act.put, List.setIfInBounds_toArray, List.set_cons_succ, List.set_cons_zero]
                go_big_quiet_on
                go_big_quiet_want
                apply Exists.intro
                refine ⟨fun W hW => ?_, ?_⟩
                · have g0 := cell_later hW F1.out
                  have g1 := cell_later hW F2.out
                  have g2 := cell_later hW F3.out
                  go_simp
                  exact rfl
                simp only [Act.put, List.setIfInBounds_toArray, List.set_cons_succ, List.set_cons_zero]
                go_big_quiet_on
                go_big_quiet_want
                apply Exists.intro
                refine ⟨fun W hW => ?_, ?_⟩
                · have g0 := cell_later hW F1.out
                  have g1 := cell_later hW F2.out
                  have g2 := cell_later hW F3.out
                  go_simp
                  exact rfl
                simp only [Act.put, List.setIfInBounds_toArray, List.set_cons_succ, List.set_cons_zero]
                go_big_quiet_on
                go_big_quiet_want
                apply Exists.intro
                refine ⟨fun W hW => ?_, ?_⟩
                · have g0 := cell_later hW F1.out
                  have g1 := cell_later hW F2.out
                  have g2 := cell_later hW F3.out
                  go_simp
                  exact rfl
                simp only [Act.put, List.setIfInBounds_toArray, List.set_cons_succ, List.set_cons_zero]
                go_big_quiet_on
                go_big_quiet_want
                apply Exists.intro
                refine ⟨fun W hW => ?_, ?_⟩
                · have g0 := cell_later hW F1.out
                  have g1 := cell_later hW F2.out
                  have g2 := cell_later hW F3.out
                  go_simp
                  exact rfl
                simp only [Act.put, List.setIfInBounds_toArray, List.set_cons_succ, List.set_cons_zero]
                go_big_quiet_on
                go_big_quiet_want
                apply Exists.intro
                refine ⟨fun W hW => ?_, ?_⟩
                · have g0 := cell_later hW F1.out
                  have g1 := cell_later hW F2.out
                  have g2 := cell_later hW F3.out
                  go_simp
                  exact rfl
                simp only [Act.put, List.setIfInBounds_toArray, List.set_cons_succ, List.set_cons_zero]
                go_big_quiet_on
                go_big_quiet_want
                apply Exists.intro
                refine ⟨fun W hW => ?_, ?_⟩
                · have g0 := cell_later hW F1.out
                  have g1 := cell_later hW F2.out
                  have g2 := cell_later hW F3.out
                  go_simp
                  exact rfl
                simp only [Act.put, List.setIfInBounds_toArray, List.set_cons_succ, List.set_cons_zero]
                go_big_quiet_on
                go_big_quiet_want
                apply Exists.intro
                refine ⟨fun W hW => ?_, ?_⟩
                · have g0 := cell_later hW F1.out
                  have g1 := cell_later hW F2.out
                  have g2 := cell_later hW F3.out
                  go_simp
                  exact rfl
                simp only [Act.put, List.setIfInBounds_toArray, List.set_cons_succ, List.set_cons_zero]
                go_big_quiet_on
                go_big_quiet_want
                apply Exists.intro
                refine ⟨fun W hW => ?_, ?_⟩
                · have g0 := cell_later hW F1.out
                  have g1 := cell_later hW F2.out
                  have g2 := cell_later hW F3.out
                  go_simp
                  exact rfl
                simp only [Act.put, List.setIfInBounds_toArray, List.set_cons_succ, List.set_cons_zero]
                go_big_quiet_on
                go_big_quiet_want
                apply Exists.intro
                refine ⟨fun W hW => ?_, ?_⟩
                · have g0 := cell_later hW F1.out
                  have g1 := cell_later hW F2.out
                  have g2 := cell_later hW F3.out
                  go_simp
                  exact rfl
                simp only [Act.put, List.setIfInBounds_toArray, List.set_cons_succ, List.set_cons_zero]
                go_big_quiet_on
                go_big_quiet_want
                apply Exists.intro
                refine ⟨fun W hW => ?_, ?_⟩
                · have g0 := cell_later hW F1.out
                  have g1 := cell_later hW F2.out
                  have g2 := cell_later hW F3.out
                  go_simp
                  exact rfl
                simp only [Act.put, List.setIfInBounds_toArray, List.set_cons_succ, List.set_cons_zero]
                go_big_quiet_on
                go_big_quiet_want
                apply Exists.intro
                refine ⟨fun W hW => ?_, ?_⟩
                · have g0 := cell_later hW F1.out
                  have g1 := cell_later hW F2.out
                  have g2 := cell_later hW F3.out
                  go_simp
                  exact call_up hW (C34.out W (bthen hbs hW))
                simp only [Act.put, List.setIfInBounds_toArray, List.set_cons_succ, List.set_cons_zero]
                go_big_quiet_on
                go_big_quiet_want
                apply Exists.intro
                refine ⟨fun W hW => ?_, ?_⟩
                · have g0 := cell_later hW F1.out
                  have g1 := cell_later hW F2.out
                  have g2 := cell_later hW F3.out
                  go_simp
                  exact rfl
                simp only [Act.put, List.setIfInBounds_toArray, List.set_cons_succ, List.set_cons_zero]
                go_big_quiet_on
                go_big_quiet_want
                apply Exists.intro
                refine ⟨fun W hW => ?_, ?_⟩
                · have g0 := cell_later hW F1.out
                  have g1 := cell_later hW F2.out
                  have g2 := cell_later hW F3.out
                  go_simp
                  exact rfl
                simp only [Act.put, List.setIfInBounds_toArray, List.set_cons_succ, List.set_cons_zero]
                go_big_quiet_on
                refine wpQuiet_nil ?_
                intro W hW
                go_wp2
                go_ret
                exact ⟨by rw [E.out]; rfl, bthen hbs hW⟩
              | false =>
                have E := Lib.hid (show badAt l k = false by unfold badAt; rw [hs]; simp [ho, hf])
                rw [hf] at C34
                clear ho hs hsk hf
                go_wp2
                generalize wr.alloc (Obj.cells #[.int .u64 a, .int .u8 1, .int .u64 t] 41) = W0 at F1 F2 F3 hbs ⊢
                refine region_up (by kernel_rfl) (by kernel_rfl) ?_
                go_big_quiet_want
                apply Exists.intro
                refine ⟨fun W hW => ?_, ?_⟩
                · have g0 := cell_later hW F1.out
                  have g1 := cell_later hW F2.out
                  have g2 := cell_later hW F3.out
                  go_simp
                  exact rfl
                simp only [Act.put, List.setIfInBounds_toArray, List.set_cons_succ, List.set_cons_zero]
                go_big_quiet_on
                go_big_quiet_want
                apply Exists.intro
                refine ⟨fun W hW => ?_, ?_⟩
                · have g0 := cell_later hW F1.out
                  have g1 := cell_later hW F2.out
                  have g2 := cell_later hW F3.out
                  go_simp
                  exact call_up hW (C33.out W)
                simp only [Act.put, List.setIfInBounds_toArray, List.set_cons_succ, List.set_cons_zero]
                go_big_quiet_on
                go_big_quiet_want
                apply Exists.intro
                refine ⟨fun W hW => ?_, ?_⟩
                · have g0 := cell_later hW F1.out
                  have g1 := cell_later hW F2.out
                  have g2 := cell_later hW F3.out
                  go_simp
                  exact rfl
                simp only [Act.put, List.setIfInBounds_toArray, List.set_cons_succ, List.set_cons_zero]
                go_big_quiet_on
                go_big_quiet_want
                apply Exists.intro
                refine ⟨fun W hW => ?_, ?_⟩
                · have g0 := cell_later hW F1.out
                  have g1 := cell_later hW F2.out
                  have g2 := cell_later hW F3.out
                  go_simp
                  exact rfl
                simp only [Act.put, List.setIfInBounds_toArray, List.set_cons_succ, List.set_cons_zero]
                go_big_quiet_on
                go_big_quiet_want
                apply Exists.intro
                refine ⟨fun W hW => ?_, ?_⟩
                · have g0 := cell_later hW F1.out
                  have g1 := cell_later hW F2.out
                  have g2 := cell_later hW F3.out
                  go_simp
                  exact rfl
                simp only [Act.put, List.setIfInBounds_toArray, List.set_cons_succ, List.set_cons_zero]
                go_big_quiet_on
                go_big_quiet_want
                apply Exists.intro
                refine ⟨fun W hW => ?_, ?_⟩
                · have g0 := cell_later hW F1.out
                  have g1 := cell_later hW F2.out
                  have g2 := cell_later hW F3.out
                  go_simp
                  exact rfl
                simp only [Act.put, List.setIfInBounds_toArray, List.set_cons_succ, List.set_cons_zero]
                go_big_quiet_on
                go_big_quiet_want
                apply Exists.intro
                refine ⟨fun W hW => ?_, ?_⟩
                · have g0 := cell_later hW F1.out
                  have g1 := cell_later hW F2.out
                  have g2 := cell_later hW F3.out
                  go_simp
                  exact rfl
                simp only [Act.put, List.setIfInBounds_toArray, List.set_cons_succ, List.set_cons_zero]
                go_big_quiet_on
                go_big_quiet_want
                apply Exists.intro
                refine ⟨fun W hW => ?_, ?_⟩
                · have g0 := cell_later hW F1.out
                  have g1 := cell_later hW F2.out
                  have g2 := cell_later hW F3.out
                  go_simp
                  exact rfl
                simp only [Act.put, List.setIfInBounds_toArray, List.set_cons_succ, List.set_cons_zero]
                go_big_quiet_on
                go_big_quiet_want
                apply Exists.intro
                refine ⟨fun W hW => ?_, ?_⟩
                · have g0 := cell_later hW F1.out
                  have g1 := cell_later hW F2.out
                  have g2 := cell_later hW F3.out
                  go_simp
                  exact rfl
                simp only [Act.put, List.setIfInBounds_toArray, List.set_cons_succ, List.set_cons_zero]
                go_big_quiet_on
                go_big_quiet_want
                apply Exists.intro
                refine ⟨fun W hW => ?_, ?_⟩
                · have g0 := cell_later hW F1.out
                  have g1 := cell_later hW F2.out
                  have g2 := cell_later hW F3.out
                  go_simp
                  exact rfl
                simp only [Act.put, List.setIfInBounds_toArray, List.set_cons_succ, List.set_cons_zero]
                go_big_quiet_on
                go_big_quiet_want
                apply Exists.intro
                refine ⟨fun W hW => ?_, ?_⟩
                · have g0 := cell_later hW F1.out
                  have g1 := cell_later hW F2.out
                  have g2 := cell_later hW F3.out
                  go_simp
                  exact rfl
                simp only [Act.put, List.setIfInBounds_toArray, List.set_cons_succ, List.set_cons_zero]
                go_big_quiet_on
                go_big_quiet_want
                apply Exists.intro
                refine ⟨fun W hW => ?_, ?_⟩
                · have g0 := cell_later hW F1.out
                  have g1 := cell_later hW F2.out
                  have g2 := cell_later hW F3.out
                  go_simp
                  exact rfl
                simp only [Act.put, List.setIfInBounds_toArray, List.set_cons_succ, List.set_cons_zero]
                go_big_quiet_on
                go_big_quiet_want
                apply Exists.intro
                refine ⟨fun W hW => ?_, ?_⟩
                · have g0 := cell_later hW F1.out
                  have g1 := cell_later hW F2.out
                  have g2 := cell_later hW F3.out
                  go_simp
                  exact rfl
                simp only [Act.put, List.setIfInBounds_toArray, List.set_cons_succ, List.set_cons_zero]
                go_big_quiet_on
                go_big_quiet_want
                apply Exists.intro
                refine ⟨fun W hW => ?_, ?_⟩
                · have g0 := cell_later hW F1.out
                  have g1 := cell_later hW F2.out
                  have g2 := cell_later hW F3.out
                  go_simp
                  exact call_up hW (C34.out W (bthen hbs hW))
                simp only [Act.put, List.setIfInBounds_toArray, List.set_cons_succ, List.set_cons_zero]
                go_big_quiet_on
                go_big_quiet_want
                apply Exists.intro
                refine ⟨fun W hW => ?_, ?_⟩
                · have g0 := cell_later hW F1.out
                  have g1 := cell_later hW F2.out
                  have g2 := cell_later hW F3.out
                  go_simp
                  exact rfl
                simp only [Act.put, List.setIfInBounds_toArray, List.set_cons_succ, List.set_cons_zero]
                go_big_quiet_on
                go_big_quiet_want
                apply Exists.intro
                refine ⟨fun W hW => ?_, ?_⟩
                · have g0 := cell_later hW F1.out
                  have g1 := cell_later hW F2.out
                  have g2 := cell_later hW F3.out
                  go_simp
                  exact rfl
                simp only [Act.put, List.setIfInBounds_toArray, List.set_cons_succ, List.set_cons_zero]
                go_big_quiet_on
                refine wpQuiet_nil ?_
                intro W hW
                go_wp2
                go_roundw
                case rel => exact ⟨k + 1, by omega, by go_num, fun j hj => by { rcases Nat.lt_succ_iff_lt_or_eq.1 hj with h | rfl; exact hno j h; exact E.out }, bthen hbs hW⟩
                case measure => simp [intOf]; omega
        · have E := Lib.hid (checkP_good h1 H2.out (fun j hj => hno j (by omega)))
          clear hno
          go_wp2
          go_ret
          exact ⟨by rw [E.out]; rfl, hbr⟩
end Go.Proofs.Ytiapiajldchnmaa
