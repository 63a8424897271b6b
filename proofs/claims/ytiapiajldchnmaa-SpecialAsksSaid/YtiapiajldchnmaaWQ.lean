/- The walk of the reference's Addrs. -/
import Derived.Test.YtiapiajldchnmaaWP
namespace Go.Proofs.Ytiapiajldchnmaa
open Go.RowKit
set_option linter.unusedVariables false
set_option linter.unusedSimpArgs false

theorem ddGo_last : ∀ (l : List Int) (p : Int), (p :: ddGo p l).getLast? = (p :: l).getLast?
  | [], p => rfl
  | y :: r, p => by
    simp only [ddGo]
    by_cases h : y = p
    · subst h
      rw [if_pos rfl, ddGo_last r y]
      simp
    · rw [if_neg h]
      have := ddGo_last r y
      simpa using this
theorem ddP_last (l : List Int) : (ddP l).getLast? = l.getLast? := by
  cases l with
  | nil => rfl
  | cons x r => exact ddGo_last r x
theorem ddP_add (l : List Int) (y : Int) : ddP (l ++ [y]) = if (ddP l).getLast? = some y then ddP l else ddP l ++ [y] := by
  cases h : l.getLast? with
  | none =>
    rw [List.getLast?_eq_none_iff] at h
    subst h
    rfl
  | some q =>
    rw [ddP_snoc h, ddP_last, h]
    by_cases e : y = q
    · rw [if_pos e, if_pos (by rw [e])]
    · rw [if_neg e, if_neg (by simpa using fun h => e h.symm)]
theorem ddGo_le : ∀ (l : List Int) (p : Int), (ddGo p l).length ≤ l.length
  | [], p => Nat.le_refl _
  | y :: r, p => by
    simp only [ddGo]
    have := ddGo_le r p
    have := ddGo_le r y
    split <;> simp <;> omega
theorem ddP_le (l : List Int) : (ddP l).length ≤ l.length := by
  cases l with
  | nil => exact Nat.le_refl _
  | cons x r => have := ddGo_le r x; simp [ddP]; omega

set_option maxRecDepth 100000 in
set_option maxHeartbeats 8000000 in
theorem addrs19 (l : List Sp) (A : Option Addr) (c : Nat) (q : Int) (w : World) (hr : RdS w A l) (hc : l.length ≤ c) :
    Calls Try.prog 19 #[.slice A l.length c, .int .u8 q] w (RetU2 (addrsP l q) (checkP l) w) := by
  have hl := hr.len
  have C20 := Lib.hid (check21 l A c w hr hc)
  have HR := Lib.hid hr
  clear hr
  cases hg : goodP l with
  | false =>
    have E : Hid (addrsP l q = []) := by show _ = _; simp [addrsP, hg]
    rw [checkP_no hg] at C20 ⊢
    rw [E.out]
    clear hg
    go_enter Try.func19, Try.ntmps19
    go_wp2_with (go_at_call 21; refine C20.out.mono ?_; rintro e w1 ⟨rfl, hb1⟩)
    go_ret2
    exact ⟨_, rfl, OwU.nil_ _ _, hb1⟩
  | true =>
    have hlen := good_len hg
    have E : Hid (addrsP l q = ddP (kA l q)) := by show _ = _; simp [addrsP, hg]
    rw [checkP_ok hg] at C20 ⊢
    clear hg
    go_enter Try.func19, Try.ntmps19
    go_wp2_with (go_at_call 21; refine C20.out.mono ?_; rintro e w1 ⟨rfl, hb1⟩)
    go_loopw [6, 14] (fun v i wr => ∃ k : Nat, k ≤ l.length ∧ i = .int .i64 k ∧ Hid (OwU wr w.heap.size v (ddP (kA (l.take k) q))) ∧ Hid (Below w.heap.size w wr)) (fun _ i _ => l.length - (intOf i).toNat)
    case atStart => exact ⟨0, Nat.zero_le _, rfl, OwU.nil_ _ _, hb1⟩
    case round =>
      obtain ⟨k, hk, rfl, HO, HB⟩ := hrel
      obtain ⟨wo, rfl⟩ : ∃ wo : World, wo = wr := ⟨_, rfl⟩
      clear hb1 C20
      obtain ⟨vA, vc, hv, _, hrd⟩ := HO.out.shape
      subst hv
      by_cases hlt : k < l.length
      · have hs : l[k]? = some l[k] := List.getElem?_eq_getElem hlt
        obtain ⟨b, o, rfl, hB, c1, c2, c3⟩ := (HR.out.below HB.out).at_ hs
        have S3 := Lib.hid (show ddP (kA (l.take (k + 1)) q) = if l[k].k == q then (if (ddP (kA (l.take k) q)).getLast? = some l[k].a then ddP (kA (l.take k) q) else ddP (kA (l.take k) q) ++ [l[k].a]) else ddP (kA (l.take k) q) from by
          rw [kA_snoc hlt q]
          split
          · exact ddP_add _ _
          · rfl)
        have hkl := Nat.le_trans (ddP_le (kA (l.take k) q)) (kA_le (l.take k) q)
        rw [List.length_take] at hkl
        generalize l[k] = s at *
        clear hs
        generalize ddP (kA (l.take k) q) = out at *
        have HOA : Hid (OwU (wo.alloc (.cells #[.int .u64 s.a, .int .u8 s.k, .int .u64 s.t] 41)) w.heap.size (.slice vA out.length vc) out) := World.ownsRow.alloc HO.out _
        have HBA : Hid (Below w.heap.size w (wo.alloc (.cells #[.int .u64 s.a, .int .u8 s.k, .int .u64 s.t] 41))) := balloc HB.out _
        have hba : Below wo.heap.size wo (wo.alloc (.cells #[.int .u64 s.a, .int .u8 s.k, .int .u64 s.t] 41)) := balloc (Below.refl _ _) _
        have F1 : Hid ((wo.alloc (.cells #[.int .u64 s.a, .int .u8 s.k, .int .u64 s.t] 41)).cell? ⟨wo.heap.size, 0, none⟩ = some (.int .u64 s.a)) := by show _ = _; go_simp
        have F2 : Hid ((wo.alloc (.cells #[.int .u64 s.a, .int .u8 s.k, .int .u64 s.t] 41)).cell? ⟨wo.heap.size, 1, none⟩ = some (.int .u8 s.k)) := by show _ = _; go_simp
        have hrA := hrd.below hba
        clear hba hrd HO
        cases hq : s.k == q with
        | false =>
          have S : Hid (ddP (kA (l.take (k + 1)) q) = out) := by show _ = _; rw [S3.out, hq]; rfl
          clear S3 hrA
          clear F1
          go_wp2
          refine region_up (by kernel_rfl) (by kernel_rfl) ?_
          go_big_quiet_want
          apply Exists.intro
          refine ⟨fun W hW => ?_, ?_⟩
          · have g0 := cell_later hW F2.out
            go_simp
            exact rfl
          simp only [Act.put, List.setIfInBounds_toArray, List.set_cons_succ, List.set_cons_zero]
          go_big_quiet_on
          go_big_quiet_want
          apply Exists.intro
          refine ⟨fun W hW => ?_, ?_⟩
          · have g0 := cell_later hW F2.out
            go_simp
            exact rfl
          simp only [Act.put, List.setIfInBounds_toArray, List.set_cons_succ, List.set_cons_zero]
          go_big_quiet_on
          go_big_quiet_want
          apply Exists.intro
          refine ⟨fun W hW => ?_, ?_⟩
          · have g0 := cell_later hW F2.out
            go_simp
            exact rfl
          simp only [Act.put, List.setIfInBounds_toArray, List.set_cons_succ, List.set_cons_zero]
          go_big_quiet_on
          go_big_quiet_want
          apply Exists.intro
          refine ⟨fun W hW => ?_, ?_⟩
          · have g0 := cell_later hW F2.out
            go_simp
            exact rfl
          simp only [Act.put, List.setIfInBounds_toArray, List.set_cons_succ, List.set_cons_zero]
          go_big_quiet_on
          go_big_quiet_want
          apply Exists.intro
          refine ⟨fun W hW => ?_, ?_⟩
          · have g0 := cell_later hW F2.out
            go_simp
            exact rfl
          simp only [Act.put, List.setIfInBounds_toArray, List.set_cons_succ, List.set_cons_zero]
          go_big_quiet_on
          go_big_quiet_skip
          go_big_quiet_skip
          go_big_quiet_skip
          go_big_quiet_skip
          go_big_quiet_skip
          go_big_quiet_skip
          go_big_quiet_skip
          go_big_quiet_skip
          go_big_quiet_skip
          go_big_quiet_skip
          go_big_quiet_skip
          go_big_quiet_skip
          go_big_quiet_skip
          go_big_quiet_skip
          go_big_quiet_want
          apply Exists.intro
          refine ⟨fun W hW => ?_, ?_⟩
          · have g0 := cell_later hW F2.out
            go_simp
            exact rfl
          simp only [Act.put, List.setIfInBounds_toArray, List.set_cons_succ, List.set_cons_zero]
          go_big_quiet_on
          refine wpQuiet_nil ?_
          intro W hW
          clear F2
          go_wp2
          go_roundw
          case rel => exact ⟨k + 1, by omega, by go_num, by rw [S.out]; exact OwU.below HOA.out hW, bthen HBA.out hW⟩
          case measure => simp [intOf]; omega
        | true =>
          have S3 : Hid (ddP (kA (l.take (k + 1)) q) = if out.getLast? = some s.a then out else out ++ [s.a]) := by show _ = _; rw [S3.out, hq]; rfl
          rcases List.eq_nil_or_concat out with rfl | ⟨o', z, hcat⟩
          · have S : Hid (ddP (kA (l.take (k + 1)) q) = [] ++ [s.a]) := S3.out
            simp only [List.length_nil] at HOA hkl
            clear S3 hrA
            go_wp2
            refine region_up (by kernel_rfl) (by kernel_rfl) ?_
            go_big_quiet_want
            apply Exists.intro
            refine ⟨fun W hW => ?_, ?_⟩
            · have g0 := cell_later hW F1.out
              have g1 := cell_later hW F2.out
              go_simp
              exact rfl
            simp only [Act.put, List.setIfInBounds_toArray, List.set_cons_succ, List.set_cons_zero]
            go_big_quiet_on
            go_big_quiet_want
            apply Exists.intro
            refine ⟨fun W hW => ?_, ?_⟩
            · have g0 := cell_later hW F1.out
              have g1 := cell_later hW F2.out
              go_simp
              exact rfl
            simp only [Act.put, List.setIfInBounds_toArray, List.set_cons_succ, List.set_cons_zero]
            go_big_quiet_on
            go_big_quiet_want
            apply Exists.intro
            refine ⟨fun W hW => ?_, ?_⟩
            · have g0 := cell_later hW F1.out
              have g1 := cell_later hW F2.out
              go_simp
              exact rfl
            simp only [Act.put, List.setIfInBounds_toArray, List.set_cons_succ, List.set_cons_zero]
            go_big_quiet_on
            go_big_quiet_want
            apply Exists.intro
            refine ⟨fun W hW => ?_, ?_⟩
            · have g0 := cell_later hW F1.out
              have g1 := cell_later hW F2.out
              go_simp
              exact rfl
            simp only [Act.put, List.setIfInBounds_toArray, List.set_cons_succ, List.set_cons_zero]
            go_big_quiet_on
            go_big_quiet_want
            apply Exists.intro
            refine ⟨fun W hW => ?_, ?_⟩
            · have g0 := cell_later hW F1.out
              have g1 := cell_later hW F2.out
              go_simp
              exact rfl
            simp only [Act.put, List.setIfInBounds_toArray, List.set_cons_succ, List.set_cons_zero]
            go_big_quiet_on
            go_big_quiet_want
            apply Exists.intro
            refine ⟨fun W hW => ?_, ?_⟩
            · have g0 := cell_later hW F1.out
              have g1 := cell_later hW F2.out
              go_simp
              exact rfl
            simp only [Act.put, List.setIfInBounds_toArray, List.set_cons_succ, List.set_cons_zero]
            go_big_quiet_on
            go_big_quiet_want
            apply Exists.intro
            refine ⟨fun W hW => ?_, ?_⟩
            · have g0 := cell_later hW F1.out
              have g1 := cell_later hW F2.out
              go_simp
              exact rfl
            simp only [Act.put, List.setIfInBounds_toArray, List.set_cons_succ, List.set_cons_zero]
            go_big_quiet_on
            go_big_quiet_want
            apply Exists.intro
            refine ⟨fun W hW => ?_, ?_⟩
            · have g0 := cell_later hW F1.out
              have g1 := cell_later hW F2.out
              go_simp
              exact rfl
            simp only [Act.put, List.setIfInBounds_toArray, List.set_cons_succ, List.set_cons_zero]
            go_big_quiet_on
            go_big_quiet_want
            apply Exists.intro
            refine ⟨fun W hW => ?_, ?_⟩
            · have g0 := cell_later hW F1.out
              have g1 := cell_later hW F2.out
              go_simp
              exact rfl
            simp only [Act.put, List.setIfInBounds_toArray, List.set_cons_succ, List.set_cons_zero]
            go_big_quiet_on
            go_big_quiet_skip
            go_big_quiet_skip
            go_big_quiet_skip
            go_big_quiet_skip
            go_big_quiet_skip
            go_big_quiet_skip
            go_big_quiet_skip
            go_big_quiet_skip
            go_big_quiet_skip
            go_big_quiet_want
            apply Exists.intro
            refine ⟨fun W hW => ?_, ?_⟩
            · have g0 := cell_later hW F1.out
              have g1 := cell_later hW F2.out
              go_simp
              exact rfl
            simp only [Act.put, List.setIfInBounds_toArray, List.set_cons_succ, List.set_cons_zero]
            go_big_quiet_on
            go_big_quiet_want
            apply Exists.intro
            refine ⟨fun W hW => ?_, ?_⟩
            · have g0 := cell_later hW F1.out
              have g1 := cell_later hW F2.out
              go_simp
              exact rfl
            simp only [Act.put, List.setIfInBounds_toArray, List.set_cons_succ, List.set_cons_zero]
            go_big_quiet_on
            refine wpQuiet_nil ?_
            intro W hW
            have HOB : Hid (OwU (W.alloc (.cells #[.int .u64 s.a] 23)) w.heap.size (.slice vA (0) vc) ([])) := World.ownsRow.alloc (own_below HOA.out hW) _
            have HBB : Hid (Below w.heap.size w (W.alloc (.cells #[.int .u64 s.a] 23))) := balloc (bthen HBA.out hW) _
            have HRX : Hid (RdU (W.alloc (.cells #[.int .u64 s.a] 23)) (some ⟨W.heap.size, 0, none⟩) [s.a]) := rdU_new W s.a
            have g1 := cell_later hW F1.out
            clear hW HOA HBA
            go_wp2_with (at_builtin; refine wpl_appU rfl (.tmp 38) (.tmp 41) rfl w.heap.size _ ([]) [s.a] (rfl) HOB.out (some ⟨W.heap.size, 0, none⟩) 1 rfl HRX.out ?h1 HBB.out.size ?_)
            case h1 => simp <;> omega
            intro v' w' ho' hg'
            have HO' : Hid (OwU w' w.heap.size v' (ddP (kA (l.take (k + 1)) q))) := by show OwU _ _ _ _; rw [S.out]; first | exact ho' | (rw [List.append_assoc]; exact ho')
            have HB' := Lib.hid (bownU (v := .slice vA (0) vc) HBB.out hg' HOB.out)
            clear ho' hg'
            go_wp2
            go_roundw
            case rel => exact ⟨k + 1, by omega, by go_num, HO'.out, HB'.out⟩
            case measure => simp [intOf]; omega
          · rw [List.concat_eq_append] at hcat
            subst hcat
            obtain ⟨bz, oz, rfl, _, cz⟩ := hrA.at_ (i := o'.length) (x := z) (by simp)
            have CZ := Lib.hid cz
            clear cz
            have S3 : Hid (ddP (kA (l.take (k + 1)) q) = if z = s.a then o' ++ [z] else (o' ++ [z]) ++ [s.a]) := by show _ = _; rw [S3.out]; simp
            simp only [List.length_append, List.length_cons, List.length_nil, Nat.zero_add] at hkl
            clear hrA
            have hz0 : (((o'.length : Int) + 1) == 0) = false := by rw [beq_eq_false_iff_ne]; omega
            have hwn : IntKind.i64.wrap (o'.length : Int) = (o'.length : Int) := by rw [IntKind.wrap_i64]; omega
            have hnlt : (o'.length : Int) < (o'.length : Int) + 1 := by omega
            by_cases hz : z = s.a
            · subst hz
              have S : Hid (ddP (kA (l.take (k + 1)) q) = o' ++ [s.a]) := by show _ = _; rw [S3.out, if_pos rfl]
              clear S3 
              go_wp2
              refine region_up (by kernel_rfl) (by kernel_rfl) ?_
              go_big_quiet_want
              apply Exists.intro
              refine ⟨fun W hW => ?_, ?_⟩
              · have g0 := cell_later hW F1.out
                have g1 := cell_later hW F2.out
                have g2 := cell_later hW CZ.out
                go_simp
                exact rfl
              simp only [Act.put, List.setIfInBounds_toArray, List.set_cons_succ, List.set_cons_zero]
              go_big_quiet_on
              go_big_quiet_want
              apply Exists.intro
              refine ⟨fun W hW => ?_, ?_⟩
              · have g0 := cell_later hW F1.out
                have g1 := cell_later hW F2.out
                have g2 := cell_later hW CZ.out
                go_simp
                exact rfl
              simp only [Act.put, List.setIfInBounds_toArray, List.set_cons_succ, List.set_cons_zero]
              go_big_quiet_on
              go_big_quiet_want
              apply Exists.intro
              refine ⟨fun W hW => ?_, ?_⟩
              · have g0 := cell_later hW F1.out
                have g1 := cell_later hW F2.out
                have g2 := cell_later hW CZ.out
                go_simp
                exact rfl
              simp only [Act.put, List.setIfInBounds_toArray, List.set_cons_succ, List.set_cons_zero]
              go_big_quiet_on
              go_big_quiet_want
              apply Exists.intro
              refine ⟨fun W hW => ?_, ?_⟩
              · have g0 := cell_later hW F1.out
                have g1 := cell_later hW F2.out
                have g2 := cell_later hW CZ.out
                go_simp
                exact rfl
              simp only [Act.put, List.setIfInBounds_toArray, List.set_cons_succ, List.set_cons_zero]
              go_big_quiet_on
              go_big_quiet_want
              apply Exists.intro
              refine ⟨fun W hW => ?_, ?_⟩
              · have g0 := cell_later hW F1.out
                have g1 := cell_later hW F2.out
                have g2 := cell_later hW CZ.out
                go_simp
                exact rfl
              simp only [Act.put, List.setIfInBounds_toArray, List.set_cons_succ, List.set_cons_zero]
              go_big_quiet_on
              go_big_quiet_want
              apply Exists.intro
              refine ⟨fun W hW => ?_, ?_⟩
              · have g0 := cell_later hW F1.out
                have g1 := cell_later hW F2.out
                have g2 := cell_later hW CZ.out
                go_simp
                exact rfl
              simp only [Act.put, List.setIfInBounds_toArray, List.set_cons_succ, List.set_cons_zero]
              go_big_quiet_on
              go_big_quiet_want
              apply Exists.intro
              refine ⟨fun W hW => ?_, ?_⟩
              · have g0 := cell_later hW F1.out
                have g1 := cell_later hW F2.out
                have g2 := cell_later hW CZ.out
                go_simp
                exact rfl
              simp only [Act.put, List.setIfInBounds_toArray, List.set_cons_succ, List.set_cons_zero]
              go_big_quiet_on
              go_big_quiet_want
              apply Exists.intro
              refine ⟨fun W hW => ?_, ?_⟩
              · have g0 := cell_later hW F1.out
                have g1 := cell_later hW F2.out
                have g2 := cell_later hW CZ.out
                go_simp
                exact rfl
              simp only [Act.put, List.setIfInBounds_toArray, List.set_cons_succ, List.set_cons_zero]
              go_big_quiet_on
              go_big_quiet_want
              apply Exists.intro
              refine ⟨fun W hW => ?_, ?_⟩
              · have g0 := cell_later hW F1.out
                have g1 := cell_later hW F2.out
                have g2 := cell_later hW CZ.out
                go_simp
                exact rfl
              simp only [Act.put, List.setIfInBounds_toArray, List.set_cons_succ, List.set_cons_zero]
              go_big_quiet_on
              go_big_quiet_want
              apply Exists.intro
              refine ⟨fun W hW => ?_, ?_⟩
              · have g0 := cell_later hW F1.out
                have g1 := cell_later hW F2.out
                have g2 := cell_later hW CZ.out
                go_simp
                exact rfl
              simp only [Act.put, List.setIfInBounds_toArray, List.set_cons_succ, List.set_cons_zero]
              go_big_quiet_on
              go_big_quiet_want
              apply Exists.intro
              refine ⟨fun W hW => ?_, ?_⟩
              · have g0 := cell_later hW F1.out
                have g1 := cell_later hW F2.out
                have g2 := cell_later hW CZ.out
                go_simp
                exact rfl
              simp only [Act.put, List.setIfInBounds_toArray, List.set_cons_succ, List.set_cons_zero]
              go_big_quiet_on
              go_big_quiet_want
              apply Exists.intro
              refine ⟨fun W hW => ?_, ?_⟩
              · have g0 := cell_later hW F1.out
                have g1 := cell_later hW F2.out
                have g2 := cell_later hW CZ.out
                go_simp
                exact rfl
              simp only [Act.put, List.setIfInBounds_toArray, List.set_cons_succ, List.set_cons_zero]
              go_big_quiet_on
              go_big_quiet_want
              apply Exists.intro
              refine ⟨fun W hW => ?_, ?_⟩
              · have g0 := cell_later hW F1.out
                have g1 := cell_later hW F2.out
                have g2 := cell_later hW CZ.out
                go_simp
                exact rfl
              simp only [Act.put, List.setIfInBounds_toArray, List.set_cons_succ, List.set_cons_zero]
              go_big_quiet_on
              go_big_quiet_want
              apply Exists.intro
              refine ⟨fun W hW => ?_, ?_⟩
              · have g0 := cell_later hW F1.out
                have g1 := cell_later hW F2.out
                have g2 := cell_later hW CZ.out
                go_simp
                exact rfl
              simp only [Act.put, List.setIfInBounds_toArray, List.set_cons_succ, List.set_cons_zero]
              go_big_quiet_on
              go_big_quiet_want
              apply Exists.intro
              refine ⟨fun W hW => ?_, ?_⟩
              · have g0 := cell_later hW F1.out
                have g1 := cell_later hW F2.out
                have g2 := cell_later hW CZ.out
                go_simp
                exact rfl
              simp only [Act.put, List.setIfInBounds_toArray, List.set_cons_succ, List.set_cons_zero]
              go_big_quiet_on
              go_big_quiet_want
              apply Exists.intro
              refine ⟨fun W hW => ?_, ?_⟩
              · have g0 := cell_later hW F1.out
                have g1 := cell_later hW F2.out
                have g2 := cell_later hW CZ.out
                go_simp
                exact rfl
              simp only [Act.put, List.setIfInBounds_toArray, List.set_cons_succ, List.set_cons_zero]
              go_big_quiet_on
              go_big_quiet_want
              apply Exists.intro
              refine ⟨fun W hW => ?_, ?_⟩
              · have g0 := cell_later hW F1.out
                have g1 := cell_later hW F2.out
                have g2 := cell_later hW CZ.out
                go_simp
                exact rfl
              simp only [Act.put, List.setIfInBounds_toArray, List.set_cons_succ, List.set_cons_zero]
              go_big_quiet_on
              go_big_quiet_want
              apply Exists.intro
              refine ⟨fun W hW => ?_, ?_⟩
              · have g0 := cell_later hW F1.out
                have g1 := cell_later hW F2.out
                have g2 := cell_later hW CZ.out
                go_simp
                exact rfl
              simp only [Act.put, List.setIfInBounds_toArray, List.set_cons_succ, List.set_cons_zero]
              go_big_quiet_on
              go_big_quiet_want
              apply Exists.intro
              refine ⟨fun W hW => ?_, ?_⟩
              · have g0 := cell_later hW F1.out
                have g1 := cell_later hW F2.out
                have g2 := cell_later hW CZ.out
                go_simp
                exact rfl
              simp only [Act.put, List.setIfInBounds_toArray, List.set_cons_succ, List.set_cons_zero]
              go_big_quiet_on
              go_big_quiet_want
              apply Exists.intro
              refine ⟨fun W hW => ?_, ?_⟩
              · have g0 := cell_later hW F1.out
                have g1 := cell_later hW F2.out
                have g2 := cell_later hW CZ.out
                go_simp
                exact rfl
              simp only [Act.put, List.setIfInBounds_toArray, List.set_cons_succ, List.set_cons_zero]
              go_big_quiet_on
              refine wpQuiet_nil ?_
              intro W hW
              go_wp2
              go_roundw
              case rel => exact ⟨k + 1, by omega, by go_num, by rw [S.out]; exact OwU.below HOA.out hW, bthen HBA.out hW⟩
              case measure => simp [intOf]; omega
            · have S : Hid (ddP (kA (l.take (k + 1)) q) = (o' ++ [z]) ++ [s.a]) := by show _ = _; rw [S3.out, if_neg hz]
              clear S3
              have hz' : (z == s.a) = false := by simpa using hz
              go_wp2
              refine region_up (by kernel_rfl) (by kernel_rfl) ?_
              go_big_quiet_want
              apply Exists.intro
              refine ⟨fun W hW => ?_, ?_⟩
              · have g0 := cell_later hW F1.out
                have g1 := cell_later hW F2.out
                have g2 := cell_later hW CZ.out
                go_simp
                exact rfl
              simp only [Act.put, List.setIfInBounds_toArray, List.set_cons_succ, List.set_cons_zero]
              go_big_quiet_on
              go_big_quiet_want
              apply Exists.intro
              refine ⟨fun W hW => ?_, ?_⟩
              · have g0 := cell_later hW F1.out
                have g1 := cell_later hW F2.out
                have g2 := cell_later hW CZ.out
                go_simp
                exact rfl
              simp only [Act.put, List.setIfInBounds_toArray, List.set_cons_succ, List.set_cons_zero]
              go_big_quiet_on
              go_big_quiet_want
              apply Exists.intro
              refine ⟨fun W hW => ?_, ?_⟩
              · have g0 := cell_later hW F1.out
                have g1 := cell_later hW F2.out
                have g2 := cell_later hW CZ.out
                go_simp
                exact rfl
              simp only [Act.put, List.setIfInBounds_toArray, List.set_cons_succ, List.set_cons_zero]
              go_big_quiet_on
              go_big_quiet_want
              apply Exists.intro
              refine ⟨fun W hW => ?_, ?_⟩
              · have g0 := cell_later hW F1.out
                have g1 := cell_later hW F2.out
                have g2 := cell_later hW CZ.out
                go_simp
                exact rfl
              simp only [Act.put, List.setIfInBounds_toArray, List.set_cons_succ, List.set_cons_zero]
              go_big_quiet_on
              go_big_quiet_want
              apply Exists.intro
              refine ⟨fun W hW => ?_, ?_⟩
              · have g0 := cell_later hW F1.out
                have g1 := cell_later hW F2.out
                have g2 := cell_later hW CZ.out
                go_simp
                exact rfl
              simp only [Act.put, List.setIfInBounds_toArray, List.set_cons_succ, List.set_cons_zero]
              go_big_quiet_on
              go_big_quiet_want
              apply Exists.intro
              refine ⟨fun W hW => ?_, ?_⟩
              · have g0 := cell_later hW F1.out
                have g1 := cell_later hW F2.out
                have g2 := cell_later hW CZ.out
                go_simp
                exact rfl
              simp only [Act.put, List.setIfInBounds_toArray, List.set_cons_succ, List.set_cons_zero]
              go_big_quiet_on
              go_big_quiet_want
              apply Exists.intro
              refine ⟨fun W hW => ?_, ?_⟩
              · have g0 := cell_later hW F1.out
                have g1 := cell_later hW F2.out
                have g2 := cell_later hW CZ.out
                go_simp
                exact rfl
              simp only [Act.put, List.setIfInBounds_toArray, List.set_cons_succ, List.set_cons_zero]
              go_big_quiet_on
              go_big_quiet_want
              apply Exists.intro
              refine ⟨fun W hW => ?_, ?_⟩
              · have g0 := cell_later hW F1.out
                have g1 := cell_later hW F2.out
                have g2 := cell_later hW CZ.out
                go_simp
                exact rfl
              simp only [Act.put, List.setIfInBounds_toArray, List.set_cons_succ, List.set_cons_zero]
              go_big_quiet_on
              go_big_quiet_want
              apply Exists.intro
              refine ⟨fun W hW => ?_, ?_⟩
              · have g0 := cell_later hW F1.out
                have g1 := cell_later hW F2.out
                have g2 := cell_later hW CZ.out
                go_simp
                exact rfl
              simp only [Act.put, List.setIfInBounds_toArray, List.set_cons_succ, List.set_cons_zero]
              go_big_quiet_on
              go_big_quiet_want
              apply Exists.intro
              refine ⟨fun W hW => ?_, ?_⟩
              · have g0 := cell_later hW F1.out
                have g1 := cell_later hW F2.out
                have g2 := cell_later hW CZ.out
                go_simp
                exact rfl
              simp only [Act.put, List.setIfInBounds_toArray, List.set_cons_succ, List.set_cons_zero]
              go_big_quiet_on
              go_big_quiet_want
              apply Exists.intro
              refine ⟨fun W hW => ?_, ?_⟩
              · have g0 := cell_later hW F1.out
                have g1 := cell_later hW F2.out
                have g2 := cell_later hW CZ.out
                go_simp
                exact rfl
              simp only [Act.put, List.setIfInBounds_toArray, List.set_cons_succ, List.set_cons_zero]
              go_big_quiet_on
              go_big_quiet_want
              apply Exists.intro
              refine ⟨fun W hW => ?_, ?_⟩
              · have g0 := cell_later hW F1.out
                have g1 := cell_later hW F2.out
                have g2 := cell_later hW CZ.out
                go_simp
                exact rfl
              simp only [Act.put, List.setIfInBounds_toArray, List.set_cons_succ, List.set_cons_zero]
              go_big_quiet_on
              go_big_quiet_want
              apply Exists.intro
              refine ⟨fun W hW => ?_, ?_⟩
              · have g0 := cell_later hW F1.out
                have g1 := cell_later hW F2.out
                have g2 := cell_later hW CZ.out
                go_simp
                exact rfl
              simp only [Act.put, List.setIfInBounds_toArray, List.set_cons_succ, List.set_cons_zero]
              go_big_quiet_on
              go_big_quiet_want
              apply Exists.intro
              refine ⟨fun W hW => ?_, ?_⟩
              · have g0 := cell_later hW F1.out
                have g1 := cell_later hW F2.out
                have g2 := cell_later hW CZ.out
                go_simp
                exact rfl
              simp only [Act.put, List.setIfInBounds_toArray, List.set_cons_succ, List.set_cons_zero]
              go_big_quiet_on
              go_big_quiet_want
              apply Exists.intro
              refine ⟨fun W hW => ?_, ?_⟩
              · have g0 := cell_later hW F1.out
                have g1 := cell_later hW F2.out
                have g2 := cell_later hW CZ.out
                go_simp
                exact rfl
              simp only [Act.put, List.setIfInBounds_toArray, List.set_cons_succ, List.set_cons_zero]
              go_big_quiet_on
              go_big_quiet_want
              apply Exists.intro
              refine ⟨fun W hW => ?_, ?_⟩
              · have g0 := cell_later hW F1.out
                have g1 := cell_later hW F2.out
                have g2 := cell_later hW CZ.out
                go_simp
                exact rfl
              simp only [Act.put, List.setIfInBounds_toArray, List.set_cons_succ, List.set_cons_zero]
              go_big_quiet_on
              go_big_quiet_want
              apply Exists.intro
              refine ⟨fun W hW => ?_, ?_⟩
              · have g0 := cell_later hW F1.out
                have g1 := cell_later hW F2.out
                have g2 := cell_later hW CZ.out
                go_simp
                exact rfl
              simp only [Act.put, List.setIfInBounds_toArray, List.set_cons_succ, List.set_cons_zero]
              go_big_quiet_on
              go_big_quiet_want
              apply Exists.intro
              refine ⟨fun W hW => ?_, ?_⟩
              · have g0 := cell_later hW F1.out
                have g1 := cell_later hW F2.out
                have g2 := cell_later hW CZ.out
                go_simp
                exact rfl
              simp only [Act.put, List.setIfInBounds_toArray, List.set_cons_succ, List.set_cons_zero]
              go_big_quiet_on
              go_big_quiet_want
              apply Exists.intro
              refine ⟨fun W hW => ?_, ?_⟩
              · have g0 := cell_later hW F1.out
                have g1 := cell_later hW F2.out
                have g2 := cell_later hW CZ.out
                go_simp
                exact rfl
              simp only [Act.put, List.setIfInBounds_toArray, List.set_cons_succ, List.set_cons_zero]
              go_big_quiet_on
              go_big_quiet_want
              apply Exists.intro
              refine ⟨fun W hW => ?_, ?_⟩
              · have g0 := cell_later hW F1.out
                have g1 := cell_later hW F2.out
                have g2 := cell_later hW CZ.out
                go_simp
                exact rfl
              simp only [Act.put, List.setIfInBounds_toArray, List.set_cons_succ, List.set_cons_zero]
              go_big_quiet_on
              refine wpQuiet_nil ?_
              intro W hW
              have HOB : Hid (OwU (W.alloc (.cells #[.int .u64 s.a] 23)) w.heap.size (.slice (some ⟨bz, oz, none⟩) ((o' ++ [z]).length) vc) (o' ++ [z])) := World.ownsRow.alloc (own_below HOA.out hW) _
              have HBB : Hid (Below w.heap.size w (W.alloc (.cells #[.int .u64 s.a] 23))) := balloc (bthen HBA.out hW) _
              have HRX : Hid (RdU (W.alloc (.cells #[.int .u64 s.a] 23)) (some ⟨W.heap.size, 0, none⟩) [s.a]) := rdU_new W s.a
              have g1 := cell_later hW F1.out
              clear hW HOA HBA
              go_wp2_with (at_builtin; refine wpl_appU rfl (.tmp 38) (.tmp 41) rfl w.heap.size _ (o' ++ [z]) [s.a] (rfl) HOB.out (some ⟨W.heap.size, 0, none⟩) 1 rfl HRX.out ?h1 HBB.out.size ?_)
              case h1 => simp <;> omega
              intro v' w' ho' hg'
              have HO' : Hid (OwU w' w.heap.size v' (ddP (kA (l.take (k + 1)) q))) := by show OwU _ _ _ _; rw [S.out]; first | exact ho' | (rw [List.append_assoc]; exact ho')
              have HB' := Lib.hid (bownU (v := .slice (some ⟨bz, oz, none⟩) ((o' ++ [z]).length) vc) HBB.out hg' HOB.out)
              clear ho' hg'
              go_wp2
              go_roundw
              case rel => exact ⟨k + 1, by omega, by go_num, HO'.out, HB'.out⟩
              case measure => simp [intOf]; omega
      · have hkl := kA_le l q
        have HO2 : Hid (OwU wo w.heap.size (.slice vA (ddP (kA (l.take k) q)).length vc) (ddP (kA l q))) := by
          show OwU _ _ _ _
          have h := HO.out
          rw [List.take_of_length_le (by omega)] at h ⊢
          exact h
        go_wp2
        go_ret2
        rw [E.out]
        exact ⟨_, rfl, HO2.out, HB.out⟩
end Go.Proofs.Ytiapiajldchnmaa
