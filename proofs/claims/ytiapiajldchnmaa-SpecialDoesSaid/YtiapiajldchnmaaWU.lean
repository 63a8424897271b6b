/- The walk of the reference's Add. -/
import Derived.Test.YtiapiajldchnmaaWT
namespace Go.Proofs.Ytiapiajldchnmaa
open Go.RowKit
set_option linter.unusedVariables false
set_option linter.unusedSimpArgs false

theorem OwS.form {w : World} {base : Nat} {A : Option Addr} {n c : Nat} {l : List Sp} (h : OwS w base (.slice A n c) l) : (A = none ∧ c = 0 ∧ l = []) ∨ ∃ g, A = some ⟨g, 0, none⟩ := by
  rcases h.2 with ⟨h1, h2⟩ | ⟨g, cap, cur, he, _⟩
  · simp only [Value.slice.injEq] at h1
    exact .inl ⟨h1.1, h1.2.2, List.eq_nil_of_length_eq_zero h2⟩
  · simp only [Value.slice.injEq] at he
    exact .inr ⟨g, he.1⟩

set_option maxRecDepth 100000 in
set_option maxHeartbeats 8000000 in
theorem add11 (l more : List Sp) (A B : Option Addr) (c d : Nat) (w : World) (hr : RdS w A l) (hc : l.length ≤ c) (hm : RdS w B more) :
    Calls Try.prog 11 #[.slice A l.length c, .slice B more.length d] w (RetS2 (addP l more).1 (addP l more).2 w) := by
  have hl := hr.len
  have hml := hm.len
  have C20 := Lib.hid (check21 l A c w hr hc)
  have HR := Lib.hid hr
  have HM := Lib.hid hm
  clear hr hm
  cases hg : goodP l with
  | false =>
    have E : Hid (addP l more = ([], 2)) := by show _ = _; simp [addP, hg]
    rw [checkP_no hg] at C20
    rw [E.out]
    clear hg
    go_enter Try.func11, Try.ntmps11
    go_wp2_with (go_at_call 21; refine C20.out.mono ?_; rintro e w1 ⟨rfl, hb1⟩)
    go_ret2
    exact ⟨_, rfl, OwS.nil_ _ _, hb1⟩
  | true =>
    have hlen := good_len hg
    have HG0 : Hid (Good l) := (good_iff l).1 hg
    have E : Hid (addP l more = addGo l l more) := by show _ = _; simp [addP, hg]
    rw [checkP_ok hg] at C20
    rw [E.out]
    clear hg E
    go_enter Try.func11, Try.ntmps11
    go_wp2_with (go_at_call 21; refine C20.out.mono ?_; rintro e w1 ⟨rfl, hb1⟩)
    go_wp2_with (go_at_call 9; refine (copy9 l A c _ (HR.out.below hb1) (by omega)).mono ?_; rintro e w2 ⟨v2, rfl, ho2, hb2⟩)
    go_loopw [6, 18] (fun v i wr => ∃ (k : Nat) (out : List Sp), k ≤ more.length ∧ i = .int .i64 k ∧ Hid (Good out) ∧ Hid (addGo l l more = addGo l out (more.drop k)) ∧ Hid (OwS wr w.heap.size v out) ∧ Hid (Below w.heap.size w wr)) (fun _ i _ => more.length - (intOf i).toNat)
    case atStart => exact ⟨0, l, Nat.zero_le _, rfl, HG0.out, rfl, OwS.mono ho2 hb1.size, bthen hb1 hb2⟩
    case round =>
      obtain ⟨k, out, hk, rfl, HGO, HE, HO, HB⟩ := hrel
      obtain ⟨wo, rfl⟩ : ∃ wo : World, wo = wr := ⟨_, rfl⟩
      clear hb1 hb2 ho2 C20
      by_cases hlt : k < more.length
      · have hs : more[k]? = some more[k] := List.getElem?_eq_getElem hlt
        obtain ⟨b, o, rfl, hB, c1, c2, c3⟩ := (HM.out.below HB.out).at_ hs
        have STEP := Lib.hid (addGo_step (l := l) (out := out) hlt)
        have STOP := Lib.hid (addGo_stop (l := l) (out := out) hlt)
        generalize more[k] = s at *
        clear hs
        obtain ⟨vA, vc, hv, hvc, hvr⟩ := HO.out.shape
        subst hv
        have hform := HO.out.form
        have HBA : Hid (Below w.heap.size w (wo.alloc (.cells #[.int .u64 s.a, .int .u8 s.k, .int .u64 s.t] 41))) := balloc HB.out _
        have PUT := Lib.hid (add24 out vA vc s _ (hvr.below (balloc (Below.refl _ wo) (Obj.cells #[.int .u64 s.a, .int .u8 s.k, .int .u64 s.t] 41))) hvc HGO.out hform)
        clear hform hvr
        cases hz : putE out s == 0 with
        | true =>
          have hz' : putE out s = 0 := by simpa using hz
          have S := Lib.hid (STEP.out hz')
          have HG2 := Lib.hid (good_put HGO.out hz').1
          have PUT : Hid (Calls Try.prog 24 #[.slice vA out.length vc, s.v] (wo.alloc (.cells #[.int .u64 s.a, .int .u8 s.k, .int .u64 s.t] 41)) (fun e w' => ∃ v, e = .returned (.tuple #[v, .int .i64 0]) ∧ OwS w' w.heap.size v (putL out s) ∧ Below (wo.alloc (.cells #[.int .u64 s.a, .int .u8 s.k, .int .u64 s.t] 41)).heap.size (wo.alloc (.cells #[.int .u64 s.a, .int .u8 s.k, .int .u64 s.t] 41)) w')) := by
            refine PUT.out.mono fun e w' h => ?_
            obtain ⟨v, rfl, h1, h2⟩ := h
            exact ⟨v, by rw [hz'], (h1 hz').mono HBA.out.size, h2⟩
          clear hz hz' STEP STOP
          go_wp2_with (go_at_call 24; refine PUT.out.mono ?_; rintro e w3 ⟨v3, rfl, ho3, hb3⟩)
          have HB3 := Lib.hid (bthen HBA.out hb3)
          have HO3 := Lib.hid ho3
          clear ho3 hb3
          go_wp2
          go_roundw
          case rel => exact ⟨k + 1, putL out s, by omega, by go_num, HG2.out, HE.out.trans S.out, HO3.out, HB3.out⟩
          case measure => simp [intOf]; omega
        | false =>
          have hz' : putE out s ≠ 0 := by simpa using hz
          have S := Lib.hid (STOP.out hz')
          have hz2 : (putE out s != 0) = true := by simpa using hz
          have PUT : Hid (Calls Try.prog 24 #[.slice vA out.length vc, s.v] (wo.alloc (.cells #[.int .u64 s.a, .int .u8 s.k, .int .u64 s.t] 41)) (fun e w' => ∃ v, e = .returned (.tuple #[v, .int .i64 (putE out s)]) ∧ Below (wo.alloc (.cells #[.int .u64 s.a, .int .u8 s.k, .int .u64 s.t] 41)).heap.size (wo.alloc (.cells #[.int .u64 s.a, .int .u8 s.k, .int .u64 s.t] 41)) w')) := by
            refine PUT.out.mono fun e w' h => ?_
            obtain ⟨v, rfl, h1, h2⟩ := h
            exact ⟨v, rfl, h2⟩
          generalize putE out s = pe at *
          clear hz hz' STEP STOP
          go_wp2_with (first
            | (go_at_call 24; refine PUT.out.mono ?_; rintro e w3 ⟨v3, rfl, hb3⟩; have HB3 := Lib.hid (bthen HBA.out hb3); clear hb3)
            | (go_at_call 9; refine (copy9 l A c _ (HR.out.below HB3.out) (by omega)).mono ?_; rintro e w4 ⟨v4, rfl, ho4, hb4⟩))
          go_ret2
          rw [HE.out, S.out]
          exact ⟨_, rfl, ho4.mono HB3.out.size, bthen HB3.out hb4⟩
      · have hke : k = more.length := by omega
        have S : Hid (addGo l l more = (out, 0)) := by show _ = _; rw [HE.out, List.drop_of_length_le (by omega)]; rfl
        go_wp2
        go_ret2
        rw [S.out]
        exact ⟨_, rfl, HO.out, HB.out⟩
end Go.Proofs.Ytiapiajldchnmaa
