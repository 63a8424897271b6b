/- The walks of Add: the program's and the reference's. -/
import Derived.Test.YtiapiajldchnmaaWB
namespace Go.Proofs.Ytiapiajldchnmaa
open Go.RowKit
set_option linter.unusedVariables false
set_option linter.unusedSimpArgs false

def addGo (l : List Sp) : List Sp → List Sp → List Sp × Int
  | out, [] => (out, 0)
  | out, s :: r => if putE out s = 0 then addGo l (putL out s) r else (l, putE out s)
def addP (l more : List Sp) : List Sp × Int := if goodP l then addGo l l more else ([], 2)
theorem addGo_step {l out more : List Sp} {k : Nat} (hk : k < more.length) (h : putE out more[k] = 0) : addGo l out (more.drop k) = addGo l (putL out more[k]) (more.drop (k + 1)) := by
  rw [List.drop_eq_getElem_cons hk, addGo, if_pos h]
theorem addGo_stop {l out more : List Sp} {k : Nat} (hk : k < more.length) (h : putE out more[k] ≠ 0) : addGo l out (more.drop k) = (l, putE out more[k]) := by
  rw [List.drop_eq_getElem_cons hk, addGo, if_neg h]
theorem putL_len {l : List Sp} {s : Sp} (h : l.length ≤ 64) : (putL l s).length ≤ 64 := by
  unfold putL
  split
  · exact h
  · split
    · exact h
    · split
      · exact h
      · rw [insP_len _ _ _ (idxE_le l s)]; omega
theorem putE_or (l : List Sp) (s : Sp) : putE l s = 0 ∨ putE l s = 2 ∨ putE l s = 4 ∨ putE l s = 6 := by
  unfold putE
  split
  · simp
  · split
    · simp
    · split <;> simp

set_option maxHeartbeats 2000000 in
theorem add10 (l more : List Sp) (A B : Option Addr) (c d : Nat) (w : World) (hr : RdS w A l) (hc : l.length ≤ c) (hm : RdS w B more) :
    Calls Try.prog 10 #[.slice A l.length c, .slice B more.length d] w (RetS2 (addP l more).1 (addP l more).2 w) := by
  have hl := hr.len
  have hml := hm.len
  have C20 := Lib.hid (check20 l A c w hr hc)
  have HR := Lib.hid hr
  have HM := Lib.hid hm
  clear hr hm
  cases hg : goodP l with
  | false =>
    have E : Hid (addP l more = ([], 2)) := by show _ = _; simp [addP, hg]
    rw [checkP_no hg] at C20
    rw [E.out]
    clear hg
    go_enter Try.func10, Try.ntmps10
    go_wp2_with (go_at_call 20; refine C20.out.mono ?_; rintro e w1 ⟨rfl, hb1⟩)
    go_ret2
    exact ⟨_, rfl, OwS.nil_ _ _, hb1⟩
  | true =>
    have hlen := good_len hg
    have E : Hid (addP l more = addGo l l more) := by show _ = _; simp [addP, hg]
    rw [checkP_ok hg] at C20
    rw [E.out]
    clear hg E
    go_enter Try.func10, Try.ntmps10
    go_wp2_with (first
      | (go_at_call 20; refine C20.out.mono ?_; rintro e w1 ⟨rfl, hb1⟩)
      | (go_at_call 22; refine (clone22 l A c _ (HR.out.below hb1) (by omega)).mono ?_; rintro e w2 ⟨v2, rfl, ho2, hb2⟩))
    go_loopw [7, 20] (fun v i wr => ∃ (k : Nat) (out : List Sp), k ≤ more.length ∧ i = .int .i64 k ∧ out.length ≤ 64 ∧ Hid (addGo l l more = addGo l out (more.drop k)) ∧ Hid (OwS wr w.heap.size v out) ∧ Hid (Below w.heap.size w wr)) (fun _ i _ => more.length - (intOf i).toNat)
    case atStart => exact ⟨0, l, Nat.zero_le _, rfl, hlen, rfl, OwS.mono ho2 hb1.size, bthen hb1 hb2⟩
    case round =>
      obtain ⟨k, out, hk, rfl, ho64, HE, HO, HB⟩ := hrel
      obtain ⟨wo, rfl⟩ : ∃ wo : World, wo = wr := ⟨_, rfl⟩
      clear hb1 hb2 ho2 C20
      by_cases hlt : k < more.length
      · have hs : more[k]? = some more[k] := List.getElem?_eq_getElem hlt
        obtain ⟨b, o, rfl, hB, c1, c2, c3⟩ := (HM.out.below HB.out).at_ hs
        have STEP := Lib.hid (addGo_step (l := l) (out := out) hlt)
        have STOP := Lib.hid (addGo_stop (l := l) (out := out) hlt)
        generalize more[k] = s at *
        clear hs
        obtain ⟨vA, vc, hv, _, _⟩ := HO.out.shape
        subst hv
        have HOA : Hid (OwS (wo.alloc (.cells #[.int .u64 s.a, .int .u8 s.k, .int .u64 s.t] 41)) w.heap.size (.slice vA out.length vc) out) := World.ownsRow.alloc HO.out _
        have HBA : Hid (Below w.heap.size w (wo.alloc (.cells #[.int .u64 s.a, .int .u8 s.k, .int .u64 s.t] 41))) := balloc HB.out _
        have PUT := Lib.hid (put23 out (.slice vA out.length vc) w.heap.size s _ HOA.out HBA.out.size ho64)
        cases hz : putE out s == 0 with
        | true =>
          have hz' : putE out s = 0 := by simpa using hz
          have S := Lib.hid (STEP.out hz')
          have L64 := Lib.hid (putL_len (s := s) ho64)
          rw [hz'] at PUT
          clear hz hz' STEP STOP
          go_wp2_with (go_at_call 23; refine PUT.out.mono ?_; rintro e w3 ⟨v3, rfl, ho3, hg3⟩)
          have HB3 := Lib.hid (bown HBA.out hg3 HOA.out)
          have HO3 := Lib.hid ho3
          clear ho3 hg3
          go_roundw
          case rel => exact ⟨k + 1, putL out s, by omega, by go_num, L64.out, HE.out.trans S.out, HO3.out, HB3.out⟩
          case measure => simp [intOf]; omega
        | false =>
          have hz' : putE out s ≠ 0 := by simpa using hz
          have S := Lib.hid (STOP.out hz')
          have hz2 : (putE out s == 0) = false := hz
          clear hz hz' STEP STOP
          generalize putE out s = pe at *
          go_wp2_with (first
            | (go_at_call 23; refine PUT.out.mono ?_; rintro e w3 ⟨v3, rfl, ho3, hg3⟩; have HB3 := Lib.hid (bown HBA.out hg3 HOA.out); clear ho3 hg3)
            | (go_at_call 22; refine (clone22 l A c _ (HR.out.below HB3.out) (by omega)).mono ?_; rintro e w4 ⟨v4, rfl, ho4, hb4⟩))
          go_ret2
          rw [HE.out, S.out]
          exact ⟨_, rfl, OwS.mono ho4 HB3.out.size, bthen HB3.out hb4⟩
      · have HE2 : Hid (addGo l l more = (out, 0)) := by
          show _ = _
          rw [HE.out, List.drop_eq_nil_of_le (by omega)]
          rfl
        clear HE
        go_wp2
        go_ret2
        rw [HE2.out]
        exact ⟨_, rfl, HO.out, HB.out⟩
end Go.Proofs.Ytiapiajldchnmaa
