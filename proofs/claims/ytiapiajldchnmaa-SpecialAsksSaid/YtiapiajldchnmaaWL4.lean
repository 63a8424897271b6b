/- The walk of the law SpecialAsks. -/
import Derived.Test.YtiapiajldchnmaaWQ
namespace Go.Proofs.Ytiapiajldchnmaa
open Go.RowKit
set_option linter.unusedVariables false
set_option linter.unusedSimpArgs false

set_option maxRecDepth 100000 in
set_option maxHeartbeats 8000000 in
theorem asks4 (l : List Sp) (A : Option Addr) (c : Nat) (q : Int) (w : World) (hr : RdS w A l) (hc : l.length ≤ c) :
    Calls Try.prog 4 #[.slice A l.length c, .int .u8 q] w (Ret (.bool true) w) := by
  have hl := hr.len
  have HR := Lib.hid hr
  clear hr
  have C18 := Lib.hid (fun W h => addrs18 l A c q W h hc)
  have C19 := Lib.hid (fun W h => addrs19 l A c q W h hc)
  have C20 := Lib.hid (fun W h => check20 l A c W h hc)
  have C21 := Lib.hid (fun W h => check21 l A c W h hc)
  generalize addrsP l q = L at *
  generalize checkP l = e at *
  go_enter Try.func4, Try.ntmps4
  go_wp2_with fail
  refine (C18.out _ HR.out).mono ?_
  intro e' w1 h1
  obtain ⟨A1, c1, rfl, -, hr1, hb1⟩ := h1.shape
  have HB1 := Lib.hid hb1
  have HR1 := Lib.hid hr1
  clear h1 hb1 hr1
  go_wp2_with fail
  refine (C19.out _ (HR.out.below HB1.out)).mono ?_
  intro e' w2 h2
  obtain ⟨A2, c2, rfl, -, hr2, hb2⟩ := h2.shape
  have HB2 := Lib.hid (bthen HB1.out hb2)
  have HR1 := Lib.hid (HR1.out.below hb2)
  have HR2 := Lib.hid hr2
  clear h2 hb2 hr2
  go_wp2_with fail
  refine (lives16 _).mono ?_
  rintro e' w3 ⟨rfl, hb3⟩
  have HB3 := Lib.hid (bthen HB2.out hb3)
  have HR1 := Lib.hid (HR1.out.below hb3)
  have HR2 := Lib.hid (HR2.out.below hb3)
  clear hb3
  go_wp2_with fail
  refine (C20.out _ (HR.out.below HB3.out)).mono ?_
  rintro e' w4 ⟨rfl, hb4⟩
  have HB4 := Lib.hid (bthen HB3.out hb4)
  have HR1 := Lib.hid (HR1.out.below hb4)
  have HR2 := Lib.hid (HR2.out.below hb4)
  clear hb4
  go_wp2_with fail
  refine (C21.out _ (HR.out.below HB4.out)).mono ?_
  rintro e' w5 ⟨rfl, hb5⟩
  have HB5 := Lib.hid (bthen HB4.out hb5)
  have HR1 := Lib.hid (HR1.out.below hb5)
  have HR2 := Lib.hid (HR2.out.below hb5)
  clear hb5
  go_wp2_with fail
  go_loopw [45] (fun i wr => ∃ k : Nat, k ≤ L.length ∧ i = .int .i64 k ∧ Hid (Below w5.heap.size w5 wr)) (fun i _ => L.length - (intOf i).toNat)
  case atStart => exact ⟨0, Nat.zero_le _, rfl, Below.refl _ _⟩
  case round =>
    obtain ⟨k, hk, rfl, HB⟩ := hrel
    obtain ⟨wo, rfl⟩ : ∃ wo : World, wo = wr := ⟨_, rfl⟩
    have hL := HR1.out.len
    by_cases hlt : k < L.length
    · have hs : L[k]? = some L[k] := List.getElem?_eq_getElem hlt
      obtain ⟨b, o, rfl, hB, c1'⟩ := (HR1.out.below HB.out).at_ hs
      obtain ⟨b', o', rfl, hB', c2'⟩ := (HR2.out.below HB.out).at_ hs
      generalize L[k] = s at *
      clear hs hB hB' C18 C19 C20 C21
      have HBD := Lib.hid HB.out.drew
      go_wp2
      go_still (by kernel_rfl)
      go_wp2
      go_roundw
      case rel => exact ⟨k + 1, by omega, by go_num, HBD.out⟩
      case measure => simp [intOf]; omega
    · go_wp2
      go_ret
      exact ⟨rfl, bthen HB5.out HB.out⟩
end Go.Proofs.Ytiapiajldchnmaa
