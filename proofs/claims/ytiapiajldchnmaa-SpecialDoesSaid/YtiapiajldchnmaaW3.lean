/- The walks of the library's searches, and of what asks whether specials are right. -/
import Derived.Test.YtiapiajldchnmaaW2
namespace Go.Proofs.Ytiapiajldchnmaa
open Go.RowKit
set_option linter.unusedVariables false
set_option linter.unusedSimpArgs false

def Enters (g : Nat) : Prop := ∀ (args : Array Value) (w : World), (callFunc g args).run Try.prog w = .ok (.enter g args) w

theorem idxP_some {l : List Sp} {p : Sp → Bool} {k : Nat} (hk : k < l.length) (hp : p l[k] = true) (hno : ∀ j, j < k → ∀ s, l[j]? = some s → p s = false) : idxP l p = k := by
  unfold idxP
  have : l.findIdx? p = some k := by
    rw [List.findIdx?_eq_some_iff_getElem]
    refine ⟨hk, hp, fun j hj => ?_⟩
    have := hno j hj l[j] (List.getElem?_eq_getElem (by omega))
    simp [this]
  rw [this]
theorem idxP_none {l : List Sp} {p : Sp → Bool} (hno : ∀ j, j < l.length → ∀ s, l[j]? = some s → p s = false) : idxP l p = -1 := by
  unfold idxP
  have : l.findIdx? p = none := by
    rw [List.findIdx?_eq_none_iff]
    intro x hx
    obtain ⟨j, hj, rfl⟩ := List.getElem_of_mem hx
    exact hno j hj _ (List.getElem?_eq_getElem hj)
  rw [this]
theorem no_more {l : List Sp} {p : Sp → Bool} {k : Nat} (hk : k < l.length) (hp : p l[k] = false) (hno : ∀ j, j < k → ∀ s, l[j]? = some s → p s = false) : ∀ j, j < k + 1 → ∀ s, l[j]? = some s → p s = false := by
  intro j hj s hs
  rcases Nat.lt_succ_iff_lt_or_eq.1 hj with h | rfl
  · exact hno j h s hs
  · rw [List.getElem?_eq_getElem hk] at hs
    cases hs
    exact hp

theorem index_any (l : List Sp) (A : Option Addr) (c : Nat) (g : Nat) (caps : Array Value) (p : Sp → Bool) (w : World) (hr : RdS w A l) (hg : Enters g)
    (hf : ∀ s ∈ l, ∀ w', Below w.heap.size w w' → Calls Try.prog g (#[s.v] ++ caps) w' (Ret (.bool (p s)) w')) :
    Calls Try.prog 36 #[.slice A l.length c, .func (.func g) #[] caps] w (Ret (.int .i64 (idxP l p)) w) := by
  have hl := hr.len
  unfold Enters at hg
  go_enter Try.func36, Try.ntmps36
  go_wp2
  go_loopw [8] (fun i wr => ∃ k : Nat, k ≤ l.length ∧ i = .int .i64 k ∧ (∀ j, j < k → ∀ s, l[j]? = some s → p s = false) ∧ Below w.heap.size w wr) (fun i _ => l.length - (intOf i).toNat)
  case atStart => exact ⟨0, Nat.zero_le _, rfl, fun j h => absurd h (by omega), Below.refl _ _⟩
  case round =>
    obtain ⟨k, hk, rfl, hno, hb⟩ := hrel
    have HR := Lib.hid hr
    clear hr
    by_cases hlt : k < l.length
    · have hs : l[k]? = some l[k] := List.getElem?_eq_getElem hlt
      obtain ⟨b, o, rfl, hB, c1, c2, c3⟩ := (HR.out.below hb).at_ hs
      have hcall := hf l[k] (List.getElem_mem _) wr hb
      have HC := Lib.hid hcall
      clear hcall hf hs
      cases hp : p l[k] with
      | true =>
        have HN := Lib.hid (idxP_some hlt hp hno)
        have HP := Lib.hid hp
        clear hp hno
        go_wp2_with (refine HC.out.mono ?_; rintro e w' ⟨rfl, hb'⟩; rw [HP.out])
        go_ret
        exact ⟨by rw [HN.out]; rfl, bthen hb hb'⟩
      | false =>
        have HN := Lib.hid (no_more hlt hp hno)
        have HP := Lib.hid hp
        clear hp hno
        go_wp2_with (refine HC.out.mono ?_; rintro e w' ⟨rfl, hb'⟩; rw [HP.out])
        go_roundw
        case rel => exact ⟨k + 1, by omega, by go_num, HN.out, bthen hb hb'⟩
        case measure => simp [intOf]; omega
    · have HN := Lib.hid (idxP_none (l := l) (p := p) (fun j hj => hno j (by omega)))
      clear hno hf
      go_wp2
      go_ret
      exact ⟨by rw [HN.out]; rfl, hb⟩

theorem idxP_any {l : List Sp} {p : Sp → Bool} : decide (0 ≤ idxP l p) = l.any p := by
  unfold idxP
  cases h : l.findIdx? p with
  | none =>
    rw [List.findIdx?_eq_none_iff] at h
    have : l.any p = false := by
      rw [List.any_eq_false]
      intro x hx
      simp [h x hx]
    rw [this]
    rfl
  | some i =>
    obtain ⟨hi, hp, _⟩ := List.findIdx?_eq_some_iff_getElem.1 h
    have : l.any p = true := List.any_eq_true.2 ⟨l[i], List.getElem_mem _, hp⟩
    rw [this]
    simp

theorem contains_any (l : List Sp) (A : Option Addr) (c : Nat) (g : Nat) (caps : Array Value) (p : Sp → Bool) (w : World) (hr : RdS w A l) (hg : Enters g)
    (hf : ∀ s ∈ l, ∀ w', Below w.heap.size w w' → Calls Try.prog g (#[s.v] ++ caps) w' (Ret (.bool (p s)) w')) :
    Calls Try.prog 40 #[.slice A l.length c, .func (.func g) #[] caps] w (Ret (.bool (l.any p)) w) := by
  have C := Lib.hid (index_any l A c g caps p w hr hg hf)
  clear hr hg hf
  have E := Lib.hid (idxP_any (l := l) (p := p))
  go_enter Try.func40, Try.ntmps40
  go_wp2_with (refine C.out.mono ?_; rintro e w' ⟨rfl, hb'⟩)
  go_ret
  exact ⟨by rw [← E.out]; rfl, hb'⟩

theorem final_any (l : List Sp) (A : Option Addr) (c : Nat) (x : Int) (w : World) (hr : RdS w A l) :
    Calls Try.prog 34 #[.slice A l.length c, .int .u64 x] w (Ret (.bool (finalP l x)) w) := by
  have C := Lib.hid (fun W h => contains_any l A c 41 #[.pointer (some ⟨w.heap.size, 0, none⟩)] (isP x 1) W h Try.call41)
  unfold finalP
  go_enter Try.func34, Try.ntmps34
  go_wp2_with fail
  have hb0 : Below w.heap.size w (w.alloc (.cells #[.int .u64 x] 23)) := balloc (Below.refl _ _) _
  refine (C.out _ (hr.below hb0) ?_).mono ?_
  · intro s _ w' hb
    exact clo41 s x ⟨w.heap.size, 0, none⟩ w' (cell_later hb (by go_simp))
  rintro e w' ⟨rfl, hb'⟩
  go_wp2
  go_ret
  exact ⟨rfl, bthen hb0 hb'⟩
end Go.Proofs.Ytiapiajldchnmaa
