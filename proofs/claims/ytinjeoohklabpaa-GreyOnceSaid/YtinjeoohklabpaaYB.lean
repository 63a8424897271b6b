/- The walks of Contains, ContainsFunc and of the function that put hands in. -/
import Derived.Test.YtinjeoohklabpaaYA
namespace Go.Proofs.Ytinjeoohklabpaa
open Go.RowKit
set_option linter.unusedVariables false
set_option linter.unusedSimpArgs false

def Enters (g : Nat) : Prop := ∀ (args : Array Value) (w : World), (callFunc g args).run Try.prog w = .ok (.enter g args) w
def idxP {α : Type} (l : List α) (p : α → Bool) : Int := match l.findIdx? p with | some i => (i : Int) | none => -1
theorem idxP_some {α : Type} {l : List α} {p : α → Bool} {k : Nat} {x : α} (hk : l[k]? = some x) (hp : p x = true) (hno : ∀ (j : Nat), j < k → ∀ s, l[j]? = some s → p s = false) : idxP l p = k := by
  unfold idxP
  obtain ⟨hkl, rfl⟩ := List.getElem?_eq_some_iff.1 hk
  have : l.findIdx? p = some k := by
    rw [List.findIdx?_eq_some_iff_getElem]
    refine ⟨hkl, hp, fun j hj => ?_⟩
    have := hno j hj l[j] (List.getElem?_eq_getElem (by omega))
    simp [this]
  rw [this]
theorem idxP_none {α : Type} {l : List α} {p : α → Bool} (hno : ∀ (j : Nat), j < l.length → ∀ s, l[j]? = some s → p s = false) : idxP l p = -1 := by
  unfold idxP
  have : l.findIdx? p = none := by
    rw [List.findIdx?_eq_none_iff]
    intro x hx
    obtain ⟨j, hj, rfl⟩ := List.getElem_of_mem hx
    exact hno j hj _ (List.getElem?_eq_getElem hj)
  rw [this]
theorem no_more {α : Type} {l : List α} {p : α → Bool} {k : Nat} {x : α} (hk : l[k]? = some x) (hp : p x = false) (hno : ∀ (j : Nat), j < k → ∀ s, l[j]? = some s → p s = false) : ∀ (j : Nat), j < k + 1 → ∀ s, l[j]? = some s → p s = false := by
  intro j hj s hs
  rcases Nat.lt_succ_iff_lt_or_eq.1 hj with h | rfl
  · exact hno j h s hs
  · rw [hk] at hs
    cases hs
    exact hp
theorem idxP_any {α : Type} {l : List α} {p : α → Bool} : decide (0 ≤ idxP l p) = l.any p := by
  unfold idxP
  cases h : l.findIdx? p with
  | none =>
    rw [List.findIdx?_eq_none_iff] at h
    have : l.any p = false := by
      rw [List.any_eq_false]
      intro x hx
      simp [h x hx]
    rw [this]
    rfl
  | some i =>
    obtain ⟨hi, hp, _⟩ := List.findIdx?_eq_some_iff_getElem.1 h
    have : l.any p = true := List.any_eq_true.2 ⟨l[i], List.getElem_mem _, hp⟩
    rw [this]
    simp

def isW (a : Int) (x : Int) : Bool := x == a
set_option maxHeartbeats 4000000 in
theorem indexU (s : List Int) (A : Option Addr) (c : Nat) (a : Int) (w : World) (hr : RdU w A s) :
    Calls Try.prog 41 #[.slice A s.length c, .int .u64 a] w (Ret (.int .i64 (idxP s (isW a))) w) := by
  have hl := hr.len
  have HR := Lib.hid hr
  clear hr
  go_enter Try.func41, Try.ntmps41
  go_wp2
  go_loopw [8] (fun i wr => ∃ k : Nat, k ≤ s.length ∧ i = .int .i64 k ∧ Hid (∀ (j : Nat), j < k → ∀ x, s[j]? = some x → isW a x = false) ∧ Hid (Below w.heap.size w wr)) (fun i _ => s.length - (intOf i).toNat)
  case atStart => exact ⟨0, Nat.zero_le _, rfl, fun j h => absurd h (by omega), Below.refl _ _⟩
  case round =>
    obtain ⟨k, hk, rfl, HNO, HB⟩ := hrel
    by_cases hlt : k < s.length
    · have hs : s[k]? = some s[k] := List.getElem?_eq_getElem hlt
      generalize s[k] = x at hs
      obtain ⟨b, o, e, _, c0⟩ := HR.out.at_ hs
      subst e
      have c0 := cell_later HB.out c0
      have HS := Lib.hid hs
      clear hs
      by_cases hx : x = a
      · have e1 : (x == a) = true := by simp [hx]
        have e2 : (a == x) = true := by simp [hx]
        have E : Hid (idxP s (isW a) = k) := idxP_some HS.out e1 HNO.out
        clear hx
        go_wp2
        go_ret
        exact ⟨by rw [E.out]; rfl, HB.out⟩
      · have e1 : (x == a) = false := by simp [hx]
        have e2 : (a == x) = false := by simp; exact fun e => hx e.symm
        have HN := Lib.hid (no_more (p := isW a) HS.out e1 HNO.out)
        clear hx
        go_wp2
        go_roundw
        case rel => exact ⟨k + 1, by omega, by go_num, HN.out, HB.out⟩
        case measure => simp [intOf]; omega
    · have E : Hid (idxP s (isW a) = -1) := idxP_none (l := s) (p := isW a) (fun j hj => HNO.out j (by omega))
      go_wp2
      go_ret
      exact ⟨by rw [E.out]; rfl, HB.out⟩
theorem containsU (s : List Int) (A : Option Addr) (c : Nat) (a : Int) (w : World) (hr : RdU w A s) :
    Calls Try.prog 36 #[.slice A s.length c, .int .u64 a] w (Ret (.bool (s.any (isW a))) w) := by
  have C := Lib.hid (indexU s A c a w hr)
  have hl := hr.len
  clear hr
  have E := Lib.hid (idxP_any (l := s) (p := isW a))
  go_enter Try.func36, Try.ntmps36
  go_wp2_with (go_at_call 41; refine C.out.mono ?_; rintro e w' ⟨rfl, hb'⟩)
  go_ret
  exact ⟨by rw [← E.out]; rfl, hb'⟩
theorem cloU (s : List Int) (A : Option Addr) (c : Nat) (a : Int) (b : Nat) (w : World) (hr : RdU w A s) (hb : w.cell? ⟨b, 0, none⟩ = some (.int .u64 a)) :
    Calls Try.prog 35 #[.slice A s.length c, .pointer (some ⟨b, 0, none⟩)] w (Ret (.bool (s.any (isW a))) w) := by
  have C := Lib.hid (containsU s A c a w hr)
  have hl := hr.len
  clear hr
  go_enter Try.func35, Try.ntmps35
  go_wp2_with (go_at_call 36; refine C.out.mono ?_; rintro e w' ⟨rfl, hb'⟩)
  go_ret
  exact ⟨rfl, hb'⟩
set_option maxHeartbeats 4000000 in
theorem indexF (A : Option Addr) (c : Nat) (vs : List QV) (l : List (List Int)) (g : Nat) (caps : Array Value) (p : List Int → Bool) (w : World) (hr : RdQ w A vs l) (hg : Enters g)
    (hf : ∀ (i : Nat) v s, vs[i]? = some v → l[i]? = some s → ∀ w', Below w.heap.size w w' → Calls Try.prog g (#[.slice v.A s.length v.c] ++ caps) w' (Ret (.bool (p s)) w')) :
    Calls Try.prog 40 #[.slice A l.length c, .func (.func g) #[] caps] w (Ret (.int .i64 (idxP l p)) w) := by
  have hl := hr.len
  have HR := Lib.hid hr
  have HF := Lib.hid hf
  clear hr hf
  unfold Enters at hg
  go_enter Try.func40, Try.ntmps40
  go_wp2
  go_loopw [8] (fun i wr => ∃ k : Nat, k ≤ l.length ∧ i = .int .i64 k ∧ Hid (∀ (j : Nat), j < k → ∀ s, l[j]? = some s → p s = false) ∧ Hid (Below w.heap.size w wr)) (fun i _ => l.length - (intOf i).toNat)
  case atStart => exact ⟨0, Nat.zero_le _, rfl, fun j h => absurd h (by omega), Below.refl _ _⟩
  case round =>
    obtain ⟨k, hk, rfl, HNO, HB⟩ := hrel
    by_cases hlt : k < l.length
    · have hs : l[k]? = some l[k] := List.getElem?_eq_getElem hlt
      generalize l[k] = s at hs
      obtain ⟨v, b, o, hv, e, _, c0, hR⟩ := HR.out.at_ hs
      subst e
      have c0 := cell_later HB.out c0
      have hsl := hR.len
      have HC := Lib.hid (HF.out k v s hv hs wr HB.out)
      obtain ⟨v1, v2, v3⟩ := v
      simp only at c0 HC
      have HS := Lib.hid hs
      clear hs hv hR
      cases hp : p s with
      | true =>
        have HN := Lib.hid (idxP_some HS.out hp HNO.out)
        have HP := Lib.hid hp
        clear hp
        go_wp2_with (refine HC.out.mono ?_; rintro e w' ⟨rfl, hb'⟩; rw [HP.out])
        go_ret
        exact ⟨by rw [HN.out]; rfl, bthen HB.out hb'⟩
      | false =>
        have HN := Lib.hid (no_more HS.out hp HNO.out)
        have HP := Lib.hid hp
        clear hp
        go_wp2_with (refine HC.out.mono ?_; rintro e w' ⟨rfl, hb'⟩; rw [HP.out])
        go_roundw
        case rel => exact ⟨k + 1, by omega, by go_num, HN.out, bthen HB.out hb'⟩
        case measure => simp [intOf]; omega
    · have HN := Lib.hid (idxP_none (l := l) (p := p) (fun j hj => HNO.out j (by omega)))
      go_wp2
      go_ret
      exact ⟨by rw [HN.out]; rfl, HB.out⟩
theorem containsF (A : Option Addr) (c : Nat) (vs : List QV) (l : List (List Int)) (g : Nat) (caps : Array Value) (p : List Int → Bool) (w : World) (hr : RdQ w A vs l) (hg : Enters g)
    (hf : ∀ (i : Nat) v s, vs[i]? = some v → l[i]? = some s → ∀ w', Below w.heap.size w w' → Calls Try.prog g (#[.slice v.A s.length v.c] ++ caps) w' (Ret (.bool (p s)) w')) :
    Calls Try.prog 34 #[.slice A l.length c, .func (.func g) #[] caps] w (Ret (.bool (l.any p)) w) := by
  have C := Lib.hid (indexF A c vs l g caps p w hr hg hf)
  have hl := hr.len
  clear hr hg hf
  have E := Lib.hid (idxP_any (l := l) (p := p))
  go_enter Try.func34, Try.ntmps34
  go_wp2_with (go_at_call 40; refine C.out.mono ?_; rintro e w' ⟨rfl, hb'⟩)
  go_ret
  exact ⟨by rw [← E.out]; rfl, hb'⟩
def inQ (l : List (List Int)) (a : Int) : Bool := l.any (fun s => s.any (isW a))
theorem inQ_has (l : List (List Int)) (a : Int) : inQ l a = decide (0 < hasN l a) := by
  rw [hasN_count]
  unfold inQ
  rw [Bool.eq_iff_iff]
  simp only [List.any_eq_true, decide_eq_true_eq, List.count_pos_iff, List.mem_flatten, isW, beq_iff_eq]
  refine ⟨fun ⟨s, hs, x, hx, e⟩ => ⟨s, hs, e ▸ hx⟩, fun ⟨s, hs, hx⟩ => ⟨s, hs, a, hx, rfl⟩⟩
theorem findQ (A : Option Addr) (c : Nat) (vs : List QV) (l : List (List Int)) (a : Int) (b : Nat) (w : World) (hr : RdQ w A vs l) (hb : w.cell? ⟨b, 0, none⟩ = some (.int .u64 a)) :
    Calls Try.prog 34 #[.slice A l.length c, .func (.func 35) #[] #[.pointer (some ⟨b, 0, none⟩)]] w (Ret (.bool (inQ l a)) w) :=
  containsF A c vs l 35 #[.pointer (some ⟨b, 0, none⟩)] (fun s => s.any (isW a)) w hr Try.call35 (fun i v s hv hs w' hw' => by
    have hE := hr.2.2 i v s hv hs
    exact cloU s v.A v.c a b w' (hE.row.below hw') (cell_later hw' hb))
end Go.Proofs.Ytinjeoohklabpaa
