/- The walks of the two Check. -/
import Derived.Test.YtinjeoohklabpaaY7
namespace Go.Proofs.Ytinjeoohklabpaa
open Go.RowKit
set_option linter.unusedVariables false
set_option linter.unusedSimpArgs false

def fitQ (l : List (List Int)) : Prop := 1 ≤ l.length ∧ l.length ≤ 4 ∧ manyN l ≤ 16384
instance (l : List (List Int)) : Decidable (fitQ l) := by unfold fitQ; infer_instance
def okQ (l : List (List Int)) : Prop := fitQ l ∧ l.flatten.Nodup ∧ 0 ∉ l.flatten
instance (l : List (List Int)) : Decidable (okQ l) := by unfold okQ; infer_instance
def chkE (l : List (List Int)) : Int := if okQ l then 0 else 2
def WdQ (l : List (List Int)) : Prop := ∀ x ∈ l.flatten, 0 ≤ x ∧ x < 18446744073709551616
theorem flat_many (l : List (List Int)) : l.flatten.length = manyN l := by simp [manyN, List.length_flatten]
theorem chk_unfit {l : List (List Int)} (h : ¬ fitQ l) : chkE l = 2 := by unfold chkE; rw [if_neg (fun h' => h h'.1)]
theorem ddGo_len (l : List Int) : ∀ p, (ddGo p l).length ≤ l.length := by
  induction l with
  | nil => intro p; simp [ddGo]
  | cons y r ih =>
    intro p
    simp only [ddGo]
    split
    · have := ih p; simp only [List.length_cons]; omega
    · have := ih y; simp only [List.length_cons]; omega
theorem ddGo_nodup (l : List Int) : ∀ p, (p :: l).Pairwise (· ≤ ·) → ((ddGo p l).length = l.length ↔ (p :: l).Nodup) := by
  induction l with
  | nil => intro p _; simp [ddGo]
  | cons y r ih =>
    intro p hs
    simp only [ddGo]
    by_cases h : y = p
    · rw [if_pos h]
      have := ddGo_len r p
      refine ⟨fun e => by simp only [List.length_cons] at e; omega, fun e => ?_⟩
      subst h
      simp at e
    · rw [if_neg h]
      have h2 := ih y (List.pairwise_cons.1 hs).2
      simp only [List.length_cons, Nat.add_right_cancel_iff]
      rw [h2]
      refine ⟨fun e => List.nodup_cons.2 ⟨fun hm => ?_, e⟩, fun e => (List.nodup_cons.1 e).2⟩
      have h3 := (List.pairwise_cons.1 hs).1 y (List.mem_cons_self)
      rcases List.mem_cons.1 hm with e2 | e2
      · exact h e2.symm
      · have h4 := (List.pairwise_cons.1 (List.pairwise_cons.1 hs).2).1 p e2
        omega
theorem ddP_nodup {l : List Int} (hs : l.Pairwise (· ≤ ·)) : (ddP l).length < l.length ↔ ¬ l.Nodup := by
  cases l with
  | nil => simp [ddP]
  | cons x r =>
    have h1 := ddGo_nodup r x hs
    have h2 := ddGo_len r x
    rw [← h1]
    simp only [ddP, List.length_cons]
    omega
theorem min_zero {l : List Int} {x : Int} (hs : l.Pairwise (· ≤ ·)) (hw : ∀ y ∈ l, 0 ≤ y) (h : l[0]? = some x) : x = 0 ↔ 0 ∈ l := by
  cases l with
  | nil => simp at h
  | cons y r =>
    simp at h
    subst h
    refine ⟨fun e => by rw [e]; simp, fun e => ?_⟩
    rcases List.mem_cons.1 e with e | e
    · exact e.symm
    · have h1 := (List.pairwise_cons.1 hs).1 0 e
      have h2 := hw y (List.mem_cons_self)
      omega

set_option maxRecDepth 100000 in
set_option maxHeartbeats 8000000 in
theorem checkG (A : Option Addr) (c : Nat) (vs : List QV) (l : List (List Int)) (w : World) (ha : RdQ w A vs l) (hw : WdQ l) :
    Calls Try.prog 20 #[.agg #[.slice A l.length c]] w (Ret (.int .i64 (chkE l)) w) := by
  have hl := ha.len
  by_cases h1 : l.length < 1
  · have E := Lib.hid (chk_unfit (l := l) (fun h => by have := h.1; omega))
    have HB := Lib.hid (balloc (Below.refl w.heap.size w) (.cells #[.slice A l.length c] 24))
    have h2 : (l.length : Int) < 1 := by omega
    go_enter Try.func20, Try.ntmps20
    go_wp2
    go_ret
    exact ⟨by rw [E.out]; rfl, HB.out⟩
  by_cases h4 : 4 < l.length
  · have E := Lib.hid (chk_unfit (l := l) (fun h => by have := h.2.1; omega))
    have HB := Lib.hid (balloc (Below.refl w.heap.size w) (.cells #[.slice A l.length c] 24))
    have h2 : ¬ (l.length : Int) < 1 := by omega
    have h3 : (4 : Int) < (l.length : Int) := by omega
    go_enter Try.func20, Try.ntmps20
    go_wp2
    go_ret
    exact ⟨by rw [E.out]; rfl, HB.out⟩
  have g1 : ¬ (l.length : Int) < 1 := by omega
  have g2 : ¬ (4 : Int) < (l.length : Int) := by omega
  obtain ⟨fl, hfe⟩ : ∃ fl, fl = l.flatten := ⟨_, rfl⟩
  have HFE := Lib.hid hfe
  have HN : Hid (1 ≤ l.length ∧ l.length ≤ 4) := ⟨by omega, by omega⟩
  have HW := Lib.hid hw
  have HB0 := Lib.hid (balloc (balloc (Below.refl w.heap.size w) (.cells #[.slice A l.length c] 24)) (.cells #[.slice A l.length c] 48))
  have CM : Hid (Calls Try.prog 28 #[.pointer (some ⟨w.heap.size + 1, 0, none⟩)] ((w.alloc (.cells #[.slice A l.length c] 24)).alloc (.cells #[.slice A l.length c] 48)) (ManyP l ((w.alloc (.cells #[.slice A l.length c] 24)).alloc (.cells #[.slice A l.length c] 48)))) :=
    manyC A (w.heap.size + 1) c vs l _ (ha.below HB0.out) (by show _ = _; go_simp)
  have CC : Hid (manyN l ≤ 16384 → ∀ W, Below w.heap.size w W → Calls Try.prog 29 #[.slice A l.length c] W (RetU fl W)) := fun hm W hW => by rw [hfe]; exact concatQ A c vs l W (ha.below hW) (by omega)
  have F0 : Hid (((w.alloc (.cells #[.slice A l.length c] 24)).alloc (.cells #[.slice A l.length c] 48)).cell? ⟨w.heap.size, 0, none⟩ = some (.slice A l.length c)) := by show _ = _; go_simp
  clear ha hw h1 h4 hfe
  go_enter Try.func20, Try.ntmps20
  go_wp2_with (go_at_call 28; refine CM.out.mono ?_)
  rintro e w1 ⟨n, hn1, hn2, hn3, rfl, hb1⟩
  have HB1 := Lib.hid (bthen HB0.out hb1)
  have f1 := cell_later hb1 F0.out
  clear hb1
  by_cases hn : 16384 < n
  · have E : Hid (chkE l = 2) := chk_unfit (fun h => by have := hn1 h.2.2; have := h.2.2; omega)
    clear hn1 hn2
    go_wp2
    go_ret
    exact ⟨by rw [E.out]; rfl, HB1.out⟩
  have hmany : manyN l ≤ 16384 := by
    rcases Nat.lt_or_ge 16384 (manyN l) with h | h
    · exact absurd (hn2 h) hn
    · exact h
  have HM := Lib.hid hmany
  have CC2 := Lib.hid (CC.out hmany)
  clear hn1 hn2 hmany CC
  go_wp2_with (go_at_call 29; refine (CC2.out _ HB1.out).mono ?_)
  rintro e w2 ⟨v, rfl, ho, hb2⟩
  have HB2 := Lib.hid (bthen HB1.out hb2)
  obtain ⟨A2, c2, rfl, hcs⟩ := sortU fl v _ w2 ho (by rw [HFE.out, flat_many]; have := HM.out; omega)
  have CS := Lib.hid hcs
  have HO := Lib.hid (World.ownsRow.lt ho)
  clear ho hb2 hcs
  have hfl : fl.length ≤ 16384 := by rw [HFE.out, flat_many]; exact HM.out
  go_wp2_with (go_at_call 30; refine CS.out.mono ?_)
  rintro e w3 ⟨l', rfl, hlen, hr, hg, hp, hs⟩
  have HB3 := Lib.hid (bgrown HB2.out hg (fun k hk => by have := (HO.out k hk).1; have := HB1.out.size; omega))
  have CU : Hid (Calls Try.prog 32 #[.slice A2 fl.length c2] w3 (RetU l' w3)) := by
    show Calls _ _ _ _ _
    have := cloneU l' A2 c2 w3 hr (by omega)
    rwa [hlen] at this
  have HR := Lib.hid hr
  have HS := Lib.hid hs
  have HP := Lib.hid hp
  have HL := Lib.hid hlen
  clear hr hg hs hp hlen
  go_wp2_with (go_at_call 32; refine CU.out.mono ?_)
  rintro e w4 ⟨v4, rfl, ho4, hb4⟩
  have CP := Lib.hid (compact29 l' v4 w3.heap.size w4 ho4 hb4.size (by rw [HL.out]; omega))
  have HO4 := Lib.hid (World.ownsRow.lt ho4)
  have HB4 := Lib.hid hb4
  clear ho4 hb4
  go_wp2_with (go_at_call 31; refine CP.out.mono ?_)
  rintro e w5 ⟨v5, rfl, ho5, hg5⟩
  have HB5 := Lib.hid (bgrown HB4.out hg5 (fun k hk => (HO4.out k hk).1))
  obtain ⟨A5, c5, rfl, _, _⟩ := ho5.shape
  have hdl : (ddP l').length ≤ 16384 := by
    have h1 : (ddP l').length ≤ l'.length := by
      cases l' with
      | nil => simp [ddP]
      | cons x r => have := ddGo_len r x; simp only [ddP, List.length_cons]; omega
    rw [HL.out] at h1
    omega
  clear ho5 hg5
  have HET : Hid ((¬ fl.Nodup ∨ 0 ∈ fl) → chkE l = 2) := fun h => by
    unfold chkE
    rw [HFE.out] at h
    exact if_neg (fun h' => by rcases h with h | h; exact h h'.2.1; exact h'.2.2 h)
  have HEF : Hid (fl.Nodup → 0 ∉ fl → chkE l = 0) := fun h h' => by
    unfold chkE
    rw [HFE.out] at h h'
    exact if_pos ⟨⟨HN.out.1, HN.out.2, HM.out⟩, h, h'⟩
  have HND : Hid ((ddP l').length < fl.length ↔ ¬ fl.Nodup) := by
    show _ ↔ _
    rw [← HL.out, ddP_nodup HS.out, HP.out.nodup_iff]
  by_cases hd : (ddP l').length < fl.length
  · have E : Hid (chkE l = 2) := HET.out (.inl (HND.out.1 hd))
    have hd1 : ((ddP l').length : Int) < (fl.length : Int) := by omega
    go_wp2
    go_ret
    exact ⟨by rw [E.out]; rfl, bthen HB3.out HB5.out⟩
  · have hd1 : ¬ ((ddP l').length : Int) < (fl.length : Int) := by omega
    have HN2 : Hid (fl.Nodup) := Classical.not_not.1 (fun h => hd (HND.out.2 h))
    rcases Nat.eq_zero_or_pos fl.length with h0 | h0
    · have hnil := List.eq_nil_of_length_eq_zero h0
      have E : Hid (chkE l = 0) := HEF.out HN2.out (by rw [hnil]; simp)
      have h00 : ¬ (0 : Int) < (fl.length : Int) := by omega
      go_wp2
      go_ret
      exact ⟨by rw [E.out]; rfl, bthen HB3.out HB5.out⟩
    · have hx : l'[0]? = some (l'[0]'(by rw [HL.out]; exact h0)) := List.getElem?_eq_getElem _
      generalize (l'[0]'_) = x at hx
      obtain ⟨b, o, e, hbl, hc0⟩ := (HR.out.below HB5.out).at_ hx
      subst e
      rw [Nat.add_zero] at hc0
      have hmz := min_zero HS.out (fun y hy => (HW.out y (by rw [← HFE.out]; exact HP.out.mem_iff.1 hy)).1) hx
      rw [HP.out.mem_iff] at hmz
      have HMZ := Lib.hid hmz
      have h00 : (0 : Int) < (fl.length : Int) := by omega
      clear hx hmz
      by_cases hz : x = 0
      · have E : Hid (chkE l = 2) := HET.out (.inr (HMZ.out.1 hz))
        have e0 : (x == 0) = true := by simp [hz]
        subst hz
        clear HMZ
        go_wp2
        go_ret
        exact ⟨by rw [E.out]; rfl, bthen HB3.out HB5.out⟩
      · have E : Hid (chkE l = 0) := HEF.out HN2.out (fun h => hz (HMZ.out.2 h))
        have e0 : (x == 0) = false := by simp [hz]
        clear HMZ
        go_wp2
        go_ret
        exact ⟨by rw [E.out]; rfl, bthen HB3.out HB5.out⟩
end Go.Proofs.Ytinjeoohklabpaa
