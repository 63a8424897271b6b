/- The walk of the law SpecialParts. -/
import Derived.Test.YtiapiajldchnmaaWP
namespace Go.Proofs.Ytiapiajldchnmaa
open Go.RowKit
set_option linter.unusedVariables false
set_option linter.unusedSimpArgs false

theorem Good.sub {l m : List Sp} (h : Good l) (hs : m.Sublist l) : Good m :=
  ⟨Nat.le_trans hs.length_le h.len, fun s hm => h.one s (hs.subset hm), h.asc.sublist hs, h.fin.sublist hs⟩
theorem two_kinds (x : Int) : ∀ l : List Sp, (∀ s ∈ l, oneP s = true) → (l.filter (isP x 1)).length + ((l.filter (fun s => !isP x 1 s)).filter (isP x 2)).length = (l.filter (fun s => s.a == x)).length
  | [], _ => rfl
  | s :: l, h => by
    have ih := two_kinds x l (fun t ht => h t (List.mem_cons_of_mem _ ht))
    have h1 := h s (List.mem_cons_self ..)
    simp only [oneP, Bool.and_eq_true, decide_eq_true_eq] at h1
    have hk : s.k = 1 ∨ s.k = 2 := by omega
    have hcs : (isP x 1 s = true ∧ isP x 2 s = false ∧ (s.a == x) = true) ∨ (isP x 1 s = false ∧ isP x 2 s = true ∧ (s.a == x) = true) ∨ (isP x 1 s = false ∧ isP x 2 s = false ∧ (s.a == x) = false) := by
      unfold isP
      by_cases ha : s.a = x
      · rcases hk with hk | hk <;> simp [ha, hk]
      · simp [ha]
    rcases hcs with ⟨e1, e2, e3⟩ | ⟨e1, e2, e3⟩ | ⟨e1, e2, e3⟩ <;>
      simp only [List.filter_cons, e1, e2, e3, Bool.not_true, Bool.not_false, if_true, Bool.false_eq_true, if_false, List.length_cons] <;> omega
theorem both_len (p : Sp → Bool) : ∀ l : List Sp, (l.filter (fun s => !p s)).length + (l.filter p).length = l.length
  | [] => rfl
  | s :: l => by
    have ih := both_len p l
    simp only [List.filter_cons]
    cases hp : p s
    · simp only [Bool.not_false, if_true, List.length_cons, Bool.false_eq_true, if_false]; omega
    · simp only [Bool.not_true, if_true, List.length_cons, Bool.false_eq_true, if_false]; omega
theorem one_final {l : List Sp} (h : Good l) (x : Int) : (l.filter (isP x 1)).length ≤ 1 := by
  have hf := (h.sub (List.filter_sublist (p := isP x 1))).fin
  have hm : ∀ s ∈ l.filter (isP x 1), s.a = x ∧ s.k = 1 := by
    intro s hs
    have := (List.mem_filter.1 hs).2
    simpa [isP] using this
  generalize l.filter (isP x 1) = m at *
  match m, hf, hm with
  | [], _, _ => simp
  | [s], _, _ => simp
  | s :: t :: m, hf, hm =>
    have h1 := (List.pairwise_cons.1 hf).1 t (List.mem_cons_self ..)
    have h2 := hm s (List.mem_cons_self ..)
    have h3 := hm t (List.mem_cons_of_mem _ (List.mem_cons_self ..))
    exact absurd ⟨h2.2, h3.2, h2.1.trans h3.1.symm⟩ h1
theorem none_left {l : List Sp} (h : Good l) (x : Int) : ((l.filter (fun s => !isP x 1 s)).filter (fun s => !isP x 2 s)).filter (fun s => s.a == x) = [] := by
  rw [List.filter_eq_nil_iff]
  intro s hs
  obtain ⟨h1, h2⟩ := List.mem_filter.1 hs
  obtain ⟨h3, h4⟩ := List.mem_filter.1 h1
  have h5 := h.one s h3
  simp only [oneP, Bool.and_eq_true, decide_eq_true_eq] at h5
  simp [isP] at h2 h4 ⊢
  intro ha
  omega
theorem parts_law {l : List Sp} (HG : Good l) (x : Int) : checkP (takeL l x 1) = 0 ∧ checkP (takeL (takeL l x 1) x 2) = 0 ∧ ofP (takeL (takeL l x 1) x 2) x = [] ∧ (takeO l x 1).length ≤ 1 ∧
    (takeO l x 1).length + (takeO (takeL l x 1) x 2).length = (ofP l x).length ∧ (takeL (takeL l x 1) x 2).length + (ofP l x).length = l.length := by
  have hg := (good_iff l).2 HG
  have ga := HG.sub (List.filter_sublist (p := fun s => !isP x 1 s))
  have gb := ga.sub (List.filter_sublist (p := fun s => !isP x 2 s))
  have ga2 := (good_iff _).2 ga
  have gb2 := (good_iff _).2 gb
  have e1 : ofP l x = l.filter (fun s => s.a == x) := by simp [ofP, hg]
  have e2 : takeL l x 1 = l.filter (fun s => !isP x 1 s) := by simp [takeL, hg]
  have e3 : takeO l x 1 = l.filter (isP x 1) := by unfold takeO; rw [if_pos hg]
  have e4 : takeL (takeL l x 1) x 2 = (l.filter (fun s => !isP x 1 s)).filter (fun s => !isP x 2 s) := by rw [e2]; unfold takeL; rw [if_pos ga2]
  have e5 : takeO (takeL l x 1) x 2 = (l.filter (fun s => !isP x 1 s)).filter (isP x 2) := by rw [e2]; unfold takeO; rw [if_pos ga2]
  have e6 : ofP (takeL (takeL l x 1) x 2) x = [] := by rw [e4]; unfold ofP; rw [if_pos gb2]; exact none_left HG x
  have h1 := both_len (isP x 1) l
  have h2 := both_len (isP x 2) (l.filter (fun s => !isP x 1 s))
  have h3 := two_kinds x l HG.one
  have h4 := one_final HG x
  refine ⟨by rw [e2]; exact checkP_ok ga2, by rw [e4]; exact checkP_ok gb2, e6, by rw [e3]; exact h4, by rw [e3, e5, e1]; exact h3, ?_⟩
  rw [e4, e1]
  omega

set_option maxRecDepth 100000 in
set_option maxHeartbeats 8000000 in
theorem parts6 (l : List Sp) (A : Option Addr) (c : Nat) (x : Int) (w : World) (hr : RdS w A l) (hc : l.length ≤ c) : Calls Try.prog 6 #[.slice A l.length c, .int .u64 x] w (Ret (.bool true) w) := by
  have K12 : ∀ (l : List Sp) W A n c, RdS W A l → n = l.length → l.length ≤ c → Calls Try.prog 12 #[.slice A n c, .int .u64 x] W (fun e w' => ∃ A1 c1, e = .returned (.tuple #[.slice A1 (ofP l x).length c1, .int .i64 (checkP l)]) ∧ (ofP l x).length ≤ c1 ∧ RdS w' A1 (ofP l x) ∧ Below W.heap.size W w') := by
    intro l W A n c h hn hc
    subst hn
    refine (of12 l A c x W h hc).mono fun e w' h => ?_
    obtain ⟨A1, c1, rfl, h1, -, h2, hb⟩ := h.shape
    exact ⟨A1, c1, rfl, h1, h2, hb⟩
  have K14 : ∀ (l : List Sp) (k : Int) W A n c, RdS W A l → n = l.length → l.length ≤ c → Calls Try.prog 14 #[.slice A n c, .int .u64 x, .int .u8 k] W (fun e w' => ∃ A1 c1 B1 d1, e = .returned (.tuple #[.slice A1 (takeL l x k).length c1, .slice B1 (takeO l x k).length d1, .int .i64 (checkP l)]) ∧ (takeL l x k).length ≤ c1 ∧ RdS w' A1 (takeL l x k) ∧ Below W.heap.size W w') := by
    intro l k W A n c h hn hc
    subst hn
    refine (take14 l A c x k W h hc).mono fun e w' h => ?_
    obtain ⟨A1, c1, B1, d1, rfl, h1, -, -, -, h2, -, hb⟩ := h.shape
    exact ⟨A1, c1, B1, d1, rfl, h1, h2, hb⟩
  have C12 := Lib.hid (K12 l)
  have C14 := Lib.hid (K14 l 1)
  cases hg : goodP l with
  | false =>
    have e1 : ofP l x = [] := by simp [ofP, hg]
    have e2 : takeL l x 1 = [] := by simp [takeL, hg]
    have e3 : takeO l x 1 = [] := by simp [takeO, hg]
    rw [checkP_no hg, e1] at C12
    rw [checkP_no hg, e2, e3] at C14
    have C15 := Lib.hid (K14 [] 2)
    clear K12 K14 hg e1 e2 e3
    generalize (takeL [] x 2) = L2 at *
    generalize (takeO [] x 2) = O2 at *
    generalize (checkP []) = e2 at *
    simp only [List.length_nil] at C12 C14 C15
    have hl := hr.len
    have HR := Lib.hid hr
    clear hr
    go_enter Try.func6, Try.ntmps6
    go_wp2_with fail
    refine (lives16 _).mono ?_
    rintro e w1 ⟨rfl, hb1⟩
    have HB1 := Lib.hid hb1
    clear hb1
    go_wp2_with fail
    refine (C12.out _ A l.length c (HR.out.below HB1.out) rfl hc).mono ?_
    rintro e w2 ⟨A2, c2, rfl, -, -, hb2⟩
    have HB2 := Lib.hid (bthen HB1.out hb2)
    clear hb2
    go_wp2_with fail
    refine (C14.out _ A l.length c (HR.out.below HB2.out) rfl hc).mono ?_
    rintro e w3 ⟨A3, c3, B3, d3, rfl, hc3, hr3, hb3⟩
    have HB3 := Lib.hid (bthen HB2.out hb3)
    have HR3 := Lib.hid hr3
    clear hb3 hr3
    go_wp2_with fail
    refine (C15.out _ A3 0 c3 HR3.out rfl hc3).mono ?_
    rintro e w4 ⟨A4, c4, B4, d4, rfl, hc4, hr4, hb4⟩
    have HB4 := Lib.hid (bthen HB3.out hb4)
    have HR4 := Lib.hid hr4
    clear hb4 hr4
    go_wp2
    go_ret
    exact ⟨by simp, HB4.out⟩
  | true =>
    have HG := (good_iff l).1 hg
    obtain ⟨q1, q2, q3, q4, q5, q6⟩ := parts_law HG x
    have q7 := HG.len
    have C15 := K14 (takeL l x 1) 2
    have C16 := K12 (takeL (takeL l x 1) x 2)
    rw [checkP_ok hg] at C12 C14
    rw [q1] at C15
    rw [q2, q3] at C16
    generalize ofP l x = L1 at *
    generalize takeL (takeL l x 1) x 2 = L3 at *
    generalize takeO (takeL l x 1) x 2 = O3 at *
    generalize takeL l x 1 = L2 at *
    generalize takeO l x 1 = O2 at *
    have C15 := Lib.hid C15
    have C16 := Lib.hid C16
    clear K12 K14 hg HG q1 q2 q3
    simp only [List.length_nil] at C16
    have hl := hr.len
    have HR := Lib.hid hr
    clear hr
    go_enter Try.func6, Try.ntmps6
    go_wp2_with fail
    refine (lives16 _).mono ?_
    rintro e w1 ⟨rfl, hb1⟩
    have HB1 := Lib.hid hb1
    clear hb1
    go_wp2_with fail
    refine (C12.out _ A l.length c (HR.out.below HB1.out) rfl hc).mono ?_
    rintro e w2 ⟨A2, c2, rfl, -, -, hb2⟩
    have HB2 := Lib.hid (bthen HB1.out hb2)
    clear hb2
    go_wp2_with fail
    refine (C14.out _ A l.length c (HR.out.below HB2.out) rfl hc).mono ?_
    rintro e w3 ⟨A3, c3, B3, d3, rfl, hc3, hr3, hb3⟩
    have HB3 := Lib.hid (bthen HB2.out hb3)
    have HR3 := Lib.hid hr3
    clear hb3 hr3
    go_wp2_with fail
    refine (C15.out _ A3 L2.length c3 HR3.out rfl hc3).mono ?_
    rintro e w4 ⟨A4, c4, B4, d4, rfl, hc4, hr4, hb4⟩
    have HB4 := Lib.hid (bthen HB3.out hb4)
    have HR4 := Lib.hid hr4
    clear hb4 hr4
    go_wp2_with fail
    refine (C16.out _ A4 L3.length c4 HR4.out rfl hc4).mono ?_
    rintro e w5 ⟨A5, c5, rfl, -, -, hb5⟩
    have HB5 := Lib.hid (bthen HB4.out hb5)
    clear hb5
    have n1 : IntKind.i64.wrap ((O2.length : Int) + (O3.length : Int)) = (L1.length : Int) := by rw [IntKind.wrap_i64]; omega
    have n2 : IntKind.i64.wrap ((L3.length : Int) + (L1.length : Int)) = (l.length : Int) := by rw [IntKind.wrap_i64]; omega
    have n3 : (O2.length : Int) ≤ 1 := by omega
    have n4 : ¬ (1 : Int) < (O2.length : Int) := by omega
    clear q4 q5 q6
    go_wp2
    go_ret
    exact ⟨by simp, HB5.out⟩
end Go.Proofs.Ytiapiajldchnmaa
