/- The walk of the law SpecialOrder. -/
import Derived.Test.YtiapiajldchnmaaWP
namespace Go.Proofs.Ytiapiajldchnmaa
open Go.RowKit
set_option linter.unusedVariables false
set_option linter.unusedSimpArgs false

theorem rdS_two (W : World) (s t : Sp) : RdS (W.alloc (.cells #[.int .u64 s.a, .int .u8 s.k, .int .u64 s.t, .int .u64 t.a, .int .u8 t.k, .int .u64 t.t] 41)) (some ⟨W.heap.size, 0, none⟩) [s, t] :=
  ⟨rfl, by simp, fun _ => ⟨W.heap.size, 0, rfl, by simp, fun j x hx => by
    rw [cell_of_row _ _ _ _ 41 (0, 0) (heap_alloc_new W _), Nat.zero_add]
    simpa [fl, Sp.cs] using hx⟩⟩
theorem ofP_put {l : List Sp} {s : Sp} (h : Good l) (hp : putE l s = 0) : ofP (putL l s) s.a = ofP l s.a ++ [s] ∧ ∀ x, x ≠ s.a → ofP (putL l s) x = ofP l x := by
  obtain ⟨hg, e, _, _⟩ := good_put h hp
  have g1 := (good_iff _).2 h
  have g2 := (good_iff _).2 hg
  unfold ofP
  rw [g1, g2, e]
  simp only [if_true]
  constructor
  · have hd := drop_none (s := s) h.asc (fun t => t.a == s.a) (fun t ht => by simpa using ht)
    rw [ins_filter, hd, List.append_nil, if_pos (by simp), filter_split l (idxE l s) (fun t => t.a == s.a), hd, List.append_nil]
  · intro x hx
    rw [ins_filter, if_neg (by simpa using fun h => hx h.symm), List.append_nil, ← filter_split l (idxE l s)]
theorem addP_two {l : List Sp} {s t : Sp} : (addP l [s, t]).2 ≠ 0 ∨ (Good l ∧ ∃ l1 l2, Good l1 ∧ Good l2 ∧ addP l [s, t] = (l2, 0) ∧ ofP l2 t.a = ofP l1 t.a ++ [t] ∧ ∀ x, x ≠ s.a → x ≠ t.a → ofP l2 x = ofP l x) := by
  unfold addP
  cases hg : goodP l with
  | false => left; simp
  | true =>
    have HG := (good_iff l).1 hg
    rw [if_pos rfl]
    by_cases h1 : putE l s = 0
    · obtain ⟨g1, -, -, -⟩ := good_put HG h1
      obtain ⟨-, p1⟩ := ofP_put HG h1
      by_cases h2 : putE (putL l s) t = 0
      · obtain ⟨g2, -, -, -⟩ := good_put g1 h2
        obtain ⟨p2, p3⟩ := ofP_put g1 h2
        right
        exact ⟨HG, putL l s, putL (putL l s) t, g1, g2, by simp [addGo, h1, h2], p2, fun x hx hy => (p3 x hy).trans (p1 x hx)⟩
      · left
        simp [addGo, h1, h2]
    · left
      simp [addGo, h1]

set_option maxRecDepth 100000 in
set_option maxHeartbeats 8000000 in
theorem order7 (l : List Sp) (A : Option Addr) (c : Nat) (s1 s2 : Sp) (x : Int) (w : World) (hr : RdS w A l) (hc : l.length ≤ c) : Calls Try.prog 7 #[.slice A l.length c, s1.v, s2.v, .int .u64 x] w (Ret (.bool true) w) := by
  have K10 : ∀ W B, RdS W A l → RdS W B [s1, s2] → Calls Try.prog 10 #[.slice A l.length c, .slice B 2 2] W (fun e w' => ∃ A1 c1, e = .returned (.tuple #[.slice A1 (addP l [s1, s2]).1.length c1, .int .i64 (addP l [s1, s2]).2]) ∧ (addP l [s1, s2]).1.length ≤ c1 ∧ RdS w' A1 (addP l [s1, s2]).1 ∧ Below W.heap.size W w') := by
    intro W B h h2
    refine (add10 l [s1, s2] A B c 2 W h hc h2).mono fun e w' h => ?_
    obtain ⟨A1, c1, rfl, h1, -, h2, hb⟩ := h.shape
    exact ⟨A1, c1, rfl, h1, h2, hb⟩
  have K12 : ∀ (l : List Sp) (x : Int) W A n c, RdS W A l → n = l.length → l.length ≤ c → Calls Try.prog 12 #[.slice A n c, .int .u64 x] W (fun e w' => ∃ A1 c1, e = .returned (.tuple #[.slice A1 (ofP l x).length c1, .int .i64 (checkP l)]) ∧ RdS w' A1 (ofP l x) ∧ Below W.heap.size W w') := by
    intro l x W A n c h hn hc
    subst hn
    refine (of12 l A c x W h hc).mono fun e w' h => ?_
    obtain ⟨A1, c1, rfl, h1, -, h2, hb⟩ := h.shape
    exact ⟨A1, c1, rfl, h2, hb⟩
  rcases addP_two (l := l) (s := s1) (t := s2) with he | ⟨HG, m1, m, G1, G2, e, eo, ex⟩
  · generalize addP l [s1, s2] = q at *
    obtain ⟨q1, q2⟩ := q
    have he' : (q2 != 0) = true := by simpa using he
    have C10 := Lib.hid K10
    clear K10 K12 he
    have hl := hr.len
    have HR := Lib.hid hr
    clear hr
    obtain ⟨a1, k1, t1⟩ := s1
    obtain ⟨a2, k2, t2⟩ := s2
    unfold Sp.v
    go_enter Try.func7, Try.ntmps7
    have hb0 : Below w.heap.size w ((w.alloc (.cells #[.int .u64 a1, .int .u8 k1, .int .u64 t1] 41)).alloc (.cells #[.int .u64 a2, .int .u8 k2, .int .u64 t2] 41)) := balloc (balloc (Below.refl _ _) _) _
    have F1 : Hid (((w.alloc (.cells #[.int .u64 a1, .int .u8 k1, .int .u64 t1] 41)).alloc (.cells #[.int .u64 a2, .int .u8 k2, .int .u64 t2] 41)).cell? ⟨w.heap.size, 0, none⟩ = some (.int .u64 a1)) := by show _ = _; go_simp
    have F2 : Hid (((w.alloc (.cells #[.int .u64 a1, .int .u8 k1, .int .u64 t1] 41)).alloc (.cells #[.int .u64 a2, .int .u8 k2, .int .u64 t2] 41)).cell? ⟨w.heap.size, 1, none⟩ = some (.int .u8 k1)) := by show _ = _; go_simp
    have F3 : Hid (((w.alloc (.cells #[.int .u64 a1, .int .u8 k1, .int .u64 t1] 41)).alloc (.cells #[.int .u64 a2, .int .u8 k2, .int .u64 t2] 41)).cell? ⟨w.heap.size, 2, none⟩ = some (.int .u64 t1)) := by show _ = _; go_simp
    have F4 : Hid (((w.alloc (.cells #[.int .u64 a1, .int .u8 k1, .int .u64 t1] 41)).alloc (.cells #[.int .u64 a2, .int .u8 k2, .int .u64 t2] 41)).cell? ⟨w.heap.size + 1, 0, none⟩ = some (.int .u64 a2)) := by show _ = _; go_simp
    have F5 : Hid (((w.alloc (.cells #[.int .u64 a1, .int .u8 k1, .int .u64 t1] 41)).alloc (.cells #[.int .u64 a2, .int .u8 k2, .int .u64 t2] 41)).cell? ⟨w.heap.size + 1, 1, none⟩ = some (.int .u8 k2)) := by show _ = _; go_simp
    have F6 : Hid (((w.alloc (.cells #[.int .u64 a1, .int .u8 k1, .int .u64 t1] 41)).alloc (.cells #[.int .u64 a2, .int .u8 k2, .int .u64 t2] 41)).cell? ⟨w.heap.size + 1, 2, none⟩ = some (.int .u64 t2)) := by show _ = _; go_simp
    go_wp2_with fail
    refine (lives16 _).mono ?_
    rintro e w1 ⟨rfl, hb1⟩
    have f1 := cell_later hb1 F1.out
    have f2 := cell_later hb1 F2.out
    have f3 := cell_later hb1 F3.out
    have f4 := cell_later hb1 F4.out
    have f5 := cell_later hb1 F5.out
    have f6 := cell_later hb1 F6.out
    have HB1 := Lib.hid (bthen hb0 hb1)
    clear hb1 hb0 F1 F2 F3 F4 F5 F6
    go_wp2_with fail
    refine (C10.out _ _ (HR.out.below (balloc HB1.out _)) (rdS_two w1 ⟨a1, k1, t1⟩ ⟨a2, k2, t2⟩)).mono ?_
    rintro e w2 ⟨A2, c2, rfl, -, -, hb2⟩
    have HB2 := Lib.hid (bthen (balloc HB1.out _) hb2)
    clear hb2
    go_wp2
    go_ret
    exact ⟨rfl, HB2.out⟩
  · rw [e] at K10
    have C12 := K12 m s2.a
    have C13 := Lib.hid (K12 l x)
    have C14 := K12 m x
    rw [checkP_ok ((good_iff _).2 G2)] at C12 C14
    rw [checkP_ok ((good_iff _).2 HG)] at C13
    rw [eo] at C12
    have hol : (ofP m1 s2.a).length ≤ 64 := by
      refine Nat.le_trans ?_ G1.len
      unfold ofP
      split
      · exact List.length_filter_le _ _
      · simp
    have C12 : ∀ W A n c, RdS W A m → n = m.length → m.length ≤ c → Calls Try.prog 12 #[.slice A n c, .int .u64 s2.a] W (fun e w' => ∃ b o c1, e = .returned (.tuple #[.slice (some ⟨b, o, none⟩) ((ofP m1 s2.a).length + 1) c1, .int .i64 0]) ∧
        w'.cell? ⟨b, o + (ofP m1 s2.a).length * 3, none⟩ = some (.int .u64 s2.a) ∧ w'.cell? ⟨b, o + (ofP m1 s2.a).length * 3 + 1, none⟩ = some (.int .u8 s2.k) ∧ w'.cell? ⟨b, o + (ofP m1 s2.a).length * 3 + 2, none⟩ = some (.int .u64 s2.t) ∧ Below W.heap.size W w') := by
      intro W A n c h1 h2 h3
      refine (C12 W A n c h1 h2 h3).mono fun e w' h => ?_
      obtain ⟨A1, c1, rfl, hr1, hb⟩ := h
      obtain ⟨b, o, rfl, _, e1, e2, e3⟩ := hr1.at_ (i := (ofP m1 s2.a).length) (s := s2) (by simp)
      exact ⟨b, o, c1, by rw [List.length_append]; rfl, e1, e2, e3, hb⟩
    generalize (ofP m1 s2.a).length = n at *
    have EX : Hid (x ≠ s1.a → x ≠ s2.a → decide (ofP l x = ofP m x) = true) := fun h1 h2 => by rw [ex x h1 h2]; simp
    generalize ofP m x = O2 at *
    generalize ofP l x = O1 at *
    have hq : ∀ W, (binOp .neq 41 (.agg #[.int .u64 s2.a, .int .u8 s2.k, .int .u64 s2.t]) (.agg #[.int .u64 s2.a, .int .u8 s2.k, .int .u64 s2.t])).run Try.prog W = .ok (.bool false) W := fun W => by rw [neq41]; simp
    have HQ := Lib.hid hq
    have C10 := Lib.hid K10
    have C12 := Lib.hid C12
    have C14 := Lib.hid C14
    clear hq K10 K12 e eo ex G1 G2 HG
    have hl := hr.len
    have HR := Lib.hid hr
    clear hr
    obtain ⟨a1, k1, t1⟩ := s1
    obtain ⟨a2, k2, t2⟩ := s2
    unfold Sp.v
    go_enter Try.func7, Try.ntmps7
    have hb0 : Below w.heap.size w ((w.alloc (.cells #[.int .u64 a1, .int .u8 k1, .int .u64 t1] 41)).alloc (.cells #[.int .u64 a2, .int .u8 k2, .int .u64 t2] 41)) := balloc (balloc (Below.refl _ _) _) _
    have F1 : Hid (((w.alloc (.cells #[.int .u64 a1, .int .u8 k1, .int .u64 t1] 41)).alloc (.cells #[.int .u64 a2, .int .u8 k2, .int .u64 t2] 41)).cell? ⟨w.heap.size, 0, none⟩ = some (.int .u64 a1)) := by show _ = _; go_simp
    have F2 : Hid (((w.alloc (.cells #[.int .u64 a1, .int .u8 k1, .int .u64 t1] 41)).alloc (.cells #[.int .u64 a2, .int .u8 k2, .int .u64 t2] 41)).cell? ⟨w.heap.size, 1, none⟩ = some (.int .u8 k1)) := by show _ = _; go_simp
    have F3 : Hid (((w.alloc (.cells #[.int .u64 a1, .int .u8 k1, .int .u64 t1] 41)).alloc (.cells #[.int .u64 a2, .int .u8 k2, .int .u64 t2] 41)).cell? ⟨w.heap.size, 2, none⟩ = some (.int .u64 t1)) := by show _ = _; go_simp
    have F4 : Hid (((w.alloc (.cells #[.int .u64 a1, .int .u8 k1, .int .u64 t1] 41)).alloc (.cells #[.int .u64 a2, .int .u8 k2, .int .u64 t2] 41)).cell? ⟨w.heap.size + 1, 0, none⟩ = some (.int .u64 a2)) := by show _ = _; go_simp
    have F5 : Hid (((w.alloc (.cells #[.int .u64 a1, .int .u8 k1, .int .u64 t1] 41)).alloc (.cells #[.int .u64 a2, .int .u8 k2, .int .u64 t2] 41)).cell? ⟨w.heap.size + 1, 1, none⟩ = some (.int .u8 k2)) := by show _ = _; go_simp
    have F6 : Hid (((w.alloc (.cells #[.int .u64 a1, .int .u8 k1, .int .u64 t1] 41)).alloc (.cells #[.int .u64 a2, .int .u8 k2, .int .u64 t2] 41)).cell? ⟨w.heap.size + 1, 2, none⟩ = some (.int .u64 t2)) := by show _ = _; go_simp
    go_wp2_with fail
    refine (lives16 _).mono ?_
    rintro e w1 ⟨rfl, hb1⟩
    have f1 := cell_later hb1 F1.out
    have f2 := cell_later hb1 F2.out
    have f3 := cell_later hb1 F3.out
    have f4 := cell_later hb1 F4.out
    have f5 := cell_later hb1 F5.out
    have f6 := cell_later hb1 F6.out
    have HB1 := Lib.hid (bthen hb0 hb1)
    clear hb1 hb0 F1 F2 F3 F4 F5 F6
    go_wp2_with fail
    refine (C10.out _ _ (HR.out.below (balloc HB1.out _)) (rdS_two w1 ⟨a1, k1, t1⟩ ⟨a2, k2, t2⟩)).mono ?_
    rintro e w2 ⟨A2, c2, rfl, hc2, hr2, hb2⟩
    have f1 := cell_later hb2 (cell_later (balloc (Below.refl _ w1) (Obj.cells #[.int .u64 a1, .int .u8 k1, .int .u64 t1, .int .u64 a2, .int .u8 k2, .int .u64 t2] 41)) f1)
    have f4 := cell_later hb2 (cell_later (balloc (Below.refl _ w1) (Obj.cells #[.int .u64 a1, .int .u8 k1, .int .u64 t1, .int .u64 a2, .int .u8 k2, .int .u64 t2] 41)) f4)
    have f5 := cell_later hb2 (cell_later (balloc (Below.refl _ w1) (Obj.cells #[.int .u64 a1, .int .u8 k1, .int .u64 t1, .int .u64 a2, .int .u8 k2, .int .u64 t2] 41)) f5)
    have f6 := cell_later hb2 (cell_later (balloc (Below.refl _ w1) (Obj.cells #[.int .u64 a1, .int .u8 k1, .int .u64 t1, .int .u64 a2, .int .u8 k2, .int .u64 t2] 41)) f6)
    have HB2 := Lib.hid (bthen (balloc HB1.out _) hb2)
    have HR2 := Lib.hid hr2
    clear hb2 hr2 f2 f3
    go_wp2_with fail
    refine (C12.out _ A2 m.length c2 HR2.out rfl hc2).mono ?_
    rintro e w3 ⟨b3, o3, c3, rfl, k1', k2', k3', hb3⟩
    have f1 := cell_later hb3 f1
    have f4 := cell_later hb3 f4
    have f5 := cell_later hb3 f5
    have f6 := cell_later hb3 f6
    have HB3 := Lib.hid (bthen HB2.out hb3)
    have HR3 := Lib.hid (HR2.out.below hb3)
    clear hb3
    go_wp2_with fail
    refine (C13.out _ A l.length c (HR.out.below HB3.out) rfl hc).mono ?_
    rintro e w4 ⟨A4, c4, rfl, hr4, hb4⟩
    have f1 := cell_later hb4 f1
    have f4 := cell_later hb4 f4
    have f5 := cell_later hb4 f5
    have f6 := cell_later hb4 f6
    have k1' := cell_later hb4 k1'
    have k2' := cell_later hb4 k2'
    have k3' := cell_later hb4 k3'
    have HB4 := Lib.hid (bthen HB3.out hb4)
    have HR4 := Lib.hid (HR3.out.below hb4)
    have HO4 := Lib.hid hr4
    clear hb4 hr4
    go_wp2_with fail
    refine (C14.out _ A2 m.length c2 HR4.out rfl hc2).mono ?_
    rintro e w5 ⟨A5, c5, rfl, hr5, hb5⟩
    have f1 := cell_later hb5 f1
    have f4 := cell_later hb5 f4
    have f5 := cell_later hb5 f5
    have f6 := cell_later hb5 f6
    have k1' := cell_later hb5 k1'
    have k2' := cell_later hb5 k2'
    have k3' := cell_later hb5 k3'
    have HB5 := Lib.hid (bthen HB4.out hb5)
    have HO5 := Lib.hid hr5
    have HO4 := Lib.hid (HO4.out.below hb5)
    clear hb5 hr5
    have hq := HQ.out
    have hwn : IntKind.i64.wrap (n : Int) = (n : Int) := by rw [IntKind.wrap_i64]; omega
    have hnlt : (n : Int) < (n : Int) + 1 := by omega
    have hn0 : ¬ ((n : Int) + 1 = 0) := by omega
    go_wp2
    go_still (by kernel_rfl)
    clear hq hwn hnlt hn0 k1' k2' k3'
    by_cases x1 : x = a1
    · subst x1
      go_wp2
      go_ret
      exact ⟨rfl, HB5.out.drew⟩
    · by_cases x2 : x = a2
      · subst x2
        have hx1 : (x == a1) = false := by simpa using x1
        go_wp2
        go_ret
        exact ⟨rfl, HB5.out.drew⟩
      · have hx1 : (x == a1) = false := by simpa using x1
        have hx2 : (x == a2) = false := by simpa using x2
        have hd : Hid (decide (O1 = O2) = true) := EX.out x1 x2
        clear EX x1 x2
        go_wp2_with fail
        refine (same17 O1 O2 A4 A5 c4 c5 _ (HO4.out.below (Below.refl _ _).drew) (HO5.out.below (Below.refl _ _).drew)).mono ?_
        rintro e w6 ⟨rfl, hb6⟩
        rw [hd.out]
        go_wp2
        go_ret
        exact ⟨rfl, bthen HB5.out.drew hb6⟩
end Go.Proofs.Ytiapiajldchnmaa
