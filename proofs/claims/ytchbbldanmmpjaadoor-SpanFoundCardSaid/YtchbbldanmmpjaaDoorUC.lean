/- The law SpanFound, walked. -/
import Derived.Test.YtchbbldanmmpjaaDoorUA
import Derived.Test.YtchbbldanmmpjaaDoorUB
namespace Go.Proofs.YtchbbldanmmpjaaDoor
open Go.RowKit
set_option linter.unusedVariables false
set_option linter.unusedSimpArgs false

theorem found_addrE {s : SpanB} {k : Int} (hr : rightP s = true) (h : addrE s k ≠ 0) : addrE s k = 1 := by
  unfold addrE at h ⊢
  rw [if_pos hr] at h ⊢
  split at h
  · exact absurd rfl h
  · rename_i h2
    rw [if_neg h2]
theorem found_plain {l : List SpanB} (hok : okL l = true) {i : Nat} {s : SpanB} (hs : l[i]? = some s) {k : Int} (he : addrE s k = 0) (other : Int) :
    findP l (addrN s k) = (if getP s.al k = true then ⟨i, k, 0⟩ else ⟨0, 0, 10⟩) ∧ ((findP l other).e = 0 → (findP l other).i = i → (findP l other).k = k → other = addrN s k) ∧ 0 ≤ addrN s k ∧ addrN s k < 18446744073709551616 := by
  have hr := okL_right hok hs
  have hp := rightP_parts hr
  have hin : 0 ≤ k ∧ k < manyP s.size := by
    unfold addrE at he
    rw [if_pos hr] at he
    split at he
    · rename_i h2
      exact h2
    · simp at he
  have e : addrN s k = s.first * 16 + k * s.size := by
    unfold addrN
    rw [if_pos hr, if_pos hin]
  have hb := slot_bound hp.1 hin.1 hin.2
  have hg := shapedP_pages hp.1
  have eg : getP s.al k = bitP s.al k.toNat := by
    have hin2 : putIn s.al k := ⟨hin.1, by have := hin.2; omega⟩
    unfold getP
    rw [if_pos hp.2.2.2.1, if_pos hin2]
  rw [e, eg]
  exact ⟨find_addr hok hs hin.1 hin.2, fun h1 h2 h3 => find_only hs hok hin.1 hin.2 h2 h3 h1, by omega, by omega⟩

set_option maxRecDepth 100000 in
set_option maxHeartbeats 16000000 in
theorem found9 (A : Option Addr) (c : Nat) (vs : List SpanV) (l : List SpanB) (i k other : Int) (w : World) (h : RdL w A vs l) (hT : Tab w) (hot : 0 ≤ other ∧ other < 18446744073709551616) :
    Calls Tryd.prog 9 #[.slice A l.length c, .int .i64 i, .int .i64 k, .int .u64 other] w (Ret (.bool true) w) := by
  have hl := h.len
  have CL : Hid (∀ W, Below w.heap.size w W → Calls Tryd.prog 17 #[] W (Ret (.bool true) W)) := fun W hW => lives17 W (hT.below hW)
  have CC : Hid (∀ W, Below w.heap.size w W → Calls Tryd.prog 19 #[.slice A l.length c] W (Ret (.int .i64 (chkE l)) W)) := fun W hW => check19 A c vs l W (h.below hW)
  have CO : Hid (∀ W, Below w.heap.size w W → Calls Tryd.prog 21 #[.slice A l.length c, .int .u64 other] W (Ret (.tuple #[.int .i64 (findP l other).i, .int .i64 (findP l other).k, .int .i64 (findP l other).e]) W)) := fun W hW => find21 A c vs l other W (h.below hW) hot
  have HB0 := Lib.hid (Below.refl w.heap.size w)
  have H := Lib.hid h
  clear h hT hot
  by_cases hok : okL l = true
  · rw [show chkE l = 0 from by simp [chkE, hok]] at CC
    by_cases hin : 0 ≤ i ∧ i < l.length
    · obtain ⟨hi0, hi1⟩ := hin
      obtain ⟨i, rfl⟩ := Int.eq_ofNat_of_zero_le hi0
      have hil : i < l.length := by omega
      have hs : l[i]? = some l[i] := List.getElem?_eq_getElem hil
      generalize l[i] = s at hs
      have HFP : Hid (addrE s k = 0 → findP l (addrN s k) = (if getP s.al k = true then ⟨i, k, 0⟩ else ⟨0, 0, 10⟩) ∧ ((findP l other).e = 0 → (findP l other).i = i → (findP l other).k = k → other = addrN s k) ∧ 0 ≤ addrN s k ∧ addrN s k < 18446744073709551616) := fun he => found_plain hok hs he other
      have HE1 : Hid (addrE s k ≠ 0 → addrE s k = 1) := fun he => found_addrE (okL_right hok hs) he
      obtain ⟨v, bv, ov, hvi, hR, hA, hbv, c0, c1, c2, c3, c4, c5, c6, c7⟩ := H.out.at_ hs
      subst hA
      have CX : Hid (∀ W, Below w.heap.size w W → Calls Tryd.prog 15 #[v.v, .int .i64 k] W (Ret (.tuple #[.int .u64 (addrN s k), .int .i64 (addrE s k)]) W)) := fun W hW => addr15 v s k W (hR.below hW)
      have CG : Hid (∀ W, Below w.heap.size w W → Calls Tryd.prog 32 #[v.al.v, .int .i64 k] W (Ret (.tuple #[.bool (getP s.al k), .int .i64 (getE s.al k)]) W)) := fun W hW => get32 v.al s.al k W (hR.al.below hW)
      obtain ⟨f, p, z, ⟨n, A1, m1, ca⟩, ⟨n', A2, m', cb⟩, sw⟩ := v
      unfold SpanV.v at CX
      unfold BitV.v at CG
      simp only at c0 c1 c2 c3 c4 c5 c6 c7 CX CG
      have HS := Lib.hid hok
      clear hR hvi hs hok hi0
      have X0 := Lib.hid c0
      have X1 := Lib.hid c1
      have X2 := Lib.hid c2
      have X3 := Lib.hid c3
      have X4 := Lib.hid c4
      have X5 := Lib.hid c5
      have X6 := Lib.hid c6
      have X7 := Lib.hid c7
      clear c0 c1 c2 c3 c4 c5 c6 c7
      by_cases he : addrE s k = 0
      · obtain ⟨q1, q2, q3, q4⟩ := HFP.out he
        have CF : Hid (∀ W, Below w.heap.size w W → Calls Tryd.prog 21 #[.slice (some ⟨bv, ov, none⟩) l.length c, .int .u64 (addrN s k)] W (Ret (.tuple #[.int .i64 (findP l (addrN s k)).i, .int .i64 (findP l (addrN s k)).k, .int .i64 (findP l (addrN s k)).e]) W)) := fun W hW => find21 _ c vs l (addrN s k) W (H.out.below hW) ⟨q3, q4⟩
        rw [q1] at CF
        rw [he] at CX
        clear he HE1 HFP q1 q3 q4
        generalize addrN s k = at_ at *
        generalize getE s.al k = ge at *
        have hc : ¬ (findP l other).e = 0 ∨ ((findP l other).e = 0 ∧ ¬ (findP l other).i = i) ∨ ((findP l other).e = 0 ∧ (findP l other).i = i ∧ ¬ (findP l other).k = k) ∨ ((findP l other).e = 0 ∧ (findP l other).i = i ∧ (findP l other).k = k ∧ other = at_) := by
          by_cases h1 : (findP l other).e = 0
          · by_cases h2 : (findP l other).i = i
            · by_cases h3 : (findP l other).k = k
              · exact .inr (.inr (.inr ⟨h1, h2, h3, q2 h1 h2 h3⟩))
              · exact .inr (.inr (.inl ⟨h1, h2, h3⟩))
            · exact .inr (.inl ⟨h1, h2⟩)
          · exact .inl h1
        clear q2
        generalize (findP l other).e = fe at *
        generalize (findP l other).i = fi at *
        generalize (findP l other).k = fk at *
        rcases hc with h | ⟨h, g⟩ | ⟨h, g, j⟩ | ⟨h, g, j, t⟩
        · have hb : (fe == 0) = false := by rw [beq_eq_false_iff_ne]; exact h
          clear h
          cases hg : getP s.al k
          all_goals
            rw [hg] at CG CF
            clear hg
            simp only [Bool.false_eq_true, if_false, if_true] at CF
            go_enter Tryd.func9, Tryd.ntmps9
            go_wp2_with (go_at_call 17; refine (CL.out _ HB0.out).mono ?_)
            rintro e w1 ⟨rfl, hb1⟩
            have HB1 := Lib.hid (bthen HB0.out hb1)
            clear hb1
            go_wp2_with (go_at_call 19; refine (CC.out _ HB1.out).mono ?_)
            rintro e w2 ⟨rfl, hb2⟩
            have HB2 := Lib.hid (bthen HB1.out hb2)
            clear hb2
            have c0 := cell_later HB2.out X0.out
            have c1 := cell_later HB2.out X1.out
            have c2 := cell_later HB2.out X2.out
            have c3 := cell_later HB2.out X3.out
            have c4 := cell_later HB2.out X4.out
            have c5 := cell_later HB2.out X5.out
            have c6 := cell_later HB2.out X6.out
            have c7 := cell_later HB2.out X7.out
            go_wp2_with (go_at_call 15; refine (CX.out _ HB2.out).mono ?_)
            rintro e w3 ⟨rfl, hb3⟩
            have HB3 := Lib.hid (bthen HB2.out hb3)
            clear hb3 c0 c1 c2 c3 c4 c5 c6 c7 CX
            have c3 := cell_later HB3.out X3.out
            have c4 := cell_later HB3.out X4.out
            go_wp2_with (go_at_call 32; refine (CG.out _ HB3.out).mono ?_)
            rintro e w4 ⟨rfl, hb⟩
            have HB4 := Lib.hid (bthen HB3.out hb)
            clear hb c3 c4 CG
            go_wp2_with (go_at_call 21; refine (CF.out _ HB4.out).mono ?_)
            rintro e w5 ⟨rfl, hb⟩
            have HB5 := Lib.hid (bthen HB4.out hb)
            clear hb CF
            go_wp2_with (go_at_call 21; refine (CO.out _ HB5.out).mono ?_)
            rintro e w6 ⟨rfl, hb⟩
            have HB6 := Lib.hid (bthen HB5.out hb)
            clear hb CO
            go_wp2
            go_ret
            exact ⟨rfl, HB6.out⟩
        · have hb : (fi == (i : Int)) = false := by rw [beq_eq_false_iff_ne]; exact g
          subst h
          clear g
          cases hg : getP s.al k
          all_goals
            rw [hg] at CG CF
            clear hg
            simp only [Bool.false_eq_true, if_false, if_true] at CF
            go_enter Tryd.func9, Tryd.ntmps9
            go_wp2_with (go_at_call 17; refine (CL.out _ HB0.out).mono ?_)
            rintro e w1 ⟨rfl, hb1⟩
            have HB1 := Lib.hid (bthen HB0.out hb1)
            clear hb1
            go_wp2_with (go_at_call 19; refine (CC.out _ HB1.out).mono ?_)
            rintro e w2 ⟨rfl, hb2⟩
            have HB2 := Lib.hid (bthen HB1.out hb2)
            clear hb2
            have c0 := cell_later HB2.out X0.out
            have c1 := cell_later HB2.out X1.out
            have c2 := cell_later HB2.out X2.out
            have c3 := cell_later HB2.out X3.out
            have c4 := cell_later HB2.out X4.out
            have c5 := cell_later HB2.out X5.out
            have c6 := cell_later HB2.out X6.out
            have c7 := cell_later HB2.out X7.out
            go_wp2_with (go_at_call 15; refine (CX.out _ HB2.out).mono ?_)
            rintro e w3 ⟨rfl, hb3⟩
            have HB3 := Lib.hid (bthen HB2.out hb3)
            clear hb3 c0 c1 c2 c3 c4 c5 c6 c7 CX
            have c3 := cell_later HB3.out X3.out
            have c4 := cell_later HB3.out X4.out
            go_wp2_with (go_at_call 32; refine (CG.out _ HB3.out).mono ?_)
            rintro e w4 ⟨rfl, hb⟩
            have HB4 := Lib.hid (bthen HB3.out hb)
            clear hb c3 c4 CG
            go_wp2_with (go_at_call 21; refine (CF.out _ HB4.out).mono ?_)
            rintro e w5 ⟨rfl, hb⟩
            have HB5 := Lib.hid (bthen HB4.out hb)
            clear hb CF
            go_wp2_with (go_at_call 21; refine (CO.out _ HB5.out).mono ?_)
            rintro e w6 ⟨rfl, hb⟩
            have HB6 := Lib.hid (bthen HB5.out hb)
            clear hb CO
            go_wp2
            go_ret
            exact ⟨rfl, HB6.out⟩
        · have hb : (fk == k) = false := by rw [beq_eq_false_iff_ne]; exact j
          subst h
          subst g
          clear j
          cases hg : getP s.al k
          all_goals
            rw [hg] at CG CF
            clear hg
            simp only [Bool.false_eq_true, if_false, if_true] at CF
            go_enter Tryd.func9, Tryd.ntmps9
            go_wp2_with (go_at_call 17; refine (CL.out _ HB0.out).mono ?_)
            rintro e w1 ⟨rfl, hb1⟩
            have HB1 := Lib.hid (bthen HB0.out hb1)
            clear hb1
            go_wp2_with (go_at_call 19; refine (CC.out _ HB1.out).mono ?_)
            rintro e w2 ⟨rfl, hb2⟩
            have HB2 := Lib.hid (bthen HB1.out hb2)
            clear hb2
            have c0 := cell_later HB2.out X0.out
            have c1 := cell_later HB2.out X1.out
            have c2 := cell_later HB2.out X2.out
            have c3 := cell_later HB2.out X3.out
            have c4 := cell_later HB2.out X4.out
            have c5 := cell_later HB2.out X5.out
            have c6 := cell_later HB2.out X6.out
            have c7 := cell_later HB2.out X7.out
            go_wp2_with (go_at_call 15; refine (CX.out _ HB2.out).mono ?_)
            rintro e w3 ⟨rfl, hb3⟩
            have HB3 := Lib.hid (bthen HB2.out hb3)
            clear hb3 c0 c1 c2 c3 c4 c5 c6 c7 CX
            have c3 := cell_later HB3.out X3.out
            have c4 := cell_later HB3.out X4.out
            go_wp2_with (go_at_call 32; refine (CG.out _ HB3.out).mono ?_)
            rintro e w4 ⟨rfl, hb⟩
            have HB4 := Lib.hid (bthen HB3.out hb)
            clear hb c3 c4 CG
            go_wp2_with (go_at_call 21; refine (CF.out _ HB4.out).mono ?_)
            rintro e w5 ⟨rfl, hb⟩
            have HB5 := Lib.hid (bthen HB4.out hb)
            clear hb CF
            go_wp2_with (go_at_call 21; refine (CO.out _ HB5.out).mono ?_)
            rintro e w6 ⟨rfl, hb⟩
            have HB6 := Lib.hid (bthen HB5.out hb)
            clear hb CO
            go_wp2
            go_ret
            exact ⟨rfl, HB6.out⟩
        · subst h
          subst g
          subst j
          subst t
          cases hg : getP s.al fk
          all_goals
            rw [hg] at CG CF
            clear hg
            simp only [Bool.false_eq_true, if_false, if_true] at CF
            go_enter Tryd.func9, Tryd.ntmps9
            go_wp2_with (go_at_call 17; refine (CL.out _ HB0.out).mono ?_)
            rintro e w1 ⟨rfl, hb1⟩
            have HB1 := Lib.hid (bthen HB0.out hb1)
            clear hb1
            go_wp2_with (go_at_call 19; refine (CC.out _ HB1.out).mono ?_)
            rintro e w2 ⟨rfl, hb2⟩
            have HB2 := Lib.hid (bthen HB1.out hb2)
            clear hb2
            have c0 := cell_later HB2.out X0.out
            have c1 := cell_later HB2.out X1.out
            have c2 := cell_later HB2.out X2.out
            have c3 := cell_later HB2.out X3.out
            have c4 := cell_later HB2.out X4.out
            have c5 := cell_later HB2.out X5.out
            have c6 := cell_later HB2.out X6.out
            have c7 := cell_later HB2.out X7.out
            go_wp2_with (go_at_call 15; refine (CX.out _ HB2.out).mono ?_)
            rintro e w3 ⟨rfl, hb3⟩
            have HB3 := Lib.hid (bthen HB2.out hb3)
            clear hb3 c0 c1 c2 c3 c4 c5 c6 c7 CX
            have c3 := cell_later HB3.out X3.out
            have c4 := cell_later HB3.out X4.out
            go_wp2_with (go_at_call 32; refine (CG.out _ HB3.out).mono ?_)
            rintro e w4 ⟨rfl, hb⟩
            have HB4 := Lib.hid (bthen HB3.out hb)
            clear hb c3 c4 CG
            go_wp2_with (go_at_call 21; refine (CF.out _ HB4.out).mono ?_)
            rintro e w5 ⟨rfl, hb⟩
            have HB5 := Lib.hid (bthen HB4.out hb)
            clear hb CF
            go_wp2_with (go_at_call 21; refine (CO.out _ HB5.out).mono ?_)
            rintro e w6 ⟨rfl, hb⟩
            have HB6 := Lib.hid (bthen HB5.out hb)
            clear hb CO
            go_wp2
            go_ret
            exact ⟨rfl, HB6.out⟩
      · rw [HE1.out he] at CX
        clear he HE1 HFP CG
        go_enter Tryd.func9, Tryd.ntmps9
        go_wp2_with (go_at_call 17; refine (CL.out _ HB0.out).mono ?_)
        rintro e w1 ⟨rfl, hb1⟩
        have HB1 := Lib.hid (bthen HB0.out hb1)
        clear hb1
        go_wp2_with (go_at_call 19; refine (CC.out _ HB1.out).mono ?_)
        rintro e w2 ⟨rfl, hb2⟩
        have HB2 := Lib.hid (bthen HB1.out hb2)
        clear hb2
        have c0 := cell_later HB2.out X0.out
        have c1 := cell_later HB2.out X1.out
        have c2 := cell_later HB2.out X2.out
        have c3 := cell_later HB2.out X3.out
        have c4 := cell_later HB2.out X4.out
        have c5 := cell_later HB2.out X5.out
        have c6 := cell_later HB2.out X6.out
        have c7 := cell_later HB2.out X7.out
        go_wp2_with (go_at_call 15; refine (CX.out _ HB2.out).mono ?_)
        rintro e w3 ⟨rfl, hb3⟩
        have HB3 := Lib.hid (bthen HB2.out hb3)
        clear hb3 c0 c1 c2 c3 c4 c5 c6 c7 CX
        go_wp2
        go_ret
        exact ⟨rfl, HB3.out⟩
    · have hc : i < 0 ∨ (¬ i < 0 ∧ (l.length : Int) ≤ i) := by omega
      clear hin hok
      rcases hc with h | ⟨h0, h⟩
      all_goals
        go_enter Tryd.func9, Tryd.ntmps9
        go_wp2_with (go_at_call 17; refine (CL.out _ HB0.out).mono ?_)
        rintro e w1 ⟨rfl, hb1⟩
        have HB1 := Lib.hid (bthen HB0.out hb1)
        clear hb1
        go_wp2_with (go_at_call 19; refine (CC.out _ HB1.out).mono ?_)
        rintro e w2 ⟨rfl, hb2⟩
        have HB2 := Lib.hid (bthen HB1.out hb2)
        clear hb2
        go_wp2
        go_ret
        exact ⟨rfl, HB2.out⟩
  · rw [show chkE l = 2 from by simp [chkE, hok]] at CC
    clear hok
    go_enter Tryd.func9, Tryd.ntmps9
    go_wp2_with (go_at_call 17; refine (CL.out _ HB0.out).mono ?_)
    rintro e w1 ⟨rfl, hb1⟩
    have HB1 := Lib.hid (bthen HB0.out hb1)
    clear hb1
    go_wp2_with (go_at_call 19; refine (CC.out _ HB1.out).mono ?_)
    rintro e w2 ⟨rfl, hb2⟩
    have HB2 := Lib.hid (bthen HB1.out hb2)
    clear hb2
    go_wp2
    go_ret
    exact ⟨rfl, HB2.out⟩
end Go.Proofs.YtchbbldanmmpjaaDoor
