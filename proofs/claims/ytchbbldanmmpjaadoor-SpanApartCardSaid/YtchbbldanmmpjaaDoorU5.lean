/- The law SpanApart, walked. -/
import Derived.Test.YtchbbldanmmpjaaDoorT7
namespace Go.Proofs.YtchbbldanmmpjaaDoor
open Go.RowKit
set_option linter.unusedVariables false
set_option linter.unusedSimpArgs false

theorem addr_ok {s : SpanB} {a : Int} (hr : rightP s = true) (h : addrE s a = 0) : 0 ≤ a ∧ a < manyP s.size ∧ addrN s a = s.first * 16 + a * s.size ∧ 0 ≤ a * s.size ∧ a * s.size + 2 ≤ s.pages * 16 := by
  unfold addrE at h
  rw [if_pos hr] at h
  by_cases hin : 0 ≤ a ∧ a < manyP s.size
  · have hp := rightP_parts hr
    have hb := slot_bound hp.1 hin.1 hin.2
    have hg := shapedP_pages hp.1
    refine ⟨hin.1, hin.2, ?_, hb.1, by omega⟩
    unfold addrN
    rw [if_pos hr, if_pos hin]
  · rw [if_neg hin] at h
    omega
theorem apart {l : List SpanB} (hok : okL l = true) {i k : Nat} {s t : SpanB} (hs : l[i]? = some s) (ht : l[k]? = some t) {a b : Int} (ha : addrE s a = 0) (hb : addrE t b = 0) (hne : ¬ ((i : Int) = k ∧ a = b)) :
    (addrN t b + 2 ≤ addrN s a ∨ addrN s a + 2 ≤ addrN t b) ∧ 0 ≤ addrN s a ∧ addrN s a ≤ 20000 ∧ 0 ≤ addrN t b ∧ addrN t b ≤ 20000 := by
  have hrs := okL_right hok hs
  have hrt := okL_right hok ht
  obtain ⟨a0, a1, ea, a2, a3⟩ := addr_ok hrs ha
  obtain ⟨b0, b1, eb, b2, b3⟩ := addr_ok hrt hb
  have ps := rightP_parts hrs
  have pt := rightP_parts hrt
  have gs := shapedP_pages ps.1
  have gt := shapedP_pages pt.1
  rw [ea, eb]
  refine ⟨?_, by omega, by omega, by omega, by omega⟩
  rcases Nat.lt_trichotomy i k with h | h | h
  · have := okL_lt hok h hs ht
    unfold endP at this
    omega
  · subst h
    rw [hs] at ht
    cases ht
    have hab : a ≠ b := fun e => hne ⟨rfl, e⟩
    have hz := shapedP_size ps.1
    rcases hz with h | h | h | h | h
    · have : manyP s.size = 1 := by rw [h]; decide +kernel
      omega
    all_goals
      rw [h]
      omega
  · have := okL_lt hok h ht hs
    unfold endP at this
    omega

set_option maxRecDepth 100000 in
set_option maxHeartbeats 8000000 in
theorem apart7 (A : Option Addr) (c : Nat) (vs : List SpanV) (l : List SpanB) (i k a b : Int) (w : World) (h : RdL w A vs l) (hT : Tab w) :
    Calls Tryd.prog 7 #[.slice A l.length c, .int .i64 i, .int .i64 k, .int .i64 a, .int .i64 b] w (Ret (.bool true) w) := by
  have hl := h.len
  have CL := Lib.hid (lives17 w hT)
  have CC : Hid (∀ W, Below w.heap.size w W → Calls Tryd.prog 19 #[.slice A l.length c] W (Ret (.int .i64 (chkE l)) W)) := fun W hW => check19 A c vs l W (h.below hW)
  have H := Lib.hid h
  clear h hT
  by_cases hok : okL l = true
  · rw [show chkE l = 0 from by simp [chkE, hok]] at CC
    by_cases hin : 0 ≤ i ∧ 0 ≤ k ∧ i < l.length ∧ k < l.length
    · obtain ⟨hi0, hk0, hi1, hk1⟩ := hin
      obtain ⟨i, rfl⟩ := Int.eq_ofNat_of_zero_le hi0
      obtain ⟨k, rfl⟩ := Int.eq_ofNat_of_zero_le hk0
      have hil : i < l.length := by omega
      have hkl : k < l.length := by omega
      have hs : l[i]? = some l[i] := List.getElem?_eq_getElem hil
      have ht : l[k]? = some l[k] := List.getElem?_eq_getElem hkl
      generalize l[i] = s at hs
      generalize l[k] = t at ht
      have HAP : Hid (∀ a b, addrE s a = 0 → addrE t b = 0 → ¬ ((i : Int) = k ∧ a = b) → (addrN t b + 2 ≤ addrN s a ∨ addrN s a + 2 ≤ addrN t b) ∧ 0 ≤ addrN s a ∧ addrN s a ≤ 20000 ∧ 0 ≤ addrN t b ∧ addrN t b ≤ 20000) := fun a b ha hb hne => apart hok hs ht ha hb hne
      obtain ⟨v, bv, ov, hvi, hR, hA, hbv, c0, c1, c2, c3, c4, c5, c6, c7⟩ := H.out.at_ hs
      obtain ⟨u, bu, ou, hvk, hR', hA', hbu, d0, d1, d2, d3, d4, d5, d6, d7⟩ := H.out.at_ ht
      subst hA
      cases hA'
      have CX : Hid (∀ W, Below w.heap.size w W → Calls Tryd.prog 15 #[v.v, .int .i64 a] W (Ret (.tuple #[.int .u64 (addrN s a), .int .i64 (addrE s a)]) W)) := fun W hW => addr15 v s a W (hR.below hW)
      have CY : Hid (∀ W, Below w.heap.size w W → Calls Tryd.prog 15 #[u.v, .int .i64 b] W (Ret (.tuple #[.int .u64 (addrN t b), .int .i64 (addrE t b)]) W)) := fun W hW => addr15 u t b W (hR'.below hW)
      obtain ⟨f, p, z, ⟨n, A1, m1, ca⟩, ⟨n', A2, m', cb⟩, sw⟩ := v
      obtain ⟨f2, p2, z2, ⟨n2, A12, m12, ca2⟩, ⟨n2', A22, m2', cb2⟩, sw2⟩ := u
      unfold SpanV.v at CX CY
      simp only at c0 c1 c2 c3 c4 c5 c6 c7 d0 d1 d2 d3 d4 d5 d6 d7 CX CY
      have HC : Hid (∀ W, Below w.heap.size w W → True) := fun _ _ => trivial
      clear hR hR' hvi hvk hs ht hok hi0 hk0
      have X0 := Lib.hid c0
      have X1 := Lib.hid c1
      have X2 := Lib.hid c2
      have X3 := Lib.hid c3
      have X4 := Lib.hid c4
      have X5 := Lib.hid c5
      have X6 := Lib.hid c6
      have X7 := Lib.hid c7
      have Y0 := Lib.hid d0
      have Y1 := Lib.hid d1
      have Y2 := Lib.hid d2
      have Y3 := Lib.hid d3
      have Y4 := Lib.hid d4
      have Y5 := Lib.hid d5
      have Y6 := Lib.hid d6
      have Y7 := Lib.hid d7
      clear c0 c1 c2 c3 c4 c5 c6 c7 d0 d1 d2 d3 d4 d5 d6 d7
      go_enter Tryd.func7, Tryd.ntmps7
      go_wp2_with (go_at_call 17; refine CL.out.mono ?_)
      rintro e w1 ⟨rfl, hb1⟩
      have HB1 := Lib.hid hb1
      clear hb1
      go_wp2_with (go_at_call 19; refine (CC.out _ HB1.out).mono ?_)
      rintro e w2 ⟨rfl, hb2⟩
      have HB2 := Lib.hid (bthen HB1.out hb2)
      clear hb2
      have c0 := cell_later HB2.out X0.out
      have c1 := cell_later HB2.out X1.out
      have c2 := cell_later HB2.out X2.out
      have c3 := cell_later HB2.out X3.out
      have c4 := cell_later HB2.out X4.out
      have c5 := cell_later HB2.out X5.out
      have c6 := cell_later HB2.out X6.out
      have c7 := cell_later HB2.out X7.out
      go_wp2_with (go_at_call 15; refine (CX.out _ HB2.out).mono ?_)
      rintro e w3 ⟨rfl, hb3⟩
      have HB3 := Lib.hid (bthen HB2.out hb3)
      clear hb3 c0 c1 c2 c3 c4 c5 c6 c7 CX
      have d0 := cell_later HB3.out Y0.out
      have d1 := cell_later HB3.out Y1.out
      have d2 := cell_later HB3.out Y2.out
      have d3 := cell_later HB3.out Y3.out
      have d4 := cell_later HB3.out Y4.out
      have d5 := cell_later HB3.out Y5.out
      have d6 := cell_later HB3.out Y6.out
      have d7 := cell_later HB3.out Y7.out
      go_wp2_with (go_at_call 15; refine (CY.out _ HB3.out).mono ?_)
      rintro e w4 ⟨rfl, hb4⟩
      have HB4 := Lib.hid (bthen HB3.out hb4)
      clear hb4 d0 d1 d2 d3 d4 d5 d6 d7 CY
      by_cases e1 : addrE s a = 0
      · by_cases e2 : addrE t b = 0
        · by_cases e3 : (i : Int) = k ∧ a = b
          · obtain ⟨e3, e4⟩ := e3
            obtain rfl : i = k := by omega
            subst e4
            rw [e1, e2]
            clear e1 e2 e3
            go_wp2
            go_ret
            exact ⟨rfl, HB4.out⟩
          · obtain ⟨hd, q0, q1, q2, q3⟩ := HAP.out a b e1 e2 e3
            rw [e1, e2]
            clear e1 e2 HAP
            generalize addrN s a = x at *
            generalize addrN t b = y at *
            have hc : (¬ (i : Int) = k) ∨ ((i : Int) = k ∧ ¬ a = b) := by omega
            clear e3
            rcases hc with hc | ⟨hc, hab⟩
            · have hib : ((i : Int) == (k : Int)) = false := by simpa using hc
              have hib2 : (i == k) = false := by rw [beq_eq_false_iff_ne]; omega
              clear hc
              rcases hd with hd | hd
              · go_wp2
                go_ret
                exact ⟨rfl, HB4.out⟩
              · have hd2 : ¬ y + 2 ≤ x := by omega
                go_wp2
                go_ret
                exact ⟨rfl, HB4.out⟩
            · have hab2 : (a == b) = false := by simpa using hab
              obtain rfl : i = k := by omega
              clear hc hab
              rcases hd with hd | hd
              · go_wp2
                go_ret
                exact ⟨rfl, HB4.out⟩
              · have hd2 : ¬ y + 2 ≤ x := by omega
                go_wp2
                go_ret
                exact ⟨rfl, HB4.out⟩
        · have e2b : (addrE t b != 0) = true := by rw [bne_iff_ne]; exact e2
          rw [e1]
          clear e1 e2
          go_wp2
          go_ret
          exact ⟨rfl, HB4.out⟩
      · have e1b : (addrE s a != 0) = true := by rw [bne_iff_ne]; exact e1
        clear e1
        go_wp2
        go_ret
        exact ⟨rfl, HB4.out⟩
    · have hc : i < 0 ∨ (¬ i < 0 ∧ k < 0) ∨ (¬ i < 0 ∧ ¬ k < 0 ∧ (l.length : Int) ≤ i) ∨ (¬ i < 0 ∧ ¬ k < 0 ∧ ¬ (l.length : Int) ≤ i ∧ (l.length : Int) ≤ k) := by omega
      clear hin hok
      rcases hc with h | ⟨h0, h⟩ | ⟨h0, h1, h⟩ | ⟨h0, h1, h2, h⟩
      all_goals
        go_enter Tryd.func7, Tryd.ntmps7
        go_wp2_with (go_at_call 17; refine CL.out.mono ?_)
        rintro e w1 ⟨rfl, hb1⟩
        have HB1 := Lib.hid hb1
        clear hb1
        go_wp2_with (go_at_call 19; refine (CC.out _ HB1.out).mono ?_)
        rintro e w2 ⟨rfl, hb2⟩
        have HB2 := Lib.hid (bthen HB1.out hb2)
        clear hb2
        go_wp2
        go_ret
        exact ⟨rfl, HB2.out⟩
  · rw [show chkE l = 2 from by simp [chkE, hok]] at CC
    clear hok
    go_enter Tryd.func7, Tryd.ntmps7
    go_wp2_with (go_at_call 17; refine CL.out.mono ?_)
    rintro e w1 ⟨rfl, hb1⟩
    have HB1 := Lib.hid hb1
    clear hb1
    go_wp2_with (go_at_call 19; refine (CC.out _ HB1.out).mono ?_)
    rintro e w2 ⟨rfl, hb2⟩
    have HB2 := Lib.hid (bthen HB1.out hb2)
    clear hb2
    go_wp2
    go_ret
    exact ⟨rfl, HB2.out⟩
end Go.Proofs.YtchbbldanmmpjaaDoor
