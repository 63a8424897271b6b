/- The law SpanRoom, walked. -/
import Derived.Test.YtchbbldanmmpjaaDoorUE
import Derived.Test.YtchbbldanmmpjaaDoorUG
import Derived.Test.YtchbbldanmmpjaaDoorUA
namespace Go.Proofs.YtchbbldanmmpjaaDoor
open Go.RowKit
set_option linter.unusedVariables false
set_option linter.unusedSimpArgs false

/-- Of a right span: where the first free bit is, or that there is none. -/
theorem first_spec {s : SpanB} (hr : rightP s = true) (h : firstE s.al 0 false = 0) : getP s.al (firstI s.al 0 false) = false ∧ getE s.al (firstI s.al 0 false) = 0 := by
  have hp := rightP_parts hr
  have hn := hp.2.2.2.2.2.1
  have hex : ∃ q : Nat, (q : Int) < manyP s.size ∧ bitP s.al q = false := by
    apply Classical.byContradiction
    intro hno
    refine (first_find hr).2 (fun j hj => ?_) h
    cases hb : bitP s.al j
    · exact absurd ⟨j, hj, hb⟩ hno
    · rfl
  have hmin : ∃ q : Nat, ((q : Int) < manyP s.size ∧ bitP s.al q = false) ∧ ∀ j, j < q → bitP s.al j = true := by
    obtain ⟨q, hq⟩ := hex
    induction q using Nat.strongRecOn with
    | ind q ih =>
      by_cases hall : ∀ j, j < q → bitP s.al j = true
      · exact ⟨q, hq, hall⟩
      · simp only [Classical.not_forall] at hall
        obtain ⟨j, hj, hb⟩ := hall
        exact ih j hj ⟨by omega, by simpa using hb⟩
  obtain ⟨q, ⟨hq, hb⟩, hlo⟩ := hmin
  have e := ((first_find hr).1 q hq hb hlo).2
  rw [e]
  have hin : putIn s.al (q : Int) := ⟨by omega, by omega⟩
  unfold getP getE
  rw [if_pos hp.2.2.2.1, if_pos hin, if_pos hp.2.2.2.1, if_pos hin, Int.toNat_natCast]
  exact ⟨hb, rfl⟩
theorem full_word {s : SpanB} (hr : rightP s = true) (wb : WordsB s.al) (h : firstE s.al 0 false ≠ 0) : (s.al.w = [1] ∧ s.al.n = 1) ∨ (s.al.w = [3] ∧ s.al.n = 2) ∨ (s.al.w = [15] ∧ s.al.n = 4) ∨ (s.al.w = [255] ∧ s.al.n = 8) := by
  have hp := rightP_parts hr
  have hm := manyP_of hp.1
  have ha := okB_parts hp.2.2.2.1
  have hn := hp.2.2.2.2.2.1
  obtain ⟨x, hx⟩ := List.length_eq_one_iff.1 (show s.al.w.length = 1 by omega)
  have hx0 := wb.words x (by rw [hx]; simp)
  have hall : ∀ j : Nat, (j : Int) < manyP s.size → bitP s.al j = true := by
    apply Classical.byContradiction
    intro hno
    simp only [Classical.not_forall] at hno
    obtain ⟨j, hj, hb⟩ := hno
    have hmin : ∃ q : Nat, ((q : Int) < manyP s.size ∧ bitP s.al q = false) ∧ ∀ j, j < q → bitP s.al j = true := by
      have hq : (j : Int) < manyP s.size ∧ bitP s.al j = false := ⟨hj, by simpa using hb⟩
      clear hb hj
      induction j using Nat.strongRecOn with
      | ind q ih =>
        by_cases hall : ∀ j, j < q → bitP s.al j = true
        · exact ⟨q, hq, hall⟩
        · simp only [Classical.not_forall] at hall
          obtain ⟨j, hj, hb⟩ := hall
          exact ih j hj ⟨by omega, by simpa using hb⟩
    obtain ⟨q, ⟨hq, hb⟩, hlo⟩ := hmin
    exact h ((first_find hr).1 q hq hb hlo).1
  have eb : ∀ i, i < 64 → bitP s.al i = x.toNat.testBit i := by
    intro i hi
    unfold bitP
    rw [show i / 64 = 0 from by omega, hx, show i % 64 = i from by omega]
    rfl
  have e : x.toNat = 2 ^ (manyP s.size).toNat - 1 := by
    apply Nat.eq_of_testBit_eq
    intro i
    rw [Nat.testBit_two_pow_sub_one]
    by_cases hi : i < (manyP s.size).toNat
    · rw [decide_eq_true hi, ← eb i (by omega)]
      exact hall i (by omega)
    · rw [decide_eq_false hi]
      by_cases h64 : i < 64
      · rw [← eb i h64]
        exact okB_bits hp.2.2.2.1 i (by rw [hx]; simpa using h64) (by omega)
      · exact Nat.testBit_lt_two_pow (Nat.lt_of_lt_of_le (by rw [p64]; omega) (Nat.pow_le_pow_right (by decide) (Nat.le_of_not_lt h64)))
  have hxe : x = ((2 ^ (manyP s.size).toNat - 1 : Nat) : Int) := by omega
  rw [hx, hn, hxe]
  rcases shapedP_size hp.1 with h' | h' | h' | h' | h' <;> rw [h']
  · exact .inl (by decide +kernel)
  · exact .inr (.inr (.inr (by decide +kernel)))
  · exact .inr (.inr (.inl (by decide +kernel)))
  · exact .inr (.inl (by decide +kernel))
  · exact .inl (by decide +kernel)

set_option maxRecDepth 100000 in
set_option maxHeartbeats 16000000 in
theorem room10 (A : Option Addr) (c : Nat) (vs : List SpanV) (l : List SpanB) (z : Int) (w : World) (h : RdL w A vs l) (hT : Tab w) : Calls Tryd.prog 10 #[.slice A l.length c, .int .i64 z] w (Ret (.bool true) w) := by
  have hl := h.len
  have CL : Hid (∀ W, Below w.heap.size w W → Calls Tryd.prog 17 #[] W (Ret (.bool true) W)) := fun W hW => lives17 W (hT.below hW)
  have CR : Hid (∀ W, Below w.heap.size w W → Calls Tryd.prog 23 #[.slice A l.length c, .int .i64 z] W (Ret (.tuple #[.int .i64 (roomP l z).i, .int .i64 (roomP l z).k, .int .i64 (roomP l z).e]) W)) := fun W hW => room23 A c vs l z W (h.below hW) (hT.below hW)
  have HB0 := Lib.hid (Below.refl w.heap.size w)
  have H := Lib.hid h
  clear h hT
  by_cases hok : okL l = true
  · cases hf : l.findIdx? (hasRoom z)
    · have E0 : roomP l z = ⟨0, 0, 3⟩ := by unfold roomP; rw [if_pos hok, hf]; rfl
      rw [E0] at CR
      rw [List.findIdx?_eq_none_iff] at hf
      have HNO := Lib.hid hf
      have HOK := Lib.hid hok
      clear hf hok E0
      go_enter Tryd.func10, Tryd.ntmps10
      go_wp2_with (go_at_call 17; refine (CL.out _ HB0.out).mono ?_)
      rintro e w1 ⟨rfl, hb1⟩
      have HB1 := Lib.hid (bthen HB0.out hb1)
      clear hb1
      go_wp2_with (go_at_call 23; refine (CR.out _ HB1.out).mono ?_)
      rintro e w2 ⟨rfl, hb2⟩
      have HB2 := Lib.hid (bthen HB1.out hb2)
      clear hb2
      go_wp2
      obtain ⟨wo, hwo⟩ : ∃ wo : World, wo = w2 := ⟨w2, rfl⟩
      go_loopw [61] (fun i wr => ∃ k : Nat, k ≤ l.length ∧ i = .int .i64 k ∧ Hid (Below w.heap.size w wr)) (fun i _ => l.length - (intOf i).toNat)
      case atStart => exact ⟨0, Nat.zero_le _, rfl, HB2.out⟩
      case round =>
        obtain ⟨k, hk, rfl, HBr⟩ := hrel
        by_cases hlt : k < l.length
        · have hs : l[k]? = some l[k] := List.getElem?_eq_getElem hlt
          generalize l[k] = s at hs
          have hno := HNO.out s (List.mem_of_getElem? hs)
          obtain ⟨v, bk, o, hv, hR, hA, hbk, c0, c1, c2, c3, c4, c5, c6, c7⟩ := H.out.at_ hs
          obtain ⟨hcr, hfr⟩ := bcell HBr.out
          have hr := okL_right HOK.out hs
          have hp := rightP_parts hr
          have hm := manyP_of hp.1
          have ha := okB_parts hp.2.2.2.1
          have hn := hp.2.2.2.2.2.1
          obtain ⟨x, hx⟩ := List.length_eq_one_iff.1 (show s.al.w.length = 1 by omega)
          have C1 : Hid (∀ W, Below w.heap.size w W → Calls Tryd.prog 33 #[v.al.v] W (RetIE (fun _ => True) W)) := fun W hW => count33 v.al s.al x W _ _ (hR.al.below hW) hp.2.2.2.1 hx (fun W => ones63 x W) (fun _ _ => trivial)
          have C2 : Hid (s.size = z → s.sw = true → ∀ W, Below w.heap.size w W → Calls Tryd.prog 33 #[v.al.v] W (RetIE (fun n => n = s.al.n) W)) := fun h1 h2 W hW => by
            have hfe : firstE s.al 0 false ≠ 0 := fun e => by
              unfold hasRoom at hno
              rw [h1, h2, e] at hno
              simp at hno
            rcases full_word hr hR.al.ws hfe with ⟨e1, e2⟩ | ⟨e1, e2⟩ | ⟨e1, e2⟩ | ⟨e1, e2⟩
            · exact count33 v.al s.al 1 W _ _ (hR.al.below hW) hp.2.2.2.1 e1 (fun W => ones63_1 W) (fun n hn => by rw [hn, e2]; decide +kernel)
            · exact count33 v.al s.al 3 W _ _ (hR.al.below hW) hp.2.2.2.1 e1 (fun W => ones63_3 W) (fun n hn => by rw [hn, e2]; decide +kernel)
            · exact count33 v.al s.al 15 W _ _ (hR.al.below hW) hp.2.2.2.1 e1 (fun W => ones63_15 W) (fun n hn => by rw [hn, e2]; decide +kernel)
            · exact count33 v.al s.al 255 W _ _ (hR.al.below hW) hp.2.2.2.1 e1 (fun W => ones63_255 W) (fun n hn => by rw [hn, e2]; decide +kernel)
          have h1 := hR.size
          have h2 := hR.sw
          have h3 := hR.al.n
          obtain ⟨f, p, z', ⟨n, A1, m, ca⟩, ⟨n', A2, m', cb⟩, sw⟩ := v
          unfold BitV.v at C1 C2
          simp only at c0 c1 c2 c3 c4 c5 c6 c7 C1 C2 h1 h2 h3
          subst hA
          subst h1
          subst h2
          subst h3
          have HB3 := Lib.hid (balloc HBr.out (.cells #[.int .i64 f, .int .i64 p, .int .i64 s.size, .int .i64 s.al.n, .slice A1 m ca, .int .i64 n', .slice A2 m' cb, .bool s.sw] 26))
          clear hv hs hR hr hp hm ha hn hx hno
          by_cases hz : s.size = z
          · by_cases hw : s.sw = true
            · have C3 := Lib.hid (C2.out hz hw)
              rw [hw] at c7 HB3
              subst hz
              clear hw C1 C2
              go_wp2_with (go_at_call 33; refine (C3.out _ HB3.out).mono ?_)
              rintro e w4 ⟨nn, rfl, rfl, hb⟩
              obtain ⟨hc4, hf4, hs4⟩ := bcellB (B := wr.heap.size + 1) hb (by simp)
              have HB4 := Lib.hid (bthen HB3.out hb)
              clear hb
              go_wp2
              go_roundw
              case rel => exact ⟨k + 1, by omega, by go_num, HB4.out⟩
              case measure => simp [intOf]; omega
            · replace hw : s.sw = false := by simpa using hw
              rw [hw] at c7 HB3
              subst hz
              clear hw C2
              go_wp2_with (go_at_call 33; refine (C1.out _ HB3.out).mono ?_)
              rintro e w4 ⟨nn, -, rfl, hb⟩
              obtain ⟨hc4, hf4, hs4⟩ := bcellB (B := wr.heap.size + 1) hb (by simp)
              have HB4 := Lib.hid (bthen HB3.out hb)
              clear hb
              go_wp2
              go_roundw
              case rel => exact ⟨k + 1, by omega, by go_num, HB4.out⟩
              case measure => simp [intOf]; omega
          · have hzb : (s.size == z) = false := by rw [beq_eq_false_iff_ne]; exact hz
            clear hz C2
            go_wp2_with (go_at_call 33; refine (C1.out _ HB3.out).mono ?_)
            rintro e w4 ⟨nn, -, rfl, hb⟩
            obtain ⟨hc4, hf4, hs4⟩ := bcellB (B := wr.heap.size + 1) hb (by simp)
            have HB4 := Lib.hid (bthen HB3.out hb)
            clear hb
            go_wp2
            go_roundw
            case rel => exact ⟨k + 1, by omega, by go_num, HB4.out⟩
            case measure => simp [intOf]; omega
        · obtain rfl : k = l.length := by omega
          go_wp2
          go_ret
          exact ⟨rfl, HBr.out⟩
    · rename_i i
      have E0 : roomP l z = roomIn l (some i) := by unfold roomP; rw [if_pos hok, hf]
      rw [List.findIdx?_eq_some_iff_getElem] at hf
      obtain ⟨hil, hin, _⟩ := hf
      have hs : l[i]? = some l[i] := List.getElem?_eq_getElem hil
      generalize l[i] = s at hs hin
      have hr := okL_right hok hs
      unfold hasRoom at hin
      simp only [Bool.and_eq_true, beq_iff_eq] at hin
      obtain ⟨h1, h2, h3⟩ := hin
      have hsp := first_spec hr h3
      have E1 : roomP l z = ⟨i, firstI s.al 0 false, 0⟩ := by rw [E0]; show roomAt i l[i]? = _; rw [hs]; rfl
      rw [E1] at CR
      obtain ⟨v, bk, o, hv, hR, hA, hbk, c0, c1, c2, c3, c4, c5, c6, c7⟩ := H.out.at_ hs
      have CG : Hid (∀ W, Below w.heap.size w W → Calls Tryd.prog 32 #[v.al.v, .int .i64 (firstI s.al 0 false)] W (Ret (.tuple #[.bool false, .int .i64 0]) W)) := fun W hW => by
        have := get32 v.al s.al (firstI s.al 0 false) W (hR.al.below hW)
        rwa [hsp.1, hsp.2] at this
      generalize firstI s.al 0 false = fi at *
      have g1 := hR.size
      have g2 := hR.sw
      obtain ⟨f, p, z', ⟨n, A1, m, ca⟩, ⟨n', A2, m', cb⟩, sw⟩ := v
      unfold BitV.v at CG
      simp only at c0 c1 c2 c3 c4 c5 c6 c7 CG CR g1 g2
      subst hA
      rw [g1, h1] at c2
      rw [g2, h2] at c7
      clear hv hs hR hr hok E0 E1 g1 g2 h1 h2 h3 hsp c0 c1 c5 c6
      have X2 := Lib.hid c2
      have X3 := Lib.hid c3
      have X4 := Lib.hid c4
      have X7 := Lib.hid c7
      clear c2 c3 c4 c7
      go_enter Tryd.func10, Tryd.ntmps10
      go_wp2_with (go_at_call 17; refine (CL.out _ HB0.out).mono ?_)
      rintro e w1 ⟨rfl, hb1⟩
      have HB1 := Lib.hid (bthen HB0.out hb1)
      clear hb1
      go_wp2_with (go_at_call 23; refine (CR.out _ HB1.out).mono ?_)
      rintro e w2 ⟨rfl, hb2⟩
      have HB2 := Lib.hid (bthen HB1.out hb2)
      clear hb2
      have c2 := cell_later HB2.out X2.out
      have c3 := cell_later HB2.out X3.out
      have c4 := cell_later HB2.out X4.out
      have c7 := cell_later HB2.out X7.out
      go_wp2_with (go_at_call 32; refine (CG.out _ HB2.out).mono ?_)
      rintro e w3 ⟨rfl, hb3⟩
      have HB3 := Lib.hid (bthen HB2.out hb3)
      clear hb3 c2 c3 c4 c7
      have c2 := cell_later HB3.out X2.out
      have c7 := cell_later HB3.out X7.out
      go_wp2
      go_ret
      exact ⟨rfl, HB3.out⟩
  · have E0 : roomP l z = ⟨0, 0, 2⟩ := by unfold roomP; rw [if_neg hok]
    rw [E0] at CR
    clear hok E0
    go_enter Tryd.func10, Tryd.ntmps10
    go_wp2_with (go_at_call 17; refine (CL.out _ HB0.out).mono ?_)
    rintro e w1 ⟨rfl, hb1⟩
    have HB1 := Lib.hid (bthen HB0.out hb1)
    clear hb1
    go_wp2_with (go_at_call 23; refine (CR.out _ HB1.out).mono ?_)
    rintro e w2 ⟨rfl, hb2⟩
    have HB2 := Lib.hid (bthen HB1.out hb2)
    clear hb2
    go_wp2
    go_ret
    exact ⟨rfl, HB2.out⟩
end Go.Proofs.YtchbbldanmmpjaaDoor
