/- The walk of heap's framed. -/
import Derived.Test.YtieijfefnedifaaGreatDoorMC1C6
import Derived.Test.YtieijfefnedifaaGreatDoorMH1H3
import Derived.Deep.AppendLies
namespace Go.Proofs.YtieijfefnedifaaGreatDoor
open Go.RowKit
set_option linter.unusedVariables false
set_option linter.unusedSimpArgs false

structure StAt (w : World) (b : Nat) (v : HeapV) (o : Value) : Prop where
  c0 : w.cell? ⟨b, 0, none⟩ = some (.slice v.aA v.aN v.aC)
  c1 : w.cell? ⟨b, 1, none⟩ = some (.int .i64 v.us.n)
  c2 : w.cell? ⟨b, 2, none⟩ = some (.slice v.us.A v.us.m v.us.c)
  c3 : w.cell? ⟨b, 3, none⟩ = some (.slice v.sA v.sN v.sC)
  c4 : w.cell? ⟨b, 4, none⟩ = some o
theorem StAt.below {w w1 : World} {b : Nat} {v : HeapV} {o : Value} (h : StAt w b v o) (hb : Below w.heap.size w w1) : StAt w1 b v o :=
  ⟨cell_later hb h.c0, cell_later hb h.c1, cell_later hb h.c2, cell_later hb h.c3, cell_later hb h.c4⟩
theorem RdB.own {w : World} {v : BitV} {b : BitB} {base : Nat} (hn : v.n = b.n) (hm : v.m = b.w.length) (hc : v.m ≤ v.c) (ho : OwU w base (.slice v.A v.m v.c) b.w) (hk : okB b = true) (hw : Words b.w) : RdB w v b := by
  have := okB_parts hk
  exact ⟨hn, hm, hc, by omega, by omega, hw, ho.rd hm.symm⟩
theorem cell_set2 {w : World} {q : Nat} {x y x' y' : Value} (h0 : w.cell? ⟨q, 0, none⟩ = some x) (h1 : w.cell? ⟨q, 1, none⟩ = some y) :
    ((w.setCell ⟨q, 0, none⟩ x').setCell ⟨q, 1, none⟩ y').cell? ⟨q, 0, none⟩ = some x' ∧ ((w.setCell ⟨q, 0, none⟩ x').setCell ⟨q, 1, none⟩ y').cell? ⟨q, 1, none⟩ = some y' ∧
    (∀ b o, b ≠ q → ((w.setCell ⟨q, 0, none⟩ x').setCell ⟨q, 1, none⟩ y').cell? ⟨b, o, none⟩ = w.cell? ⟨b, o, none⟩) := by
  have n1 : (⟨q, 0, none⟩ : Addr) ≠ ⟨q, 1, none⟩ := by simp
  have n2 : (⟨q, 1, none⟩ : Addr) ≠ ⟨q, 0, none⟩ := by simp
  refine ⟨?_, ?_, fun b o hb => ?_⟩
  · rw [World.cell?_setCell_other (h := n2)]
    exact World.cell?_setCell_same _ _ _ h0
  · exact World.cell?_setCell_same _ _ _ ((World.cell?_setCell_other (h := n1) ..).trans h1)
  · rw [World.cell?_setCell_far _ _ _ _ (by simp; omega), World.cell?_setCell_far _ _ _ _ (by simp; omega)]
theorem wantTo_append (l m : List SpanB) : ∀ b, wantTo b (l ++ m) = wantTo (wantTo b l) m := by
  induction l with
  | nil => intro b; rfl
  | cons s t ih => intro b; exact ih _
theorem fillsTo_append (l m : List SpanB) : ∀ b, fillsTo b (l ++ m) = (fillsTo b l && fillsTo (wantTo b l) m) := by
  induction l with
  | nil => intro b; rfl
  | cons s t ih => intro b; simp only [List.cons_append, fillsTo, wantTo, ih, Bool.and_assoc]
theorem take_next {l : List SpanB} {k : Nat} {s : SpanB} (h : l[k]? = some s) : l.take (k + 1) = l.take k ++ [s] := by
  obtain ⟨hk, e⟩ := List.getElem?_eq_some_iff.1 h
  rw [List.take_succ_eq_append_getElem hk, e]
theorem fills_bad {l : List SpanB} {k : Nat} {s : SpanB} {b : BitB} (h : l[k]? = some s) (hb : fillsTo (wantTo b (l.take k)) [s] = false) : fillsTo b l = false := by
  have e : l = l.take k ++ ([s] ++ l.drop (k + 1)) := by
    rw [← List.append_assoc, ← take_next h, List.take_append_drop]
  rw [e, fillsTo_append, fillsTo_append, hb]
  simp
theorem framed_no {h : HeapB} (hb : baseP h = false) : framedP h = false := by unfold framedP; rw [hb]; rfl
set_option maxRecDepth 100000 in
set_option maxHeartbeats 16000000 in
theorem framed43 (b : Nat) (v : HeapV) (h : HeapB) (o : Value) (w : World) (hS : StAt w b v o) (hb : b < w.heap.size) (hr : RdH w v h) : Calls Tryz.prog 43 #[.pointer (some ⟨b, 0, none⟩)] w (Ret (.bool (framedP h)) w) := by
  have CA : Hid (∀ W, Calls Tryz.prog 74 #[.agg #[.slice v.aA v.aN v.aC]] W (Ret (.int .i64 (arE v.aN)) W)) := fun W => archeck _ _ _ W
  have CP : Hid (∀ W, Below w.heap.size w W → Calls Tryz.prog 59 #[v.us.v] W (Ret (.int .i64 (okE h.us)) W)) := fun W hW => pgcheck _ _ W (hr.us.below hW)
  have CS : Hid (∀ W, Below w.heap.size w W → Calls Tryz.prog 66 #[.slice v.sA h.sp.length v.sC] W (Ret (.int .i64 (chkE h.sp)) W)) := fun W hW => check19 v.sA v.sC v.vs h.sp W (hr.sp.below hW)
  have hn := hr.n
  have hun := hr.us.n
  have hum := hr.us.m
  have hsn := hr.sn
  have hlen := hr.sp.len
  obtain ⟨s0, s1, s2, s3, s4⟩ := hS
  have HR := Lib.hid hr
  obtain ⟨aA, aN, aC, ⟨n, uA, um, uc⟩, sA, sN, sC, vs⟩ := v
  simp only at hn hun hum hsn s0 s1 s2 s3 CA CP CS HR
  subst hn
  subst hun
  subst hum
  subst hsn
  unfold BitV.v at CP
  simp only at CP
  clear hr
  by_cases ha : h.ar.length ≤ 16384
  · rw [show arE h.ar.length = 0 from by unfold arE; rw [if_pos ha]] at CA
    by_cases hu : okB h.us = true
    · rw [okE_0 hu] at CP
      by_cases hk : okL h.sp = true
      · rw [show chkE h.sp = 0 from by unfold chkE; rw [if_pos hk]] at CS
        have hup := okB_parts hu
        by_cases hN : h.us.n < 1
        · have E : Hid (framedP h = false) := framed_no (by unfold baseP; rw [decide_eq_false (show ¬ 1 ≤ h.us.n by omega)]; simp)
          clear hup ha hu hk
          go_enter Tryz.func43, Tryz.ntmps43
          go_wp2_with (go_at_call 74; refine (CA.out _).mono ?_)
          rintro e w1 ⟨rfl, hb1⟩
          obtain ⟨hc1, hf1, hs1⟩ := bcellB (B := w.heap.size) hb1 (Nat.le_refl _)
          have HB1 := Lib.hid hb1
          have y1 : b < w1.heap.size := by omega
          clear hb1
          go_wp2_with (go_at_call 59; refine (CP.out _ HB1.out).mono ?_)
          rintro e w2 ⟨rfl, hb2⟩
          obtain ⟨hc2, hf2, hs2⟩ := bcellB (B := w.heap.size) hb2 hs1
          have HB2 := Lib.hid (bthen HB1.out hb2)
          have y2 : b < w2.heap.size := by omega
          clear hb2
          go_wp2_with (go_at_call 66; refine (CS.out _ HB2.out).mono ?_)
          rintro e w3 ⟨rfl, hb3⟩
          obtain ⟨hc3, hf3, hs3⟩ := bcellB (B := w.heap.size) hb3 hs2
          have HB3 := Lib.hid (bthen HB2.out hb3)
          have y3 : b < w3.heap.size := by omega
          clear hb3
          have S0 : Hid (w3.cell? ⟨b, 0, none⟩ = some (.slice aA h.ar.length aC)) := ((hc3 _ _ hb).trans ((hc2 _ _ hb).trans ((hc1 _ _ hb).trans s0)))
          have S3 : Hid (w3.cell? ⟨b, 3, none⟩ = some (.slice sA h.sp.length sC)) := ((hc3 _ _ hb).trans ((hc2 _ _ hb).trans ((hc1 _ _ hb).trans s3)))
          go_wp2
          have HB4 := Lib.hid (balloc HB3.out (.cells #[.int .i64 h.us.n, .slice uA h.us.w.length uc] 26))
          have F0 : Hid ((w3.alloc (.cells #[.int .i64 h.us.n, .slice uA h.us.w.length uc] 26)).cell? ⟨w3.heap.size, 0, none⟩ = some (.int .i64 h.us.n)) := by show _ = _; go_simp
          have F1 : Hid ((w3.alloc (.cells #[.int .i64 h.us.n, .slice uA h.us.w.length uc] 26)).cell? ⟨w3.heap.size, 1, none⟩ = some (.slice uA h.us.w.length uc)) := by show _ = _; go_simp
          have T0 : Hid ((w3.alloc (.cells #[.int .i64 h.us.n, .slice uA h.us.w.length uc] 26)).cell? ⟨b, 0, none⟩ = some (.slice aA h.ar.length aC)) := cell_later (balloc (Below.refl _ w3) _) S0.out
          have T3 : Hid ((w3.alloc (.cells #[.int .i64 h.us.n, .slice uA h.us.w.length uc] 26)).cell? ⟨b, 3, none⟩ = some (.slice sA h.sp.length sC)) := cell_later (balloc (Below.refl _ w3) _) S3.out
          have HZ : Hid ((w3.alloc (.cells #[.int .i64 h.us.n, .slice uA h.us.w.length uc] 26)).heap.size = w3.heap.size + 1) := by show _ = _; simp
          generalize w3.alloc (.cells #[.int .i64 h.us.n, .slice uA h.us.w.length uc] 26) = W4 at *
          clear hc1 hc2 hc3 hf1 hf2 hf3
          refine region_up (by kernel_rfl) (by kernel_rfl) ?_
          iterate 4
            go_big_quiet_want
            apply Exists.intro
            refine ⟨fun W hW => ?_, ?_⟩
            · have g0 := cell_later hW F0.out
              have g1 := cell_later hW F1.out
              have g2 := cell_later hW T0.out
              have g3 := cell_later hW T3.out
              go_simp
              all_goals exact rfl
            simp only [Act.put, List.setIfInBounds_toArray, List.set_cons_succ, List.set_cons_zero]
            go_big_quiet_on
          iterate 11 go_big_quiet_skip
          go_big_quiet_want
          apply Exists.intro
          refine ⟨fun W hW => ?_, ?_⟩
          · have g0 := cell_later hW F0.out
            have g1 := cell_later hW F1.out
            have g2 := cell_later hW T0.out
            have g3 := cell_later hW T3.out
            go_simp
            all_goals exact rfl
          simp only [Act.put, List.setIfInBounds_toArray, List.set_cons_succ, List.set_cons_zero]
          go_big_quiet_on
          refine wpQuiet_nil ?_
          intro W hW
          go_wp2
          go_ret
          rw [E.out]
          exact ⟨rfl, bthen HB4.out hW⟩
        · by_cases hl : (h.ar.length : Int) = h.us.n * 16
          · have EB : Hid (baseP h = true) := by
              show _ = _
              unfold baseP
              rw [decide_eq_true ha, hu, hk, decide_eq_true (show 1 ≤ h.us.n by omega), decide_eq_true hl]
              rfl
            obtain ⟨N, hNN⟩ := Int.eq_ofNat_of_zero_le hup.1
            have HN : Hid (1 ≤ N ∧ N ≤ 1024 ∧ h.us.n = (N : Int)) := ⟨by omega, by omega, hNN⟩
            have hq : ((h.ar.length : Int) != h.us.n * 16) = false := by rw [hl]; simp
            have hw0 : IntKind.i64.wrap (h.us.n * 16) = h.us.n * 16 := wrap_in (by omega)
            have d0 : decide (h.us.n < 1) = false := decide_eq_false hN
            clear hup ha hu hk hNN hl hN
            go_enter Tryz.func43, Tryz.ntmps43
            go_wp2_with (go_at_call 74; refine (CA.out _).mono ?_)
            rintro e w1 ⟨rfl, hb1⟩
            obtain ⟨hc1, hf1, hs1⟩ := bcellB (B := w.heap.size) hb1 (Nat.le_refl _)
            have HB1 := Lib.hid hb1
            have y1 : b < w1.heap.size := by omega
            clear hb1
            go_wp2_with (go_at_call 59; refine (CP.out _ HB1.out).mono ?_)
            rintro e w2 ⟨rfl, hb2⟩
            obtain ⟨hc2, hf2, hs2⟩ := bcellB (B := w.heap.size) hb2 hs1
            have HB2 := Lib.hid (bthen HB1.out hb2)
            have y2 : b < w2.heap.size := by omega
            clear hb2
            go_wp2_with (go_at_call 66; refine (CS.out _ HB2.out).mono ?_)
            rintro e w3 ⟨rfl, hb3⟩
            obtain ⟨hc3, hf3, hs3⟩ := bcellB (B := w.heap.size) hb3 hs2
            have HB3 := Lib.hid (bthen HB2.out hb3)
            have y3 : b < w3.heap.size := by omega
            clear hb3
            have S0 : Hid (w3.cell? ⟨b, 0, none⟩ = some (.slice aA h.ar.length aC)) := ((hc3 _ _ hb).trans ((hc2 _ _ hb).trans ((hc1 _ _ hb).trans s0)))
            have S3 : Hid (w3.cell? ⟨b, 3, none⟩ = some (.slice sA h.sp.length sC)) := ((hc3 _ _ hb).trans ((hc2 _ _ hb).trans ((hc1 _ _ hb).trans s3)))
            go_wp2
            have HB4 := Lib.hid (balloc HB3.out (.cells #[.int .i64 h.us.n, .slice uA h.us.w.length uc] 26))
            have F0 : Hid ((w3.alloc (.cells #[.int .i64 h.us.n, .slice uA h.us.w.length uc] 26)).cell? ⟨w3.heap.size, 0, none⟩ = some (.int .i64 h.us.n)) := by show _ = _; go_simp
            have F1 : Hid ((w3.alloc (.cells #[.int .i64 h.us.n, .slice uA h.us.w.length uc] 26)).cell? ⟨w3.heap.size, 1, none⟩ = some (.slice uA h.us.w.length uc)) := by show _ = _; go_simp
            have T0 : Hid ((w3.alloc (.cells #[.int .i64 h.us.n, .slice uA h.us.w.length uc] 26)).cell? ⟨b, 0, none⟩ = some (.slice aA h.ar.length aC)) := cell_later (balloc (Below.refl _ w3) _) S0.out
            have T3 : Hid ((w3.alloc (.cells #[.int .i64 h.us.n, .slice uA h.us.w.length uc] 26)).cell? ⟨b, 3, none⟩ = some (.slice sA h.sp.length sC)) := cell_later (balloc (Below.refl _ w3) _) S3.out
            have HZ : Hid ((w3.alloc (.cells #[.int .i64 h.us.n, .slice uA h.us.w.length uc] 26)).heap.size = w3.heap.size + 1) := by show _ = _; simp
            generalize w3.alloc (.cells #[.int .i64 h.us.n, .slice uA h.us.w.length uc] 26) = W4 at *
            clear hc1 hc2 hc3 hf1 hf2 hf3
            refine region_up (by kernel_rfl) (by kernel_rfl) ?_
            iterate 16
              go_big_quiet_want
              apply Exists.intro
              refine ⟨fun W hW => ?_, ?_⟩
              · have g0 := cell_later hW F0.out
                have g1 := cell_later hW F1.out
                have g2 := cell_later hW T0.out
                have g3 := cell_later hW T3.out
                go_simp
                all_goals exact rfl
              simp only [Act.put, List.setIfInBounds_toArray, List.set_cons_succ, List.set_cons_zero]
              go_big_quiet_on
            refine wpQuiet_nil ?_
            intro W hW
            have CM : Hid (∀ W, Calls Tryz.prog 58 #[.int .i64 h.us.n] W (RetBE (makeB h.us.n) 0 W)) := fun W => by
              have := make35 h.us.n W
              rwa [show makeE h.us.n = 0 from by unfold makeE; rw [if_pos (show makeOk h.us.n from by unfold makeOk; have := HN.out; omega)]] at this
            have HMD := Lib.hid (ok_made (n := h.us.n) (by have := HN.out; omega) (by have := HN.out; omega))
            have HMW := Lib.hid (ok_want0 (n := h.us.n) (by have := HN.out; omega) (by have := HN.out; omega))
            have HBW := Lib.hid (bthen HB4.out hW)
            have g0 := cell_later hW F0.out
            have G1 := Lib.hid (cell_later hW F1.out)
            have G3 := Lib.hid (cell_later hW T3.out)
            have p0 : w3.heap.size < W.heap.size := by have := hW.size; have := HZ.out; omega
            have pb : b < W.heap.size := by omega
            clear F0 F1 T0 T3 hW HB4 HB3 HB2 HB1 s0 s1 s2 s3 s4 hq hw0 d0 HZ y1 y2 hs1 hs2
            go_wp2_with (go_at_call 58; refine (CM.out _).mono ?_)
            rintro e w5 ⟨⟨n5, A5, m5, c5⟩, rfl, hn5, hm5, hcap5, ho5, hb5⟩
            simp only at hn5 hm5 hcap5 ho5
            have HM5 := Lib.hid (RdB.own (v := ⟨n5, A5, m5, c5⟩) hn5 hm5 hcap5 ho5 HMD.out.1 HMD.out.2.2)
            have HB5 := Lib.hid (bthen HBW.out hb5)
            have G15 := Lib.hid (cell_later hb5 G1.out)
            have G35 := Lib.hid (cell_later hb5 G3.out)
            have q0 : w3.heap.size < w5.heap.size := by have := hb5.size; omega
            have qb : b < w5.heap.size := by have := hb5.size; omega
            clear hb5 ho5 hm5 hn5 hcap5 CM g0 G1 G3
            unfold BitV.v
            simp only
            have HB6 := Lib.hid (balloc HB5.out (.cells #[.int .i64 n5, .slice A5 m5 c5] 26))
            have C44 := Lib.hid (put44 ⟨n5, A5, m5, c5⟩ (makeB h.us.n) 0 true (w5.alloc (.cells #[.int .i64 n5, .slice A5 m5 c5] 26)) (HM5.out.below (balloc (Below.refl _ _) _)))
            unfold BitV.v at C44
            simp only at C44
            go_wp2_with (go_at_call 50; refine C44.out.mono ?_)
            rintro e w6 ⟨⟨n6, A6, m6, c6⟩, rfl, hn6, hm6, hcap6, ho6, hb6⟩
            simp only at hn6 hm6 hcap6 ho6
            obtain ⟨hc6, hf6, hs6⟩ := bcellB (B := w5.heap.size + 1) hb6 (by simp)
            have HB7 := Lib.hid (bthen HB6.out hb6)
            have G36 := Lib.hid (cell_later hb6 (cell_later (balloc (Below.refl _ w5) _) G35.out))
            have g36 := G35.out
            have G16 := Lib.hid (cell_later hb6 (cell_later (balloc (Below.refl _ w5) _) G15.out))
            have q6 : w5.heap.size < w6.heap.size := by omega
            have HO6 : Hid (OwU w6 (w5.heap.size + 1) (.slice A6 m6 c6) (want0 h.us.n).w) := ho6.mono (by simp)
            have HE6 : Hid (n6 = (want0 h.us.n).n ∧ m6 = (want0 h.us.n).w.length ∧ m6 ≤ c6) := ⟨hn6, hm6, hcap6⟩
            clear hb6 ho6 hm6 hn6 hcap6 C44 G15 G35
            unfold BitV.v
            simp only
            go_wp2
            have K0 : w6.cell? ⟨w5.heap.size, 0, none⟩ = some (.int .i64 n5) := (hc6 _ _ (by omega)).trans (by go_simp)
            have K1 : w6.cell? ⟨w5.heap.size, 1, none⟩ = some (.slice A5 m5 c5) := (hc6 _ _ (by omega)).trans (by go_simp)
            obtain ⟨k2, k3, k4⟩ := cell_set2 (x' := .int .i64 n6) (y' := .slice A6 m6 c6) K0 K1
            have f2 : ((w6.setCell ⟨w5.heap.size, 0, none⟩ (.int .i64 n6)).setCell ⟨w5.heap.size, 1, none⟩ (.slice A6 m6 c6)).frozen? ⟨w5.heap.size, 0, none⟩ = false := by rw [World.frozen?_setCell, World.frozen?_setCell, hf6 _ _ (by omega)]; go_simp
            have f3 : ((w6.setCell ⟨w5.heap.size, 0, none⟩ (.int .i64 n6)).setCell ⟨w5.heap.size, 1, none⟩ (.slice A6 m6 c6)).frozen? ⟨w5.heap.size, 1, none⟩ = false := by rw [World.frozen?_setCell, World.frozen?_setCell, hf6 _ _ (by omega)]; go_simp
            have k5 := (k4 w3.heap.size 1 (by omega)).trans G16.out
            have o5 : OwU ((w6.setCell ⟨w5.heap.size, 0, none⟩ (.int .i64 n6)).setCell ⟨w5.heap.size, 1, none⟩ (.slice A6 m6 c6)) (w5.heap.size + 1) (.slice A6 m6 c6) (want0 h.us.n).w := (HO6.out.set_lo (by simp) _).set_lo (by simp) _
            have b5 : Below w.heap.size w ((w6.setCell ⟨w5.heap.size, 0, none⟩ (.int .i64 n6)).setCell ⟨w5.heap.size, 1, none⟩ (.slice A6 m6 c6)) := (HB7.out.setCell (by simp; omega) _).setCell (by simp; omega) _
            have z5 : w5.heap.size < ((w6.setCell ⟨w5.heap.size, 0, none⟩ (.int .i64 n6)).setCell ⟨w5.heap.size, 1, none⟩ (.slice A6 m6 c6)).heap.size := by simp; omega
            generalize (w6.setCell ⟨w5.heap.size, 0, none⟩ (.int .i64 n6)).setCell ⟨w5.heap.size, 1, none⟩ (.slice A6 m6 c6) = W7 at *
            generalize hqq : w5.heap.size = q at *
            have HK2 := Lib.hid k2
            have HK3 := Lib.hid k3
            have HK5 := Lib.hid k5
            have HF2 := Lib.hid f2
            have HF3 := Lib.hid f3
            have HO5 := Lib.hid o5
            have HZ5 := Lib.hid z5
            have HBL := Lib.hid b5
            have hpq : w3.heap.size < q := q0
            generalize hpp : w3.heap.size = p at *
            have HPQ := Lib.hid hpq
            have HWQ : Hid (w.heap.size ≤ q) := by show _ ≤ _; omega
            clear k2 k3 k4 k5 f2 f3 o5 b5 z5 K0 K1 hc6 hf6 G36 g36 G16 HO6 HB7 HB6 HB5 HBW hpp hqq q0 qb q6 HM5 pb p0 hs6 y3 hs3
            obtain ⟨wo, hwo⟩ : ∃ wo : World, wo = W7 := ⟨_, rfl⟩
            go_loopw [73] (fun i wr => ∃ (k : Nat) (nK : Int) (AK : Option Addr) (mK cK : Nat), k ≤ h.sp.length ∧ i = .int .i64 k ∧ Hid (nK = (wantTo (want0 h.us.n) (h.sp.take k)).n ∧ mK = (wantTo (want0 h.us.n) (h.sp.take k)).w.length ∧ mK ≤ cK) ∧
              Hid (OwU wr (q + 1) (.slice AK mK cK) (wantTo (want0 h.us.n) (h.sp.take k)).w) ∧ Hid (wr.cell? ⟨q, 0, none⟩ = some (.int .i64 nK)) ∧ Hid (wr.cell? ⟨q, 1, none⟩ = some (.slice AK mK cK)) ∧ Hid (wr.cell? ⟨p, 1, none⟩ = some (.slice uA h.us.w.length uc)) ∧
              Hid (wr.frozen? ⟨q, 0, none⟩ = false) ∧ Hid (wr.frozen? ⟨q, 1, none⟩ = false) ∧ Hid (q < wr.heap.size) ∧ Hid (fillsTo (want0 h.us.n) (h.sp.take k) = true) ∧ Hid (Below w.heap.size w wr)) (fun i _ => h.sp.length - (intOf i).toNat)
            case atStart => exact ⟨0, n6, A6, m6, c6, Nat.zero_le _, rfl, HE6.out, HO5.out, HK2.out, HK3.out, HK5.out, HF2.out, HF3.out, HZ5.out, rfl, HBL.out⟩
            case round =>
              obtain ⟨k, nK, AK, mK, cK, hk, rfl, HEK, HOK, Q0, Q1, P1, FQ0, FQ1, HZK, HFK, HBr⟩ := hrel
              clear HK2 HK3 HK5 HF2 HF3 HO5 HZ5 HBL HE6 hwo
              obtain ⟨B, hB⟩ : ∃ B, B = wantTo (want0 h.us.n) (h.sp.take k) := ⟨_, rfl⟩
              have HOKB : Hid (okB B = true ∧ Words B.w) := by
                show _ ∧ _
                rw [hB]
                have := ok_want (h.sp.take k) _ HMW.out.1 HMW.out.2.2
                exact ⟨this.1, this.2.2⟩
              rw [← hB] at HEK HOK
              by_cases hlt : k < h.sp.length
              · have hs : h.sp[k]? = some h.sp[k] := List.getElem?_eq_getElem hlt
                generalize h.sp[k] = s at hs
                obtain ⟨vv, bk, oo, hv, hRv, hA, hbk, c0, c1, c2, c3, c4, c5, c6, c7⟩ := HR.out.sp.at_ hs
                have e1 := hRv.first
                have e2 := hRv.pages
                have hg1 := hRv.f1
                have hg2 := hRv.p1
                obtain ⟨f, pg, z, ⟨n, A1, m, ca⟩, ⟨n', A2, m', cb⟩, sw⟩ := vv
                simp only at hA c0 c1 c2 c3 c4 c5 c6 c7 e1 e2
                subst hA
                subst e1
                subst e2
                replace c0 := cell_later HBr.out c0
                replace c1 := cell_later HBr.out c1
                replace c2 := cell_later HBr.out c2
                replace c3 := cell_later HBr.out c3
                replace c4 := cell_later HBr.out c4
                replace c5 := cell_later HBr.out c5
                replace c6 := cell_later HBr.out c6
                replace c7 := cell_later HBr.out c7
                have HSS := Lib.hid hs
                have HBB := Lib.hid hB
                clear hs hv hRv hB hbk
                have zk := HZK.out
                have q0 := Q0.out
                have q1 := Q1.out
                have HBA := Lib.hid (balloc HBr.out (.cells #[.int .i64 s.first, .int .i64 s.pages, .int .i64 z, .int .i64 n, .slice A1 m ca, .int .i64 n', .slice A2 m' cb, .bool sw] 44))
                have HOA := Lib.hid (HOK.out.al (.cells #[.int .i64 s.first, .int .i64 s.pages, .int .i64 z, .int .i64 n, .slice A1 m ca, .int .i64 n', .slice A2 m' cb, .bool sw] 44))
                have CF := Lib.hid (fill80 ⟨nK, AK, mK, cK⟩ B s.first s.pages true (wr.alloc (.cells #[.int .i64 s.first, .int .i64 s.pages, .int .i64 z, .int .i64 n, .slice A1 m ca, .int .i64 n', .slice A2 m' cb, .bool sw] 44)) (RdB.own HEK.out.1 HEK.out.2.1 HEK.out.2.2 HOA.out HOKB.out.1 HOKB.out.2))
                unfold BitV.v at CF
                simp only at CF
                have HFN : Hid (fillsTo (wantTo (want0 h.us.n) (h.sp.take k)) [s] = ((fillE B s.first s.pages == 0) && decide (1 ≤ s.first))) := by show _ = _; rw [← HBB.out]; simp [fillsTo]
                have HWN : Hid (wantTo (want0 h.us.n) (h.sp.take (k + 1)) = fillB B s.first s.pages true) := by show _ = _; rw [take_next HSS.out, wantTo_append, ← HBB.out]; rfl
                have HFN2 : Hid (fillE B s.first s.pages = 0 → 1 ≤ s.first → fillsTo (want0 h.us.n) (h.sp.take (k + 1)) = true) := by
                  intro a1 a2
                  rw [take_next HSS.out, fillsTo_append, HFK.out, HFN.out, a1]
                  simpa using a2
                have HNO : Hid (¬ (fillE B s.first s.pages = 0 ∧ 1 ≤ s.first) → framedP h = false) := by
                  intro hne
                  unfold framedP
                  rw [fills_bad HSS.out (b := want0 h.us.n) (by rw [HFN.out]; simpa using hne)]
                  simp
                have HSTEP : Hid (∀ {w8 : World} {n8 : Int} {A8 : Option Addr} {m8 c8 : Nat}, Below (wr.alloc (.cells #[.int .i64 s.first, .int .i64 s.pages, .int .i64 z, .int .i64 n, .slice A1 m ca, .int .i64 n', .slice A2 m' cb, .bool sw] 44)).heap.size (wr.alloc (.cells #[.int .i64 s.first, .int .i64 s.pages, .int .i64 z, .int .i64 n, .slice A1 m ca, .int .i64 n', .slice A2 m' cb, .bool sw] 44)) w8 → w8.cell? ⟨q, 0, none⟩ = some (.int .i64 nK) ∧ w8.cell? ⟨q, 1, none⟩ = some (.slice AK mK cK) ∧ w8.cell? ⟨p, 1, none⟩ = some (.slice uA h.us.w.length uc) ∧ w8.frozen? ⟨q, 0, none⟩ = false ∧ w8.frozen? ⟨q, 1, none⟩ = false ∧ q < w8.heap.size) := by
                  intro w8 n8 A8 m8 c8 hb8
                  have ha := balloc (Below.refl wr.heap.size wr) (.cells #[.int .i64 s.first, .int .i64 s.pages, .int .i64 z, .int .i64 n, .slice A1 m ca, .int .i64 n', .slice A2 m' cb, .bool sw] 44)
                  have hh := bthen ha hb8
                  exact ⟨cell_later hh Q0.out, cell_later hh Q1.out, cell_later hh P1.out, (hh.frozen (p := ⟨q, 0, none⟩) HZK.out).trans FQ0.out, (hh.frozen (p := ⟨q, 1, none⟩) HZK.out).trans FQ1.out, by have := hh.size; have := HZK.out; omega⟩
                obtain ⟨e, he⟩ : ∃ e, e = fillE B s.first s.pages := ⟨_, rfl⟩
                rw [← he] at CF HFN2 HNO
                clear he HFN HFK
                by_cases he0 : e = 0
                · by_cases hf1 : s.first < 1
                  · have E : Hid (framedP h = false) := HNO.out (by omega)
                    subst he0
                    go_wp2_with (go_at_call 80; refine CF.out.mono ?_)
                    rintro e w8 ⟨⟨n8, A8, m8, c8⟩, rfl, hn8, hm8, hcap8, ho8, hb8⟩
                    obtain ⟨x0, x1, x2, x3, x4, x5⟩ := HSTEP.out (n8 := n8) (A8 := A8) (m8 := m8) (c8 := c8) hb8
                    obtain ⟨hc8, hf8, hs8⟩ := bcellB (B := wr.heap.size + 1) hb8 (by simp)
                    have HB8 := Lib.hid (bthen HBA.out hb8)
                    clear hb8 ho8 hm8 hn8 hcap8
                    unfold BitV.v
                    simp only
                    go_wp2
                    go_ret
                    rw [E.out]
                    refine ⟨rfl, ?_⟩
                    have := HWQ.out
                    exact (HB8.out.setCell (by simp; omega) _).setCell (by simp; omega) _
                  · have HF2' := Lib.hid (HFN2.out he0 (by omega))
                    have d1 : decide (s.first < 1) = false := decide_eq_false hf1
                    subst he0
                    go_wp2_with (go_at_call 80; refine CF.out.mono ?_)
                    rintro e w8 ⟨⟨n8, A8, m8, c8⟩, rfl, hn8, hm8, hcap8, ho8, hb8⟩
                    simp only at hn8 hm8 hcap8 ho8
                    obtain ⟨x0, x1, x2, x3, x4, x5⟩ := HSTEP.out (n8 := n8) (A8 := A8) (m8 := m8) (c8 := c8) hb8
                    obtain ⟨hc8, hf8, hs8⟩ := bcellB (B := wr.heap.size + 1) hb8 (by simp)
                    have HB8 := Lib.hid (bthen HBA.out hb8)
                    have HO8 : Hid (OwU w8 (q + 1) (.slice A8 m8 c8) (fillB B s.first s.pages true).w) := ho8.mono (by have := HZK.out; simp; omega)
                    have HE8 : Hid (n8 = (fillB B s.first s.pages true).n ∧ m8 = (fillB B s.first s.pages true).w.length ∧ m8 ≤ c8) := ⟨hn8, hm8, hcap8⟩
                    clear hb8 ho8 hm8 hn8 hcap8
                    unfold BitV.v
                    simp only
                    go_wp2
                    obtain ⟨k2, k3, k4⟩ := cell_set2 (x' := .int .i64 n8) (y' := .slice A8 m8 c8) x0 x1
                    have K2 := Lib.hid k2
                    have K3 := Lib.hid k3
                    have K5 := Lib.hid ((k4 p 1 (by have := HPQ.out; omega)).trans x2)
                    have X3 := Lib.hid x3
                    have X4 := Lib.hid x4
                    have X5 := Lib.hid x5
                    clear k2 k3 k4 x0 x1 x2 hc8 hf8
                    go_roundw
                    case rel =>
                      have hwq := HWQ.out
                      refine ⟨k + 1, n8, A8, m8, c8, by omega, by go_num, ?_, ?_, K2.out, K3.out, K5.out, ?_, ?_, ?_, HF2'.out, ?_⟩
                      · show _ ∧ _
                        rw [HWN.out]
                        exact HE8.out
                      · show OwU _ _ _ _
                        rw [HWN.out]
                        exact (HO8.out.set_lo (by simp) _).set_lo (by simp) _
                      · show _ = _
                        rw [World.frozen?_setCell, World.frozen?_setCell]; exact X3.out
                      · show _ = _
                        rw [World.frozen?_setCell, World.frozen?_setCell]; exact X4.out
                      · show _ < _
                        simp
                        exact X5.out
                      · exact (HB8.out.setCell (by simp; omega) _).setCell (by simp; omega) _
                    case measure => simp [intOf]; omega
                · have E : Hid (framedP h = false) := HNO.out (by intro hh; exact he0 hh.1)
                  have d1 : (e != 0) = true := by simpa using he0
                  clear he0
                  go_wp2_with (go_at_call 80; refine CF.out.mono ?_)
                  rintro e w8 ⟨⟨n8, A8, m8, c8⟩, rfl, hn8, hm8, hcap8, ho8, hb8⟩
                  obtain ⟨x0, x1, x2, x3, x4, x5⟩ := HSTEP.out (n8 := n8) (A8 := A8) (m8 := m8) (c8 := c8) hb8
                  obtain ⟨hc8, hf8, hs8⟩ := bcellB (B := wr.heap.size + 1) hb8 (by simp)
                  have HB8 := Lib.hid (bthen HBA.out hb8)
                  clear hb8 ho8 hm8 hn8 hcap8
                  unfold BitV.v
                  simp only
                  go_wp2
                  go_ret
                  rw [E.out]
                  refine ⟨rfl, ?_⟩
                  have := HWQ.out
                  exact (HB8.out.setCell (by simp; omega) _).setCell (by simp; omega) _
              · obtain rfl : k = h.sp.length := by omega
                rw [List.take_length] at hB HFK
                have E : Hid (framedP h = decide (B.w = h.us.w)) := by show _ = _; unfold framedP; rw [EB.out, HFK.out, hB]; rfl
                have hek := HEK.out.2.1
                subst hek
                have CE := Lib.hid (equal66 B.w h.us.w AK uA cK uc h.us.w.length wr (HOK.out.rd rfl) (HR.out.us.row.below HBr.out) rfl)
                have q1 := Q1.out
                have p1 := P1.out
                clear hB HFK
                go_wp2_with (go_at_call 81; refine CE.out.mono ?_)
                rintro e w8 ⟨rfl, hb8⟩
                have HB8 := Lib.hid (bthen HBr.out hb8)
                clear hb8
                go_wp2
                go_ret
                rw [E.out]
                exact ⟨rfl, HB8.out⟩
          · have E : Hid (framedP h = false) := framed_no (by unfold baseP; rw [decide_eq_false hl]; simp)
            have hq : ((h.ar.length : Int) != h.us.n * 16) = true := by simpa using hl
            have hw0 : IntKind.i64.wrap (h.us.n * 16) = h.us.n * 16 := wrap_in (by omega)
            have d0 : decide (h.us.n < 1) = false := decide_eq_false hN
            clear hup ha hu hk hl hN
            go_enter Tryz.func43, Tryz.ntmps43
            go_wp2_with (go_at_call 74; refine (CA.out _).mono ?_)
            rintro e w1 ⟨rfl, hb1⟩
            obtain ⟨hc1, hf1, hs1⟩ := bcellB (B := w.heap.size) hb1 (Nat.le_refl _)
            have HB1 := Lib.hid hb1
            have y1 : b < w1.heap.size := by omega
            clear hb1
            go_wp2_with (go_at_call 59; refine (CP.out _ HB1.out).mono ?_)
            rintro e w2 ⟨rfl, hb2⟩
            obtain ⟨hc2, hf2, hs2⟩ := bcellB (B := w.heap.size) hb2 hs1
            have HB2 := Lib.hid (bthen HB1.out hb2)
            have y2 : b < w2.heap.size := by omega
            clear hb2
            go_wp2_with (go_at_call 66; refine (CS.out _ HB2.out).mono ?_)
            rintro e w3 ⟨rfl, hb3⟩
            obtain ⟨hc3, hf3, hs3⟩ := bcellB (B := w.heap.size) hb3 hs2
            have HB3 := Lib.hid (bthen HB2.out hb3)
            have y3 : b < w3.heap.size := by omega
            clear hb3
            have S0 : Hid (w3.cell? ⟨b, 0, none⟩ = some (.slice aA h.ar.length aC)) := ((hc3 _ _ hb).trans ((hc2 _ _ hb).trans ((hc1 _ _ hb).trans s0)))
            have S3 : Hid (w3.cell? ⟨b, 3, none⟩ = some (.slice sA h.sp.length sC)) := ((hc3 _ _ hb).trans ((hc2 _ _ hb).trans ((hc1 _ _ hb).trans s3)))
            go_wp2
            have HB4 := Lib.hid (balloc HB3.out (.cells #[.int .i64 h.us.n, .slice uA h.us.w.length uc] 26))
            have F0 : Hid ((w3.alloc (.cells #[.int .i64 h.us.n, .slice uA h.us.w.length uc] 26)).cell? ⟨w3.heap.size, 0, none⟩ = some (.int .i64 h.us.n)) := by show _ = _; go_simp
            have F1 : Hid ((w3.alloc (.cells #[.int .i64 h.us.n, .slice uA h.us.w.length uc] 26)).cell? ⟨w3.heap.size, 1, none⟩ = some (.slice uA h.us.w.length uc)) := by show _ = _; go_simp
            have T0 : Hid ((w3.alloc (.cells #[.int .i64 h.us.n, .slice uA h.us.w.length uc] 26)).cell? ⟨b, 0, none⟩ = some (.slice aA h.ar.length aC)) := cell_later (balloc (Below.refl _ w3) _) S0.out
            have T3 : Hid ((w3.alloc (.cells #[.int .i64 h.us.n, .slice uA h.us.w.length uc] 26)).cell? ⟨b, 3, none⟩ = some (.slice sA h.sp.length sC)) := cell_later (balloc (Below.refl _ w3) _) S3.out
            have HZ : Hid ((w3.alloc (.cells #[.int .i64 h.us.n, .slice uA h.us.w.length uc] 26)).heap.size = w3.heap.size + 1) := by show _ = _; simp
            generalize w3.alloc (.cells #[.int .i64 h.us.n, .slice uA h.us.w.length uc] 26) = W4 at *
            clear hc1 hc2 hc3 hf1 hf2 hf3
            refine region_up (by kernel_rfl) (by kernel_rfl) ?_
            iterate 16
              go_big_quiet_want
              apply Exists.intro
              refine ⟨fun W hW => ?_, ?_⟩
              · have g0 := cell_later hW F0.out
                have g1 := cell_later hW F1.out
                have g2 := cell_later hW T0.out
                have g3 := cell_later hW T3.out
                go_simp
                all_goals exact rfl
              simp only [Act.put, List.setIfInBounds_toArray, List.set_cons_succ, List.set_cons_zero]
              go_big_quiet_on
            refine wpQuiet_nil ?_
            intro W hW
            go_wp2
            go_ret
            rw [E.out]
            exact ⟨rfl, bthen HB4.out hW⟩
      · have E : Hid (framedP h = false) := framed_no (by unfold baseP; rw [show okL h.sp = false from by simpa using hk]; simp)
        rw [show chkE h.sp = 2 from by unfold chkE; rw [if_neg hk]] at CS
        clear ha hu hk
        go_enter Tryz.func43, Tryz.ntmps43
        go_wp2_with (go_at_call 74; refine (CA.out _).mono ?_)
        rintro e w1 ⟨rfl, hb1⟩
        obtain ⟨hc1, hf1, hs1⟩ := bcellB (B := w.heap.size) hb1 (Nat.le_refl _)
        have HB1 := Lib.hid hb1
        have y1 : b < w1.heap.size := by omega
        clear hb1
        go_wp2_with (go_at_call 59; refine (CP.out _ HB1.out).mono ?_)
        rintro e w2 ⟨rfl, hb2⟩
        obtain ⟨hc2, hf2, hs2⟩ := bcellB (B := w.heap.size) hb2 hs1
        have HB2 := Lib.hid (bthen HB1.out hb2)
        have y2 : b < w2.heap.size := by omega
        clear hb2
        go_wp2_with (go_at_call 66; refine (CS.out _ HB2.out).mono ?_)
        rintro e w3 ⟨rfl, hb3⟩
        obtain ⟨hc3, hf3, hs3⟩ := bcellB (B := w.heap.size) hb3 hs2
        have HB3 := Lib.hid (bthen HB2.out hb3)
        have y3 : b < w3.heap.size := by omega
        clear hb3
        go_wp2
        go_ret
        rw [E.out]
        exact ⟨rfl, HB3.out⟩
    · have E : Hid (framedP h = false) := framed_no (by unfold baseP; rw [show okB h.us = false from by simpa using hu]; simp)
      rw [okE_2 (show okB h.us = false from by simpa using hu)] at CP
      clear ha hu CS
      go_enter Tryz.func43, Tryz.ntmps43
      go_wp2_with (go_at_call 74; refine (CA.out _).mono ?_)
      rintro e w1 ⟨rfl, hb1⟩
      obtain ⟨hc1, hf1, hs1⟩ := bcellB (B := w.heap.size) hb1 (Nat.le_refl _)
      have HB1 := Lib.hid hb1
      have y1 : b < w1.heap.size := by omega
      clear hb1
      go_wp2_with (go_at_call 59; refine (CP.out _ HB1.out).mono ?_)
      rintro e w2 ⟨rfl, hb2⟩
      obtain ⟨hc2, hf2, hs2⟩ := bcellB (B := w.heap.size) hb2 hs1
      have HB2 := Lib.hid (bthen HB1.out hb2)
      have y2 : b < w2.heap.size := by omega
      clear hb2
      go_wp2
      go_ret
      rw [E.out]
      exact ⟨rfl, HB2.out⟩
  · have E : Hid (framedP h = false) := framed_no (by unfold baseP; rw [decide_eq_false ha]; simp)
    rw [show arE h.ar.length = 2 from by unfold arE; rw [if_neg ha]] at CA
    clear ha CP CS
    go_enter Tryz.func43, Tryz.ntmps43
    go_wp2_with (go_at_call 74; refine (CA.out _).mono ?_)
    rintro e w1 ⟨rfl, hb1⟩
    obtain ⟨hc1, hf1, hs1⟩ := bcellB (B := w.heap.size) hb1 (Nat.le_refl _)
    have HB1 := Lib.hid hb1
    have y1 : b < w1.heap.size := by omega
    clear hb1
    go_wp2
    go_ret
    rw [E.out]
    exact ⟨rfl, HB1.out⟩
end Go.Proofs.YtieijfefnedifaaGreatDoor

/- Rows of heap's objects; what look needs; plain and small. -/
namespace Go.Proofs.YtieijfefnedifaaGreatDoor
open Go.RowKit
set_option linter.unusedVariables false
set_option linter.unusedSimpArgs false

def Obj.cs (o : Obj) : List Value := [.int .i64 o.i, .int .i64 o.k, .int .u64 o.a, .int .i64 o.n, .int .u64 o.m, .bool o.cur]
def Obj.v (o : Obj) : Value := .agg #[.int .i64 o.i, .int .i64 o.k, .int .u64 o.a, .int .i64 o.n, .int .u64 o.m, .bool o.cur]
theorem Obj.cs_len (o : Obj) : o.cs.length = 6 := rfl
def flO (l : List Obj) : List Value := l.flatMap Obj.cs
theorem flO_len (l : List Obj) : (flO l).length = l.length * 6 := flat_len Obj.cs 6 Obj.cs_len l
theorem flO_get (l : List Obj) (i j : Nat) (hj : j < 6) : (flO l)[i * 6 + j]? = (l[i]?).bind fun x => x.cs[j]? := flat_get Obj.cs 6 Obj.cs_len l i j hj
theorem flO_append (l m : List Obj) : flO (l ++ m) = flO l ++ flO m := by simp [flO]
theorem flO_one (l : List Obj) : ∀ u ∈ flO l, u.oneCell' = true := by
  intro u hu
  simp only [flO, List.mem_flatMap, Obj.cs, List.mem_cons, List.not_mem_nil, or_false] at hu
  obtain ⟨s, _, rfl | rfl | rfl | rfl | rfl | rfl⟩ := hu <;> rfl
def RdO (w : World) (A : Option Addr) (l : List Obj) : Prop := Rd w 6 A l.length (flO l)
theorem RdO.below {w w1 : World} {A : Option Addr} {l : List Obj} (h : RdO w A l) (hb : Below w.heap.size w w1) : RdO w1 A l := Rd.below h hb
theorem RdO.len {w : World} {A : Option Addr} {l : List Obj} (h : RdO w A l) : l.length ≤ 9223372036854775807 := h.2.1
theorem RdO.at_ {w : World} {A : Option Addr} {l : List Obj} (h : RdO w A l) {i : Nat} {s : Obj} (hs : l[i]? = some s) : ∃ b o, A = some ⟨b, o, none⟩ ∧ b < w.heap.size ∧
    w.cell? ⟨b, o + i * 6, none⟩ = some (.int .i64 s.i) ∧ w.cell? ⟨b, o + i * 6 + 1, none⟩ = some (.int .i64 s.k) ∧ w.cell? ⟨b, o + i * 6 + 2, none⟩ = some (.int .u64 s.a) ∧
    w.cell? ⟨b, o + i * 6 + 3, none⟩ = some (.int .i64 s.n) ∧ w.cell? ⟨b, o + i * 6 + 4, none⟩ = some (.int .u64 s.m) ∧ w.cell? ⟨b, o + i * 6 + 5, none⟩ = some (.bool s.cur) := by
  have hi : i < l.length := (List.getElem?_eq_some_iff.1 hs).1
  obtain ⟨b, o, e, hb, hc⟩ := h.2.2 (by omega)
  refine ⟨b, o, e, hb, ?_, ?_, ?_, ?_, ?_, ?_⟩
  · exact hc (i * 6 + 0) _ (by rw [flO_get l i 0 (by omega), hs]; rfl)
  · exact hc (i * 6 + 1) _ (by rw [flO_get l i 1 (by omega), hs]; rfl)
  · exact hc (i * 6 + 2) _ (by rw [flO_get l i 2 (by omega), hs]; rfl)
  · exact hc (i * 6 + 3) _ (by rw [flO_get l i 3 (by omega), hs]; rfl)
  · exact hc (i * 6 + 4) _ (by rw [flO_get l i 4 (by omega), hs]; rfl)
  · exact hc (i * 6 + 5) _ (by rw [flO_get l i 5 (by omega), hs]; rfl)
theorem infoO : (Tryz.prog.info? 134).map (fun i => (i.zero, i.size, i.bytes)) = some (some (.agg #[.int .i64 0, .int .i64 0, .int .u64 0, .int .i64 0, .int .u64 0, .bool false]), 6, 48) := by kernel_rfl
def OwO (w : World) (base : Nat) (v : Value) (l : List Obj) : Prop := w.ownsRow base 134 6 v l.length (flO l)
theorem OwO.nil_ (w : World) (base : Nat) : OwO w base (.slice none 0 0) [] := World.ownsRow_nil w base 134 6
theorem OwO.below {w w1 : World} {base : Nat} {v : Value} {l : List Obj} (h : OwO w base v l) (hb : Below w.heap.size w w1) : OwO w1 base v l := own_below h hb
theorem OwO.mono {w : World} {base base' : Nat} {v : Value} {l : List Obj} (h : OwO w base v l) (hb : base' ≤ base) : OwO w base' v l := own_mono h hb
theorem OwO.rd {w : World} {base n c : Nat} {A : Option Addr} {l : List Obj} (h : OwO w base (.slice A n c) l) (hn : l.length = n) : RdO w A l := by
  subst hn
  exact own_rd h
theorem OwO.set_lo {w : World} {base : Nat} {v : Value} {l : List Obj} (h : OwO w base v l) {p : Addr} (hp : p.block < base) (u : Value) : OwO (w.setCell p u) base v l := ownsRow_setCell_below h hp u
theorem step_appO1 {ops : Array Oper} {o : Oper} {act : Act} {w : World} {K : Act → World → Prop} {Q : Exit → Act → World → Prop} {E : Prop}
    (hg : o.guard = none) (s x : Operand) (hop : o.op = Op.call { callee := Callee.builtin Builtin.append, args := #[s, x], argTypes := #[80, 80] })
    (base : Nat) (v : Value) (l0 : List Obj) (a : Obj) (B : Nat) (hs : act.eval s = v) (hx : act.eval x = .slice (some ⟨B, 0, none⟩) 1 1)
    (hown : OwO w base v l0) (hr : ∀ j u, a.cs[j]? = some u → w.cell? ⟨B, j, none⟩ = some u) (hlen : l0.length ≤ 100000) (hbase : base ≤ w.heap.size)
    (h : ∀ g cap w', OwO w' base (.slice (some ⟨g, 0, none⟩) (l0.length + 1) cap) (l0 ++ [a]) → w.grownBy w' v.ownBlock → (v.ownBlock = some g ∨ g = w.heap.size) → K (act.put o.dst (.slice (some ⟨g, 0, none⟩) (l0.length + 1) cap)) w') :
    if Region.wanted o (yielded ops act.tmps) = true then Oper.wp Tryz.prog o act w K Q else E := by
  obtain ⟨i, hi, hz0, hz1, hz2⟩ := info_parts infoO
  refine step_append_lies (P := Tryz.prog) w hg s x 80 hop base 134 i _ 6 48 Tryz.underlying80 hi hz0 hz1 hz2 rfl (by omega) v l0.length (flO l0) hs hown ⟨B, 0, none⟩ 1 1 (flO [a]) hx rfl (fun j u hu => ?_) (flO_one _) (by omega) (by simp only [maxLen]; omega) (by omega) hbase _ rfl
    (fun g cap w' h1 h2 h3 _ => h g cap w' (by unfold OwO; rw [List.length_append, flO_append]; exact h1) h2 h3)
  have hu2 : a.cs[j]? = some u := by simpa [flO] using hu
  rw [addOff, Nat.zero_add, hr j u hu2]
theorem fills_in {l : List SpanB} : ∀ {b : BitB}, okB b = true → Words b.w → fillsTo b l = true → ∀ s ∈ l, 1 ≤ s.first ∧ s.first + s.pages ≤ b.n := by
  induction l with
  | nil => intro b _ _ _ s hs; simp at hs
  | cons x t ih =>
    intro b hb hw h s hs
    rw [fillsTo] at h
    simp only [Bool.and_eq_true, beq_iff_eq, decide_eq_true_eq] at h
    obtain ⟨h1, h2, h3⟩ := h
    obtain ⟨o1, o2, o3⟩ := ok_fill hb hw x.first x.pages true
    rcases List.mem_cons.1 hs with rfl | hs
    · refine ⟨h2, ?_⟩
      unfold fillE at h1
      rw [if_pos hb] at h1
      by_cases hi : fillIn b s.first s.pages
      · obtain ⟨_, _, _, h4⟩ := hi
        omega
      · rw [if_neg hi] at h1
        omega
    · have := ih o1 o3 h3 s hs
      rw [o2] at this
      exact this
theorem framed_parts {h : HeapB} (hf : framedP h = true) : h.ar.length ≤ 16384 ∧ okB h.us = true ∧ okL h.sp = true ∧ 1 ≤ h.us.n ∧ (h.ar.length : Int) = h.us.n * 16 ∧ ∀ s ∈ h.sp, 1 ≤ s.first ∧ s.first + s.pages ≤ h.us.n := by
  unfold framedP baseP at hf
  simp only [Bool.and_eq_true, decide_eq_true_eq] at hf
  obtain ⟨⟨h1, h2, h3, h4, h5⟩, h6, _⟩ := hf
  refine ⟨h1, h2, h3, h4, h5, ?_⟩
  have hp := okB_parts h2
  obtain ⟨a, b, c⟩ := ok_want0 (n := h.us.n) (by omega) (by omega)
  intro s hs
  have := fills_in a c h6 s hs
  rw [b] at this
  exact this
theorem cand_mem {l : List SpanB} {i k : Nat} {s : SpanB} (hs : l[i]? = some s) (hk : k < s.al.n.toNat) (hb : bitP s.al k = true) : (⟨i, s, k⟩ : Cand) ∈ cands l := by
  have hi := (List.getElem?_eq_some_iff.1 hs).1
  simp only [cands, candTo, List.mem_flatMap, List.mem_range]
  refine ⟨i, hi, ?_⟩
  unfold candAt
  rw [hs]
  simp only [slotsTo, List.mem_map, List.mem_filter, List.mem_range]
  exact ⟨k, ⟨hk, hb⟩, rfl⟩
theorem look_no {h : HeapB} {c : Cand} (hc : c ∈ cands h.sp) (hg : c.good h.ar = false) : lookP h = false := by
  unfold lookP
  rw [List.all_eq_false]
  exact ⟨c, hc, by simp [hg]⟩
theorem range_at {a b n : Nat} : List.range' a n = List.range' a n := rfl
/-- How many slots there are at most. -/
theorem slots_few (i : Nat) (s : SpanB) (k : Nat) : (slotsTo i s k).length ≤ k := by
  unfold slotsTo
  rw [List.length_map]
  exact Nat.le_trans (List.length_filter_le _ _) (by simp)
theorem candTo_few {l : List SpanB} (h : okL l = true) : ∀ i, i ≤ l.length → (candTo l i).length ≤ 8 * i := by
  intro i
  induction i with
  | zero => intro _; simp [candTo]
  | succ i ih =>
    intro hi
    have hs : l[i]? = some l[i] := List.getElem?_eq_getElem (by omega)
    rw [candTo_succ hs, List.length_append]
    have h1 := ih (by omega)
    have h2 := slots_few i l[i] (l[i]).al.n.toNat
    obtain ⟨_, _, _, _, hc⟩ := span_shape (okL_right h hs)
    omega
/-- look's state: the objects so far. -/
structure LkX (w0 w wr : World) (b : Nat) (v : HeapV) (os : List Obj) (A : Option Addr) (c : Nat) : Prop where
  st : StAt wr b v (.slice A os.length c)
  ow : OwO wr (b + 1) (.slice A os.length c) os
  fr : ∀ j, wr.frozen? ⟨b, j, none⟩ = false
  lo : Below w0.heap.size w0 wr
  be : Below b w wr
  lt : b < wr.heap.size
theorem LkX.later {w0 w wr w2 : World} {b c : Nat} {v : HeapV} {os : List Obj} {A : Option Addr} (h : LkX w0 w wr b v os A c) (hb : Below wr.heap.size wr w2) : LkX w0 w w2 b v os A c := by
  have hlt := h.lt
  exact ⟨h.st.below hb, h.ow.below hb, fun j => (hb.frozen (p := ⟨b, j, none⟩) hlt).trans (h.fr j), bthenB h.lo (h.lo.size) hb, bthenB h.be (Nat.le_of_lt hlt) hb, Nat.lt_of_lt_of_le hlt hb.size⟩
theorem LkX.app {w0 w w7 w8 : World} {b c g cap : Nat} {v : HeapV} {os : List Obj} {A : Option Addr} {o : Obj} (h : LkX w0 w w7 b v os A c) (hg : w7.grownBy w8 (Value.slice A os.length c).ownBlock)
    (ho : OwO w8 (b + 1) (.slice (some ⟨g, 0, none⟩) (os.length + 1) cap) (os ++ [o])) (hb0 : w0.heap.size ≤ b) :
    LkX w0 w (w8.setCell ⟨b, 4, none⟩ (.slice (some ⟨g, 0, none⟩) (os.length + 1) cap)) b v (os ++ [o]) (some ⟨g, 0, none⟩) cap := by
  have hlo : ∀ r, (Value.slice A os.length c).ownBlock = some r → b + 1 ≤ r := fun r hr => (World.ownsRow.lt h.ow r hr).1
  have hne : some b ≠ (Value.slice A os.length c).ownBlock := by
    intro e
    have := hlo b e.symm
    omega
  have hlt := h.lt
  obtain ⟨c0, c1, c2, c3, c4⟩ := h.st
  have n0 : (⟨b, 4, none⟩ : Addr) ≠ ⟨b, 0, none⟩ := by simp
  have n1 : (⟨b, 4, none⟩ : Addr) ≠ ⟨b, 1, none⟩ := by simp
  have n2 : (⟨b, 4, none⟩ : Addr) ≠ ⟨b, 2, none⟩ := by simp
  have n3 : (⟨b, 4, none⟩ : Addr) ≠ ⟨b, 3, none⟩ := by simp
  refine ⟨⟨?_, ?_, ?_, ?_, ?_⟩, ?_, ?_, ?_, ?_, ?_⟩
  · exact (World.cell?_setCell_other (h := n0) ..).trans (hg.cell c0 hne)
  · exact (World.cell?_setCell_other (h := n1) ..).trans (hg.cell c1 hne)
  · exact (World.cell?_setCell_other (h := n2) ..).trans (hg.cell c2 hne)
  · exact (World.cell?_setCell_other (h := n3) ..).trans (hg.cell c3 hne)
  · rw [List.length_append]
    exact World.cell?_setCell_same _ _ _ (hg.cell c4 hne)
  · rw [List.length_append]
    exact ho.set_lo (by simp) _
  · intro j
    rw [World.frozen?_setCell]
    exact (gfrozen hg (a := ⟨b, j, none⟩) hlt hne).trans (h.fr j)
  · exact (h.lo.grown hg h.lo.size (fun r hr => by have := hlo r hr; omega)).setCell (p := ⟨b, 4, none⟩) hb0 _
  · exact (h.be.grown hg (Nat.le_of_lt hlt) (fun r hr => by have := hlo r hr; omega)).setCell (p := ⟨b, 4, none⟩) (Nat.le_refl _) _
  · have := hg.size
    simp
    omega
def LkS (w0 w wr : World) (b : Nat) (v : HeapV) (os : List Obj) : Prop := ∃ A c, LkX w0 w wr b v os A c
theorem VarS.grown {w w1 : World} {p : Nat} {x : SpanV} {r : Option Nat} (h : VarS w p x) (hg : w.grownBy w1 r) (hne : some p ≠ r) : VarS w1 p x :=
  ⟨hg.cell h.c0 hne, hg.cell h.c1 hne, hg.cell h.c2 hne, hg.cell h.c3 hne, hg.cell h.c4 hne, hg.cell h.c5 hne, hg.cell h.c6 hne, hg.cell h.c7 hne⟩
theorem obj_cells (W : World) (o : Obj) : ∀ j u, o.cs[j]? = some u → (W.alloc (.cells #[.int .i64 o.i, .int .i64 o.k, .int .u64 o.a, .int .i64 o.n, .int .u64 o.m, .bool o.cur] 134)).cell? ⟨W.heap.size, j, none⟩ = some u := by
  intro j u hu
  have hj : j < 6 := (List.getElem?_eq_some_iff.1 hu).1
  have hc : j = 0 ∨ j = 1 ∨ j = 2 ∨ j = 3 ∨ j = 4 ∨ j = 5 := by omega
  rcases hc with rfl | rfl | rfl | rfl | rfl | rfl <;> (simp [Obj.cs] at hu; subst hu; go_simp)
end Go.Proofs.YtieijfefnedifaaGreatDoor
