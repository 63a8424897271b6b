/- The walk of sound. -/
import Derived.Test.YtieijfefnedifaaGreatDoorMD4H4
namespace Go.Proofs.YtieijfefnedifaaGreatDoor
open Go.RowKit
set_option linter.unusedVariables false
set_option linter.unusedSimpArgs false

set_option maxRecDepth 100000 in
set_option maxHeartbeats 16000000 in
theorem sound45 (b c : Nat) (v : HeapV) (h : HeapB) (A : Option Addr) (w : World) (hs : Sees w b v h (objs h) A c) (hfit : Fit (objs h) h.ar.length) (h0 : 0 < h.ar.length) (hmax : h.ar.length ≤ 16384) :
    Calls Tryz.prog 45 #[.pointer (some ⟨b, 0, none⟩)] w (Ret (.bool (soundP h)) w) := by
  have HS := Lib.hid hs
  have HFIT := Lib.hid hfit
  have HMAX := Lib.hid hmax
  have H0 := Lib.hid h0
  have ES : Hid (soundP h = soundTo h.ar (objs h) 0 (objs h)) := rfl
  have s0 := hs.st.c0
  have s4 := hs.st.c4
  have hb := hs.lt
  have hvn := hs.hp.n
  have hvc := hs.hp.c
  have hfew := hfit.few
  obtain ⟨ba, oa, hA, -, -⟩ := hs.hp.ar.at_ (List.getElem?_eq_getElem h0)
  obtain ⟨aA, aN, aC, ub, sA, sN, sC, vs⟩ := v
  simp only at hvn hvc s0 s4 hA
  subst hvn
  subst hA
  have HVC := Lib.hid hvc
  generalize hos : objs h = os at *
  clear hs hfit h0 hos
  go_enter Tryz.func45, Tryz.ntmps45
  go_wp2
  have HB0 : Hid (Below w.heap.size w ((w.alloc (.cells #[.pointer (some ⟨b, 0, none⟩)] 62)).alloc (.cells #[.int .u64 0] 46))) := balloc (balloc (Below.refl _ _) _) _
  have Q1 : Hid (((w.alloc (.cells #[.pointer (some ⟨b, 0, none⟩)] 62)).alloc (.cells #[.int .u64 0] 46)).cell? ⟨w.heap.size, 0, none⟩ = some (.pointer (some ⟨b, 0, none⟩))) := by show _ = _; go_simp
  have Q2 : Hid (((w.alloc (.cells #[.pointer (some ⟨b, 0, none⟩)] 62)).alloc (.cells #[.int .u64 0] 46)).cell? ⟨w.heap.size + 1, 0, none⟩ = some (.int .u64 ((0 : Nat) : Int))) := by show _ = some (Value.int .u64 0); go_simp
  have Q3 : Hid (((w.alloc (.cells #[.pointer (some ⟨b, 0, none⟩)] 62)).alloc (.cells #[.int .u64 0] 46)).frozen? ⟨w.heap.size + 1, 0, none⟩ = false) := by show _ = _; go_simp
  have Q4 : Hid (w.heap.size + 1 < ((w.alloc (.cells #[.pointer (some ⟨b, 0, none⟩)] 62)).alloc (.cells #[.int .u64 0] 46)).heap.size) := by show _ < _; simp
  generalize hWA : (w.alloc (.cells #[.pointer (some ⟨b, 0, none⟩)] 62)).alloc (.cells #[.int .u64 0] 46) = WA at *
  clear hWA s0 s4
  obtain ⟨wo, hwo⟩ : ∃ wo : World, wo = WA := ⟨_, rfl⟩
  go_loopw [13] (fun i wr => ∃ k at_ : Nat, k ≤ os.length ∧ i = .int .i64 k ∧ Hid (soundTo h.ar os 0 os = soundTo h.ar os at_ (os.drop k)) ∧ Hid (at_ ≤ h.ar.length ∧ ∀ o, os[k]? = some o → at_ ≤ o.a) ∧
    Hid (wr.cell? ⟨w.heap.size, 0, none⟩ = some (.pointer (some ⟨b, 0, none⟩))) ∧ Hid (wr.cell? ⟨w.heap.size + 1, 0, none⟩ = some (.int .u64 (at_ : Int))) ∧ Hid (wr.frozen? ⟨w.heap.size + 1, 0, none⟩ = false) ∧ Hid (w.heap.size + 1 < wr.heap.size) ∧ Hid (Below w.heap.size w wr)) (fun i _ => os.length - (intOf i).toNat)
  case atStart => exact ⟨0, 0, Nat.zero_le _, rfl, rfl, ⟨Nat.zero_le _, fun _ _ => Nat.zero_le _⟩, Q1.out, Q2.out, Q3.out, Q4.out, HB0.out⟩
  case round =>
    obtain ⟨k, at_, hk, rfl, HT, HAT, R1, R2, R3, R4, HBr⟩ := hrel
    clear Q1 Q2 Q3 Q4 HB0 hwo
    have HSR := Lib.hid (HS.out.below HBr.out)
    by_cases hlt : k < os.length
    · have ho : os[k]? = some os[k] := List.getElem?_eq_getElem hlt
      generalize os[k] = o at ho
      have hfe := HFIT.out.each o (List.mem_of_getElem? ho)
      have HFE := Lib.hid hfe
      obtain ⟨N, hN⟩ := Int.eq_ofNat_of_zero_le hfe.2.1
      have HN : Hid (o.n = (N : Int) ∧ o.n.toNat = N) := ⟨hN, by omega⟩
      have hN48 : N ≤ 48 := by omega
      have haa : o.a ≤ 16384 := by have := HMAX.out; omega
      have HHO := Lib.hid ho
      have HDR := Lib.hid (drop_next ho)
      have hata := HAT.out.2 o ho
      have HNX : Hid (o.a + 1 + N ≤ h.ar.length ∧ ∀ p, os[k + 1]? = some p → o.a + 1 + N ≤ p.a) := by
        rw [← HN.out.2]
        exact ⟨hfe.1, fun p hp => HFIT.out.after ho hp⟩
      obtain ⟨cu, hcu⟩ : ∃ cu, o.cur = cu := ⟨_, rfl⟩
      have HCU := Lib.hid hcu
      have HT0 : Hid (soundTo h.ar os 0 os = (zeroP h.ar at_ o.a && ((!cu || refsP h.ar o (leadsP os) N) && soundTo h.ar os (o.a + 1 + N) (os.drop (k + 1))))) := by show _ = _; rw [HT.out, HDR.out, soundTo, HN.out.2, hcu]
      obtain ⟨bk, oo, hA, hbk, c0, c1, c2, c3, c4, c5⟩ := HSR.out.ob.at_ ho
      subst hA
      rw [hN] at c3
      rw [hcu] at c5
      clear hcu
      have HBA := Lib.hid (balloc HBr.out (.cells #[.int .i64 o.i, .int .i64 o.k, .int .u64 o.a, .int .i64 (N : Int), .int .u64 o.m, .bool cu] 134))
      have ba0 := balloc (Below.refl wr.heap.size wr) (.cells #[.int .i64 o.i, .int .i64 o.k, .int .u64 o.a, .int .i64 (N : Int), .int .u64 o.m, .bool cu] 134)
      have A1 := Lib.hid (cell_later ba0 R1.out)
      have A2 := Lib.hid (cell_later ba0 R2.out)
      have A3 := Lib.hid ((ba0.frozen (p := ⟨w.heap.size + 1, 0, none⟩) R4.out).trans R3.out)
      have HZA : Hid (w.heap.size + 1 < (wr.alloc (.cells #[.int .i64 o.i, .int .i64 o.k, .int .u64 o.a, .int .i64 (N : Int), .int .u64 o.m, .bool cu] 134)).heap.size) := Nat.lt_of_lt_of_le R4.out ba0.size
      have B0 : Hid ((wr.alloc (.cells #[.int .i64 o.i, .int .i64 o.k, .int .u64 o.a, .int .i64 (N : Int), .int .u64 o.m, .bool cu] 134)).cell? ⟨wr.heap.size, 0, none⟩ = some (.int .i64 o.i)) := by show _ = _; go_simp
      have B1 : Hid ((wr.alloc (.cells #[.int .i64 o.i, .int .i64 o.k, .int .u64 o.a, .int .i64 (N : Int), .int .u64 o.m, .bool cu] 134)).cell? ⟨wr.heap.size, 1, none⟩ = some (.int .i64 o.k)) := by show _ = _; go_simp
      have B2 : Hid ((wr.alloc (.cells #[.int .i64 o.i, .int .i64 o.k, .int .u64 o.a, .int .i64 (N : Int), .int .u64 o.m, .bool cu] 134)).cell? ⟨wr.heap.size, 2, none⟩ = some (.int .u64 o.a)) := by show _ = _; go_simp
      have B3 : Hid ((wr.alloc (.cells #[.int .i64 o.i, .int .i64 o.k, .int .u64 o.a, .int .i64 (N : Int), .int .u64 o.m, .bool cu] 134)).cell? ⟨wr.heap.size, 3, none⟩ = some (.int .i64 (N : Int))) := by show _ = _; go_simp
      have B4 : Hid ((wr.alloc (.cells #[.int .i64 o.i, .int .i64 o.k, .int .u64 o.a, .int .i64 (N : Int), .int .u64 o.m, .bool cu] 134)).cell? ⟨wr.heap.size, 4, none⟩ = some (.int .u64 o.m)) := by show _ = _; go_simp
      have B5 : Hid ((wr.alloc (.cells #[.int .i64 o.i, .int .i64 o.k, .int .u64 o.a, .int .i64 (N : Int), .int .u64 o.m, .bool cu] 134)).cell? ⟨wr.heap.size, 5, none⟩ = some (.bool cu)) := by show _ = _; go_simp
      have HSA := Lib.hid (HSR.out.below ba0)
      have hsc0 := HSA.out.st.c0
      simp only at hsc0
      have HZ0 := Lib.hid (zero82 b w.heap.size (w.heap.size + 1) ba oa aC at_ o.a h.ar (wr.alloc (.cells #[.int .i64 o.i, .int .i64 o.k, .int .u64 o.a, .int .i64 (N : Int), .int .u64 o.m, .bool cu] 134)) A1.out A2.out hsc0 HSA.out.hp.ar hata (by omega) HMAX.out HVC.out)
      clear hfe hN ho hata hbk hsc0 ba0 HT HDR HHO
      cases hz : zeroP h.ar at_ o.a
      · have E : Hid (soundP h = false) := by show _ = _; rw [ES.out, HT0.out, hz]; rfl
        rw [hz] at HZ0
        clear hz
        go_wp2_with fail
        refine HZ0.out.mono ?_
        rintro e w2 ⟨rfl, hb2⟩
        have HB2 := Lib.hid (bthen HBA.out hb2)
        have r1 := Lib.hid (cell_later hb2 A1.out)
        have r2 := Lib.hid (cell_later hb2 A2.out)
        have r3 := Lib.hid ((hb2.frozen (p := ⟨w.heap.size + 1, 0, none⟩) HZA.out).trans A3.out)
        have r4 : Hid (w.heap.size + 1 < w2.heap.size) := Nat.lt_of_lt_of_le HZA.out hb2.size
        have o2 := cell_later hb2 B2.out
        have o3 := cell_later hb2 B3.out
        have o5 := cell_later hb2 B5.out
        have OC := Lib.hid (And.intro (cell_later hb2 B0.out) (And.intro (cell_later hb2 B1.out) (cell_later hb2 B4.out)))
        clear hb2 HZ0 A1 A2 A3 HZA B0 B1 B2 B3 B4 B5
        go_wp2
        go_ret
        rw [E.out]
        exact ⟨rfl, HB2.out⟩
      · rw [hz, Bool.true_and] at HT0
        rw [hz] at HZ0
        clear hz
        cases cu
        · have HT1 : Hid (soundTo h.ar os 0 os = soundTo h.ar os (o.a + 1 + N) (os.drop (k + 1))) := by show _ = _; rw [HT0.out]; rfl
          go_wp2_with fail
          refine HZ0.out.mono ?_
          rintro e w2 ⟨rfl, hb2⟩
          have HB2 := Lib.hid (bthen HBA.out hb2)
          have r1 := Lib.hid (cell_later hb2 A1.out)
          have r2 := Lib.hid (cell_later hb2 A2.out)
          have r3 := Lib.hid ((hb2.frozen (p := ⟨w.heap.size + 1, 0, none⟩) HZA.out).trans A3.out)
          have r4 : Hid (w.heap.size + 1 < w2.heap.size) := Nat.lt_of_lt_of_le HZA.out hb2.size
          have o2 := cell_later hb2 B2.out
          have o3 := cell_later hb2 B3.out
          have o5 := cell_later hb2 B5.out
          have OC := Lib.hid (And.intro (cell_later hb2 B0.out) (And.intro (cell_later hb2 B1.out) (cell_later hb2 B4.out)))
          clear hb2 HZ0 A1 A2 A3 HZA B0 B1 B2 B3 B4 B5
          have K1 := Lib.hid ((World.cell?_setCell_far w2 ⟨w.heap.size + 1, 0, none⟩ ⟨w.heap.size, 0, none⟩ (.int .u64 ((o.a + 1 + N : Nat) : Int)) (by simp)).trans r1.out)
          have K2 := Lib.hid (World.cell?_setCell_same w2 ⟨w.heap.size + 1, 0, none⟩ (.int .u64 ((o.a + 1 + N : Nat) : Int)) r2.out)
          have K3 : Hid ((w2.setCell ⟨w.heap.size + 1, 0, none⟩ (.int .u64 ((o.a + 1 + N : Nat) : Int))).frozen? ⟨w.heap.size + 1, 0, none⟩ = false) := by show _ = _; rw [World.frozen?_setCell]; exact r3.out
          have K4 : Hid (w.heap.size + 1 < (w2.setCell ⟨w.heap.size + 1, 0, none⟩ (.int .u64 ((o.a + 1 + N : Nat) : Int))).heap.size) := by show _ < _; simp; exact r4.out
          have K5 : Hid (Below w.heap.size w (w2.setCell ⟨w.heap.size + 1, 0, none⟩ (.int .u64 ((o.a + 1 + N : Nat) : Int)))) := HB2.out.setCell (by simp) _
          have ec : ((o.a + 1 + N : Nat) : Int) = (o.a : Int) + 1 + (N : Int) := by omega
          rw [ec] at K1 K2 K3 K4 K5
          have m2 := r2.out
          have f2 := r3.out
          have l2 := r4.out
          clear ec
          go_wp2
          clear m2 f2 l2
          go_roundw
          case rel =>
            refine ⟨k + 1, o.a + 1 + N, by omega, by go_num, HT1.out, HNX.out, K1.out, ?_, K3.out, K4.out, K5.out⟩
            have ec : ((o.a + 1 + N : Nat) : Int) = (o.a : Int) + 1 + (N : Int) := by omega
            rw [ec]
            exact K2.out
          case measure => simp [intOf]; omega
        · simp only [Bool.not_true, Bool.false_or] at HT0
          have HSA2 := Lib.hid HSA.out
          have CR : Hid (∀ W, Below (wr.alloc (.cells #[.int .i64 o.i, .int .i64 o.k, .int .u64 o.a, .int .i64 (N : Int), .int .u64 o.m, .bool true] 134)).heap.size (wr.alloc (.cells #[.int .i64 o.i, .int .i64 o.k, .int .u64 o.a, .int .i64 (N : Int), .int .u64 o.m, .bool true] 134)) W → Calls Tryz.prog 85 #[.pointer (some ⟨b, 0, none⟩), .agg #[.int .i64 o.i, .int .i64 o.k, .int .u64 o.a, .int .i64 (N : Int), .int .u64 o.m, .bool true], .func (.func 86) #[.pointer (some ⟨b, 0, none⟩)] #[]] W (Ret (.bool (refsP h.ar o (leadsP os) N)) W)) := fun W hW => by
            have := refs85 b c _ h os _ o W (HSA.out.below hW) HFIT.out.few HFIT.out.sorted ⟨HFE.out.2.1, HFE.out.2.2.1⟩ HFE.out.2.2.2 HFE.out.1 HMAX.out
            rw [HN.out.2] at this
            unfold Obj.v at this
            rwa [HN.out.1, HCU.out] at this
          generalize hrr : refsP h.ar o (leadsP os) N = rr at *
          go_wp2_with fail
          refine HZ0.out.mono ?_
          rintro e w2 ⟨rfl, hb2⟩
          have HB2 := Lib.hid (bthen HBA.out hb2)
          have r1 := cell_later hb2 A1.out
          have R12 := Lib.hid r1
          have R22 := Lib.hid (cell_later hb2 A2.out)
          have R32 := Lib.hid ((hb2.frozen (p := ⟨w.heap.size + 1, 0, none⟩) HZA.out).trans A3.out)
          have R42 : Hid (w.heap.size + 1 < w2.heap.size) := Nat.lt_of_lt_of_le HZA.out hb2.size
          have o0 := cell_later hb2 B0.out
          have o1 := cell_later hb2 B1.out
          have o2 := cell_later hb2 B2.out
          have o3 := cell_later hb2 B3.out
          have o4 := cell_later hb2 B4.out
          have o5 := cell_later hb2 B5.out
          have O2 := Lib.hid o2
          have O3 := Lib.hid o3
          have CR2 := Lib.hid (CR.out w2 hb2)
          clear hb2 HZ0 A1 A2 A3 HZA B0 B1 B2 B3 B4 B5 hrr CR
          cases rr
          · have E : Hid (soundP h = false) := by show _ = _; rw [ES.out, HT0.out]; rfl
            go_wp2_with (go_at_call 85; refine CR2.out.mono ?_)
            rintro e w3 ⟨rfl, hb3⟩
            have HB3 := Lib.hid (bthen HB2.out hb3)
            clear hb3
            go_wp2
            go_ret
            rw [E.out]
            exact ⟨rfl, HB3.out⟩
          · have HT1 : Hid (soundTo h.ar os 0 os = soundTo h.ar os (o.a + 1 + N) (os.drop (k + 1))) := by show _ = _; rw [HT0.out]; rfl
            go_wp2_with (go_at_call 85; refine CR2.out.mono ?_)
            rintro e w3 ⟨rfl, hb3⟩
            have HB3 := Lib.hid (bthen HB2.out hb3)
            have S1 := Lib.hid (cell_later hb3 R12.out)
            have S2 := Lib.hid (cell_later hb3 R22.out)
            have S3 := Lib.hid ((hb3.frozen (p := ⟨w.heap.size + 1, 0, none⟩) R42.out).trans R32.out)
            have S4 : Hid (w.heap.size + 1 < w3.heap.size) := Nat.lt_of_lt_of_le R42.out hb3.size
            clear o0 o1 o2 o3 o4 o5 r1
            have o2 := cell_later hb3 O2.out
            have o3 := cell_later hb3 O3.out
            clear hb3 R12 R22 R32 R42 O2 O3
            have K1 := Lib.hid ((World.cell?_setCell_far w3 ⟨w.heap.size + 1, 0, none⟩ ⟨w.heap.size, 0, none⟩ (.int .u64 ((o.a + 1 + N : Nat) : Int)) (by simp)).trans S1.out)
            have K2 := Lib.hid (World.cell?_setCell_same w3 ⟨w.heap.size + 1, 0, none⟩ (.int .u64 ((o.a + 1 + N : Nat) : Int)) S2.out)
            have K3 : Hid ((w3.setCell ⟨w.heap.size + 1, 0, none⟩ (.int .u64 ((o.a + 1 + N : Nat) : Int))).frozen? ⟨w.heap.size + 1, 0, none⟩ = false) := by show _ = _; rw [World.frozen?_setCell]; exact S3.out
            have K4 : Hid (w.heap.size + 1 < (w3.setCell ⟨w.heap.size + 1, 0, none⟩ (.int .u64 ((o.a + 1 + N : Nat) : Int))).heap.size) := by show _ < _; simp; exact S4.out
            have K5 : Hid (Below w.heap.size w (w3.setCell ⟨w.heap.size + 1, 0, none⟩ (.int .u64 ((o.a + 1 + N : Nat) : Int)))) := HB3.out.setCell (by simp) _
            have ec : ((o.a + 1 + N : Nat) : Int) = (o.a : Int) + 1 + (N : Int) := by omega
            rw [ec] at K1 K2 K3 K4 K5
            have m2 := S2.out
            have f2 := S3.out
            have l2 := S4.out
            clear ec
            go_wp2
            clear m2 f2 l2
            go_roundw
            case rel =>
              refine ⟨k + 1, o.a + 1 + N, by omega, by go_num, HT1.out, HNX.out, K1.out, ?_, K3.out, K4.out, K5.out⟩
              have ec : ((o.a + 1 + N : Nat) : Int) = (o.a : Int) + 1 + (N : Int) := by omega
              rw [ec]
              exact K2.out
            case measure => simp [intOf]; omega
    · obtain rfl : k = os.length := by omega
      rw [List.drop_length] at HT
      have E : Hid (soundP h = zeroP h.ar at_ h.ar.length) := by show _ = _; rw [ES.out, HT.out]; rfl
      have hsc0 := HSR.out.st.c0
      simp only at hsc0
      have HZ0 := Lib.hid (zero82 b w.heap.size (w.heap.size + 1) ba oa aC at_ h.ar.length h.ar wr R1.out R2.out hsc0 HSR.out.hp.ar HAT.out.1 (Nat.le_refl _) HMAX.out HVC.out)
      have r1 := R1.out
      clear HT
      go_wp2_with fail
      refine HZ0.out.mono ?_
      rintro e w2 ⟨rfl, hb2⟩
      have HB2 := Lib.hid (bthen HBr.out hb2)
      clear hb2
      go_wp2
      go_ret
      rw [E.out]
      exact ⟨rfl, HB2.out⟩
end Go.Proofs.YtieijfefnedifaaGreatDoor
