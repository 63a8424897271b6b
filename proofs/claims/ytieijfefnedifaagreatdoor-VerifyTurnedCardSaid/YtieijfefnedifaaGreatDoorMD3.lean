/- The walk of heap's look. -/
import Derived.Test.YtieijfefnedifaaGreatDoorMD1D2
import Derived.Deep.RegionHeld3
namespace Go.Proofs.YtieijfefnedifaaGreatDoor
open Go.RowKit
set_option linter.unusedVariables false
set_option linter.unusedSimpArgs false

def LookP (w0 w : World) (b : Nat) (v : HeapV) (h : HeapB) (e : Ending) (w' : World) : Prop :=
  e = .returned (.bool (lookP h)) ∧ Below w0.heap.size w0 w' ∧ Below b w w' ∧ (lookP h = true → LkS w0 w w' b v (objs h))
theorem objs_next {h : HeapB} {i k : Nat} {s : SpanB} (hs : h.sp[i]? = some s) : ((candTo h.sp i ++ slotsTo i s k).map (Cand.obj h.ar)) ++ [Cand.obj h.ar (⟨i, s, k⟩ : Cand)] = ((candTo h.sp i ++ (slotsTo i s k ++ [(⟨i, s, k⟩ : Cand)])).map (Cand.obj h.ar)) := by
  simp
set_option maxRecDepth 100000 in
set_option maxHeartbeats 16000000 in
theorem look44 (b : Nat) (v : HeapV) (h : HeapB) (w0 w : World) (hS : StAt w b v (.slice none 0 0)) (hf : ∀ j, w.frozen? ⟨b, j, none⟩ = false) (hb : b < w.heap.size) (h0 : Below w0.heap.size w0 w) (hb0 : w0.heap.size ≤ b) (hr : RdH w0 v h) (hfr : framedP h = true) : Calls Tryz.prog 44 #[.pointer (some ⟨b, 0, none⟩)] w (LookP w0 w b v h) := by
  obtain ⟨g1, g2, g3, g4, g5, g6⟩ := framed_parts hfr
  have hup := okB_parts g2
  have hlen256 := okL_len g3
  have HOK := Lib.hid g3
  have HIN := Lib.hid g6
  have HR := Lib.hid hr
  have HB0 := Lib.hid hb0
  have HAR : Hid (h.ar.length ≤ 16384 ∧ (h.ar.length : Int) = h.us.n * 16) := ⟨g1, g5⟩
  have HL0 : Hid (LkS w0 w w b v []) := ⟨none, 0, hS, OwO.nil_ _ _, hf, h0, Below.refl _ _, hb⟩
  have hn := hr.n
  have hsn := hr.sn
  have hlen := hr.sp.len
  have s3 := hS.c3
  obtain ⟨aA, aN, aC, ub, sA, sN, sC, vs⟩ := v
  simp only at hn hsn s3 HR HL0
  subst hn
  subst hsn
  clear hr hfr g1 g2 g3 g4 g5 g6 hup hf h0 hb0 hS
  go_enter Tryz.func44, Tryz.ntmps44
  go_wp2
  clear s3
  obtain ⟨wo, hwo⟩ : ∃ wo : World, wo = w := ⟨_, rfl⟩
  go_loopw [17] (fun i wr => ∃ k : Nat, k ≤ h.sp.length ∧ i = .int .i64 k ∧ Hid (LkS w0 w wr b ⟨aA, h.ar.length, aC, ub, sA, h.sp.length, sC, vs⟩ ((candTo h.sp k).map (Cand.obj h.ar))) ∧ Hid ((candTo h.sp k).all (Cand.good h.ar) = true)) (fun i _ => h.sp.length - (intOf i).toNat)
  case atStart => exact ⟨0, Nat.zero_le _, rfl, HL0.out, rfl⟩
  case round =>
    obtain ⟨i, hi, rfl, HLK, HGO⟩ := hrel
    clear HL0 hwo
    by_cases hlt : i < h.sp.length
    · have hs : h.sp[i]? = some h.sp[i] := List.getElem?_eq_getElem hlt
      generalize h.sp[i] = s at hs
      obtain ⟨A, c, hlx⟩ := HLK.out
      have HLX := Lib.hid hlx
      obtain ⟨vv, bk, oo, hv, hRv, hA, hbk, c0, c1, c2, c3, c4, c5, c6, c7⟩ := HR.out.sp.at_ hs
      replace c0 := cell_later hlx.lo c0
      replace c1 := cell_later hlx.lo c1
      replace c2 := cell_later hlx.lo c2
      replace c3 := cell_later hlx.lo c3
      replace c4 := cell_later hlx.lo c4
      replace c5 := cell_later hlx.lo c5
      replace c6 := cell_later hlx.lo c6
      replace c7 := cell_later hlx.lo c7
      have hrp := okL_right HOK.out hs
      have hsh := span_shape hrp
      have HRP := Lib.hid hrp
      have HSH := Lib.hid hsh
      have HIS := Lib.hid (HIN.out s (List.mem_of_getElem? hs))
      have HRN := Lib.hid hRv
      have HSS := Lib.hid hs
      have e1 := hRv.first
      have e2 := hRv.pages
      have e3 := hRv.size
      have e4 := hRv.sw
      have e5 := hRv.al.n
      have e6 := hRv.ma.n
      obtain ⟨K, hKK⟩ := Int.eq_ofNat_of_zero_le (show 0 ≤ s.al.n by omega)
      have HKN : Hid (s.al.n = (K : Int) ∧ K ≤ 8 ∧ s.al.n.toNat = K) := ⟨hKK, by omega, by omega⟩
      have HFEW : Hid (∀ k, k ≤ K → ((candTo h.sp i ++ slotsTo i s k).map (Cand.obj h.ar)).length ≤ 100000) := by
        intro k hk
        rw [List.length_map, List.length_append]
        have h1 := candTo_few HOK.out i hi
        have h2 := slots_few i s k
        omega
      obtain ⟨f, pg, z, ⟨n, A1, m, ca⟩, ⟨n', A2, m', cb⟩, sw⟩ := vv
      simp only at hA c0 c1 c2 c3 c4 c5 c6 c7 e1 e2 e3 e4 e5 e6
      subst hA
      subst e1
      subst e2
      subst e3
      subst e4
      subst e5
      subst e6
      rw [hKK] at c3
      clear hs hv hRv hbk hrp hsh hKK hlx HLK
      go_wp2
      have HLB := Lib.hid (HLX.out.later (balloc (Below.refl _ wr) (.cells #[.int .i64 s.first, .int .i64 s.pages, .int .i64 s.size, .int .i64 (K : Int), .slice A1 m ca, .int .i64 s.ma.n, .slice A2 m' cb, .bool s.sw] 44)))
      have HVP : Hid (VarS (wr.alloc (.cells #[.int .i64 s.first, .int .i64 s.pages, .int .i64 s.size, .int .i64 (K : Int), .slice A1 m ca, .int .i64 s.ma.n, .slice A2 m' cb, .bool s.sw] 44)) wr.heap.size ⟨s.first, s.pages, s.size, ⟨K, A1, m, ca⟩, ⟨s.ma.n, A2, m', cb⟩, s.sw⟩) := VarS.made wr ⟨s.first, s.pages, s.size, ⟨K, A1, m, ca⟩, ⟨s.ma.n, A2, m', cb⟩, s.sw⟩ _ rfl
      have HGP : Hid (∀ G, (Value.slice A ((candTo h.sp i).map (Cand.obj h.ar)).length c).ownBlock = some G → G ≠ wr.heap.size) := fun G hG e => by have := (World.ownsRow.lt HLX.out.ow G hG).2; omega
      have HBP : Hid (b < wr.heap.size) := HLX.out.lt
      generalize hWA : wr.alloc (.cells #[.int .i64 s.first, .int .i64 s.pages, .int .i64 s.size, .int .i64 (K : Int), .slice A1 m ca, .int .i64 s.ma.n, .slice A2 m' cb, .bool s.sw] 44) = WA at *
      generalize hpp : wr.heap.size = p at *
      clear hWA hpp c0 c1 c2 c3 c4 c5 c6 c7 HLX
      obtain ⟨wi, hwi⟩ : ∃ wi : World, wi = WA := ⟨_, rfl⟩
      go_loopw [25] (fun i5 wq => ∃ (k : Nat) (A : Option Addr) (c : Nat), k ≤ K ∧ i5 = .int .i64 k ∧ Hid (LkX w0 w wq b ⟨aA, h.ar.length, aC, ub, some ⟨bk, oo, none⟩, h.sp.length, sC, vs⟩ ((candTo h.sp i ++ slotsTo i s k).map (Cand.obj h.ar)) A c) ∧ Hid ((candTo h.sp i ++ slotsTo i s k).all (Cand.good h.ar) = true) ∧
        Hid (VarS wq p ⟨s.first, s.pages, s.size, ⟨K, A1, m, ca⟩, ⟨s.ma.n, A2, m', cb⟩, s.sw⟩) ∧ Hid (∀ G, (Value.slice A ((candTo h.sp i ++ slotsTo i s k).map (Cand.obj h.ar)).length c).ownBlock = some G → G ≠ p)) (fun i5 _ => K - (intOf i5).toNat)
      case atStart =>
        have hx0 : candTo h.sp i ++ slotsTo i s 0 = candTo h.sp i := by simp [slotsTo]
        exact ⟨0, A, c, Nat.zero_le _, rfl, by rw [hx0]; exact HLB.out, by rw [hx0]; exact HGO.out, HVP.out, by rw [hx0]; exact HGP.out⟩
      case round =>
        clear HLB HVP HGP hwi
        obtain ⟨k, A, c, hk, rfl, HLQ, HGQ, HVQ, HGP⟩ := hrel
        by_cases hkk : k < K
        · have hwl : k / 64 < s.al.w.length := by
            have h1 := okB_parts (rightP_parts HRP.out).2.2.2.1
            have h2 := HKN.out
            omega
          have HIS50 := Lib.hid (is50 ⟨s.al.n, A1, m, ca⟩ s.al k wr (HRN.out.al.below HLQ.out.lo) hwl (by have := HKN.out; omega))
          unfold BitV.v at HIS50
          simp only at HIS50
          rw [HKN.out.1] at HIS50
          obtain ⟨q0, q1, q2, q3, q4, q5, q6, q7⟩ := HVQ.out
          simp only at q0 q1 q2 q3 q4 q5 q6 q7
          clear hwl
          by_cases hbit : bitP s.al k = true
          · rw [hbit] at HIS50
            have HMEM := Lib.hid (cand_mem HSS.out (show k < s.al.n.toNat by have := HKN.out; omega) hbit)
            have HST := Lib.hid (slotsTo_succ_yes (i := i) hbit)
            have HCE := Lib.hid (cand_end HOK.out HMEM.out)
            clear hbit
            go_wp2_with (go_at_call 51; refine HIS50.out.mono ?_)
            rintro e w1 ⟨rfl, hb1⟩
            have HL1 := Lib.hid (HLQ.out.later hb1)
            have HV1 := Lib.hid (HVQ.out.below hb1)
            have R0 := Lib.hid HV1.out.c0
            have R1 := Lib.hid HV1.out.c1
            have R2 := Lib.hid HV1.out.c2
            have R3 := Lib.hid HV1.out.c3
            have R4 := Lib.hid HV1.out.c4
            have R5 := Lib.hid HV1.out.c5
            have R6 := Lib.hid HV1.out.c6
            have R7 := Lib.hid HV1.out.c7
            simp only at R0 R1 R2 R3 R4 R5 R6 R7
            clear hb1 HLQ HVQ HIS50 q0 q1 q2 q3 q4 q5 q6 q7
            have CB : Hid (∀ W, Calls Tryz.prog 72 #[.agg #[.int .i64 s.first, .int .i64 s.pages, .int .i64 s.size, .int .i64 (K : Int), .slice A1 m ca, .int .i64 s.ma.n, .slice A2 m' cb, .bool s.sw]] W (Ret (.int .u64 (s.first * 16)) W)) := fun W => base42 ⟨s.first, s.pages, s.size, ⟨K, A1, m, ca⟩, ⟨s.ma.n, A2, m', cb⟩, s.sw⟩ W (by have := HSH.out; simp only; omega) (by have := HSH.out; simp only; omega)
            obtain ⟨t, ht, ht2⟩ : ∃ t : Nat, (k : Int) * s.size = (t : Int) ∧ t = k * s.size.toNat ∧ t ≤ 128 := by
              have h8 := HKN.out.2.1
              rcases HSH.out.2.2.2.2 with ⟨e, _⟩ | ⟨_, ⟨e, _⟩ | ⟨e, _⟩ | ⟨e, _⟩ | ⟨e, _⟩⟩ <;> rw [e]
              · exact ⟨0, by omega, by simp, by omega⟩
              · exact ⟨k * 2, by omega, rfl, by omega⟩
              · exact ⟨k * 4, by omega, rfl, by omega⟩
              · exact ⟨k * 8, by omega, rfl, by omega⟩
              · exact ⟨k * 16, by omega, rfl, by omega⟩
            obtain ⟨at_, hat⟩ : ∃ a : Nat, a = (⟨i, s, k⟩ : Cand).a := ⟨_, rfl⟩
            have hat2 : s.first * 16 + (t : Int) = (at_ : Int) := by rw [hat]; unfold Cand.a; simp only; have := HSH.out; omega
            have HAT : Hid (at_ < h.ar.length) := by
              show _ < _
              have h1 := HCE.out.2.1
              have h2 := HIS.out.2
              have h3 := HAR.out.2
              have h4 := HCE.out.2.2.1
              unfold endP at h1
              rw [hat]
              omega
            have hw1 : IntKind.i64.wrap ((k : Int) * s.size) = (t : Int) := by rw [ht]; exact wrap_in (by omega)
            have hw2 : IntKind.u64.wrap (t : Int) = (t : Int) := by rw [u64_wrap_]; omega
            have hw3 : IntKind.u64.wrap (s.first * 16 + (t : Int)) = (at_ : Int) := by rw [hat2, u64_wrap_]; have := HAT.out; have := HAR.out; omega
            have HA_ := Lib.hid hat
            clear ht ht2 hat hat2
            go_wp2
            refine region_up (by kernel_rfl) (by kernel_rfl) ?_
            go_big_quiet_want
            apply Exists.intro
            refine ⟨fun W hW => ?_, ?_⟩
            · have g0 := cell_later hW R0.out
              have g1 := cell_later hW R1.out
              have g2 := cell_later hW R2.out
              have g3 := cell_later hW R3.out
              have g4 := cell_later hW R4.out
              have g5 := cell_later hW R5.out
              have g6 := cell_later hW R6.out
              have g7 := cell_later hW R7.out
              go_simp
              all_goals exact rfl
            simp only [Act.put, List.setIfInBounds_toArray, List.set_cons_succ, List.set_cons_zero]
            go_big_quiet_on
            go_big_quiet_want
            apply Exists.intro
            refine ⟨fun W hW => ?_, ?_⟩
            · have g0 := cell_later hW R0.out
              have g1 := cell_later hW R1.out
              have g2 := cell_later hW R2.out
              have g3 := cell_later hW R3.out
              have g4 := cell_later hW R4.out
              have g5 := cell_later hW R5.out
              have g6 := cell_later hW R6.out
              have g7 := cell_later hW R7.out
              go_simp
              exact call_up hW (CB.out W)
            simp only [Act.put, List.setIfInBounds_toArray, List.set_cons_succ, List.set_cons_zero]
            go_big_quiet_on
            iterate 7
              go_big_quiet_want
              apply Exists.intro
              refine ⟨fun W hW => ?_, ?_⟩
              · have g0 := cell_later hW R0.out
                have g1 := cell_later hW R1.out
                have g2 := cell_later hW R2.out
                have g3 := cell_later hW R3.out
                have g4 := cell_later hW R4.out
                have g5 := cell_later hW R5.out
                have g6 := cell_later hW R6.out
                have g7 := cell_later hW R7.out
                go_simp
                all_goals exact rfl
              simp only [Act.put, List.setIfInBounds_toArray, List.set_cons_succ, List.set_cons_zero]
              go_big_quiet_on
            refine wpQuiet_nil ?_
            intro W hW
            have HL2 := Lib.hid (HL1.out.later hW)
            have HV2 := Lib.hid (HV1.out.below hW)
            clear hW HL1 HV1 R0 R1 R2 R3 R4 R5 R6 R7 hw1 hw2 hw3 CB
            have hx : h.ar[at_]? = some h.ar[at_] := List.getElem?_eq_getElem HAT.out
            have hxr := HR.out.words _ (List.getElem_mem HAT.out)
            have hwd : wd h.ar (⟨i, s, k⟩ : Cand).a = h.ar[at_] := by rw [← HA_.out]; exact wd_at hx
            generalize h.ar[at_] = x at hx hxr hwd
            have HWD := Lib.hid hwd
            obtain ⟨ba, oa, hAa, hba, hca⟩ := (HR.out.ar.below HL2.out.lo).at_ hx
            simp only at hAa
            subst hAa
            have HU := Lib.hid (unpack76 x W hxr)
            have hs0 := HL2.out.st.c0
            simp only at hs0
            have hq1 : (0 : Int) ≤ (at_ : Int) := by omega
            have hq2 : (at_ : Int) < (h.ar.length : Int) := by have := HAT.out; omega
            have hxn : 0 ≤ unpN x ∧ unpN x ≤ 48 := by
              unfold unpN
              split
              · rename_i hu
                unfold unOk shOk at hu
                simp only [Bool.and_eq_true, decide_eq_true_eq] at hu
                omega
              · omega
            obtain ⟨n, hnn⟩ := Int.eq_ofNat_of_zero_le hxn.1
            have HNN : Hid (unpN x = (n : Int) ∧ n ≤ 48) := ⟨hnn, by omega⟩
            clear hx hxr hwd hba hxn
            obtain ⟨M, hM⟩ : ∃ M, M = unpM x := ⟨_, rfl⟩
            rw [hnn, ← hM] at HU
            have CZ : Hid (∀ W, Calls Tryz.prog 33 #[.int .i64 ((n : Int) + 1)] W (Ret (.tuple #[.int .i64 (sizeP n), .int .i64 (pageP n)]) W)) := fun W => sizes33 n W HNN.out.2
            have HGD : Hid ((⟨i, s, k⟩ : Cand).good h.ar = (unOk x && ((sizeP (unN x) == s.size) && (pageP (unN x) == s.pages)))) := by show _ = _; unfold Cand.good fits; rw [HWD.out]
            by_cases hu : unOk x = true
            · have eN : unN x = (n : Int) := by have := HNN.out.1; unfold unpN at this; rw [if_pos hu] at this; exact this
              have eM : unM x = M := by rw [hM]; unfold unpM; rw [if_pos hu]
              rw [show unpE x = 0 from by unfold unpE; rw [if_pos hu]] at HU
              rw [hu, Bool.true_and, eN] at HGD
              have HNM : Hid (Cand.obj h.ar ⟨i, s, k⟩ = ⟨i, k, at_, n, M, s.sw || bitP s.ma k⟩) := by show _ = _; unfold Cand.obj Cand.cur; rw [HWD.out, eN, eM, ← HA_.out]
              clear hu eN eM hM hnn
              by_cases hz1 : sizeP n = s.size
              · have d1 : (sizeP n != s.size) = false := by simp [hz1]
                by_cases hz2 : pageP n = s.pages
                · have d2 : (pageP n != s.pages) = false := by simp [hz2]
                  rw [hz1, hz2] at HGD
                  simp only [BEq.rfl, Bool.and_self] at HGD
                  rw [hz1, hz2] at CZ
                  rw [hz1] at d1
                  rw [hz2] at d2
                  clear hz1 hz2
                  have hn48 : (n : Int) ≤ 48 := by have := HNN.out.2; omega
                  go_wp2_with (go_at_call 76; refine HU.out.mono ?_)
                  rintro e w3 ⟨rfl, hb3⟩
                  have HL3 := Lib.hid (HL2.out.later hb3)
                  have HV3 := Lib.hid (HV2.out.below hb3)
                  have HLA := Lib.hid (HL3.out.later (balloc (Below.refl _ w3) (.cells #[.int .i64 (n : Int), .int .u64 M] 56)))
                  have HVA := Lib.hid (HV3.out.below (balloc (Below.refl _ w3) (.cells #[.int .i64 (n : Int), .int .u64 M] 56)))
                  have T0 : Hid ((w3.alloc (.cells #[.int .i64 (n : Int), .int .u64 M] 56)).cell? ⟨w3.heap.size, 0, none⟩ = some (.int .i64 (n : Int))) := by show _ = _; go_simp
                  have T1 : Hid ((w3.alloc (.cells #[.int .i64 (n : Int), .int .u64 M] 56)).cell? ⟨w3.heap.size, 1, none⟩ = some (.int .u64 M)) := by show _ = _; go_simp
                  clear hb3 HU hca hs0 hq1 hq2
                  go_wp2_with (go_at_call 33; refine (CZ.out _).mono ?_)
                  rintro e w4 ⟨rfl, hb4⟩
                  have HL4 := Lib.hid (HLA.out.later hb4)
                  have HV4 := Lib.hid (HVA.out.below hb4)
                  have T04 := Lib.hid (cell_later hb4 T0.out)
                  have T14 := Lib.hid (cell_later hb4 T1.out)
                  have v1 := HV4.out.c1
                  have v2 := HV4.out.c2
                  simp only at v1 v2
                  have HB3S : Hid (b < w3.heap.size) := HL3.out.lt
                  have HR4 : Hid (∀ G, (Value.slice A ((candTo h.sp i ++ slotsTo i s k).map (Cand.obj h.ar)).length c).ownBlock = some G → G ≠ w3.heap.size) := fun G hG e => by have := (World.ownsRow.lt HL3.out.ow G hG).2; omega
                  clear hn48 hb4 CZ HLA HVA HL3 HV3 T0 T1 HL2 HV2
                  go_wp2
                  clear v1 v2
                  have HRB : Hid (b < w3.heap.size) := HB3S.out
                  generalize hrr : w3.heap.size = r at *
                  have HFK := Lib.hid (HFEW.out k hk)
                  generalize hOS : (candTo h.sp i ++ slotsTo i s k).map (Cand.obj h.ar) = OS at HL4 HR4 HGP HFK
                  have HOS := Lib.hid hOS
                  clear hOS
                  clear hrr d1 d2
                  have v5 := HV4.out.c5
                  have v6 := HV4.out.c6
                  have v7 := HV4.out.c7
                  simp only at v5 v6 v7
                  by_cases hsw : s.sw = false
                  · rw [hsw] at v7 HNM
                    rw [Bool.false_or] at HNM
                    have hml : k / 64 < s.ma.w.length := by
                      have h0 := rightP_parts HRP.out
                      have h1 := okB_parts h0.2.2.2.2.1
                      have h2 := HKN.out
                      have h3 := h0.2.2.2.2.2.1
                      have h4 := h0.2.2.2.2.2.2.1
                      omega
                    have HIM : Hid (∀ W, Below w0.heap.size w0 W → Calls Tryz.prog 51 #[.agg #[.int .i64 s.ma.n, .slice A2 m' cb], .int .i64 (k : Int)] W (Ret (.bool (bitP s.ma k)) W)) := fun W hW => is50 ⟨s.ma.n, A2, m', cb⟩ s.ma k W (HRN.out.ma.below hW) hml (by have := HKN.out; omega)
                    generalize bitP s.ma k = cu at *
                    have HV7 := Lib.hid v7
                    have HV5 := Lib.hid v5
                    have HV6 := Lib.hid v6
                    clear v5 v6 v7 hml hsw
                    have HS4 : Hid (w4.drew.cell? ⟨r, 0, none⟩ = some (.int .i64 (n : Int)) ∧ w4.drew.cell? ⟨r, 1, none⟩ = some (.int .u64 M) ∧ w4.drew.cell? ⟨p, 5, none⟩ = some (.int .i64 s.ma.n) ∧ w4.drew.cell? ⟨p, 6, none⟩ = some (.slice A2 m' cb) ∧ w4.drew.cell? ⟨p, 7, none⟩ = some (.bool false)) := ⟨cell_later (Below.refl _ _).drew T04.out, cell_later (Below.refl _ _).drew T14.out, cell_later (Below.refl _ _).drew HV5.out, cell_later (Below.refl _ _).drew HV6.out, cell_later (Below.refl _ _).drew HV7.out⟩
                    refine wp_region_held_drew (S := fun W => W.cell? ⟨r, 0, none⟩ = some (.int .i64 (n : Int)) ∧ W.cell? ⟨r, 1, none⟩ = some (.int .u64 M) ∧ W.cell? ⟨p, 5, none⟩ = some (.int .i64 s.ma.n) ∧ W.cell? ⟨p, 6, none⟩ = some (.slice A2 m' cb) ∧ W.cell? ⟨p, 7, none⟩ = some (.bool false)) (by kernel_rfl) HS4.out (fun hHeld => ?_)
                    have HL6 := Lib.hid (HL4.out.later (Below.refl _ _).drew)
                    have HVV6 := Lib.hid (HV4.out.below (Below.refl _ _).drew)
                    have HS6 := HS4
                    clear HS4 HL4 HV4 T04 T14 HV5 HV6 HV7
                    generalize w4.drew = w6 at *
                    refine wpAnyH_take (i := 0) (oi := _) (v := ?_) rfl (by kernel_rfl) (by kernel_rfl) (by kernel_rfl) (fun _ _ _ h => h) (Or.inl ⟨by rfl, ?_⟩) (by assumption) ?_
                    rotate_left
                    · intro w hSw
                      try dsimp only at hSw
                      obtain ⟨t0, t1, p5, p6, p7⟩ := hSw
                      go_simp
                      all_goals with_reducible rfl
                    try simp only [Act.put, List.setIfInBounds_toArray, List.set_cons_zero, List.set_cons_succ, List.getElem_toArray, List.getElem_cons_zero, List.getElem_cons_succ]
                    refine wpAnyH_take (i := 1) (oi := _) (v := ?_) rfl (by kernel_rfl) (by kernel_rfl) (by kernel_rfl) (fun _ _ _ h => h) (Or.inl ⟨by rfl, ?_⟩) (by assumption) ?_
                    rotate_left
                    · intro w hSw
                      try dsimp only at hSw
                      obtain ⟨t0, t1, p5, p6, p7⟩ := hSw
                      go_simp
                      all_goals with_reducible rfl
                    try simp only [Act.put, List.setIfInBounds_toArray, List.set_cons_zero, List.set_cons_succ, List.getElem_toArray, List.getElem_cons_zero, List.getElem_cons_succ]
                    refine wpAnyH_take (i := 2) (oi := _) (v := ?_) rfl (by kernel_rfl) (by kernel_rfl) (by kernel_rfl) (fun _ _ _ h => h) (Or.inl ⟨by rfl, ?_⟩) (by assumption) ?_
                    rotate_left
                    · intro w hSw
                      try dsimp only at hSw
                      obtain ⟨t0, t1, p5, p6, p7⟩ := hSw
                      go_simp
                      all_goals with_reducible rfl
                    try simp only [Act.put, List.setIfInBounds_toArray, List.set_cons_zero, List.set_cons_succ, List.getElem_toArray, List.getElem_cons_zero, List.getElem_cons_succ]
                    refine wpAnyH_take (i := 3) (oi := _) (v := ?_) rfl (by kernel_rfl) (by kernel_rfl) (by kernel_rfl) (fun _ _ _ h => h) (Or.inl ⟨by rfl, ?_⟩) (by assumption) ?_
                    rotate_left
                    · intro w hSw
                      try dsimp only at hSw
                      obtain ⟨t0, t1, p5, p6, p7⟩ := hSw
                      go_simp
                      all_goals with_reducible rfl
                    try simp only [Act.put, List.setIfInBounds_toArray, List.set_cons_zero, List.set_cons_succ, List.getElem_toArray, List.getElem_cons_zero, List.getElem_cons_succ]
                    refine wpAnyH_take (i := 5) (oi := _) (v := ?_) rfl (by kernel_rfl) (by kernel_rfl) (by kernel_rfl) (fun _ _ _ h => h) (Or.inl ⟨by rfl, ?_⟩) (by assumption) ?_
                    rotate_left
                    · intro w hSw
                      try dsimp only at hSw
                      obtain ⟨t0, t1, p5, p6, p7⟩ := hSw
                      go_simp
                      all_goals with_reducible rfl
                    try simp only [Act.put, List.setIfInBounds_toArray, List.set_cons_zero, List.set_cons_succ, List.getElem_toArray, List.getElem_cons_zero, List.getElem_cons_succ]
                    refine wpAnyH_take (i := 6) (oi := _) (v := ?_) rfl (by kernel_rfl) (by kernel_rfl) (by kernel_rfl) (fun _ _ _ h => h) (Or.inl ⟨by rfl, ?_⟩) (by assumption) ?_
                    rotate_left
                    · intro w hSw
                      try dsimp only at hSw
                      obtain ⟨t0, t1, p5, p6, p7⟩ := hSw
                      go_simp
                      all_goals with_reducible rfl
                    try simp only [Act.put, List.setIfInBounds_toArray, List.set_cons_zero, List.set_cons_succ, List.getElem_toArray, List.getElem_cons_zero, List.getElem_cons_succ]
                    refine wpAnyH_take (i := 7) (oi := _) (v := ?_) rfl (by kernel_rfl) (by kernel_rfl) (by kernel_rfl) (fun _ _ _ h => h) (Or.inl ⟨by rfl, ?_⟩) (by assumption) ?_
                    rotate_left
                    · intro w hSw
                      try dsimp only at hSw
                      obtain ⟨t0, t1, p5, p6, p7⟩ := hSw
                      go_simp
                      all_goals with_reducible rfl
                    try simp only [Act.put, List.setIfInBounds_toArray, List.set_cons_zero, List.set_cons_succ, List.getElem_toArray, List.getElem_cons_zero, List.getElem_cons_succ]
                    refine wpAnyH_take (i := 8) (oi := _) (v := ?_) rfl (by kernel_rfl) (by kernel_rfl) (by kernel_rfl) (fun _ _ _ h => h) (Or.inl ⟨by rfl, ?_⟩) (by assumption) ?_
                    rotate_left
                    · intro w hSw
                      try dsimp only at hSw
                      obtain ⟨t0, t1, p5, p6, p7⟩ := hSw
                      go_simp
                      all_goals with_reducible rfl
                    try simp only [Act.put, List.setIfInBounds_toArray, List.set_cons_zero, List.set_cons_succ, List.getElem_toArray, List.getElem_cons_zero, List.getElem_cons_succ]
                    refine wpAnyH_take (i := 9) (oi := _) (v := ?_) rfl (by kernel_rfl) (by kernel_rfl) (by kernel_rfl) (fun _ _ _ h => h) (Or.inl ⟨by rfl, ?_⟩) (by assumption) ?_
                    rotate_left
                    · intro w hSw
                      try dsimp only at hSw
                      obtain ⟨t0, t1, p5, p6, p7⟩ := hSw
                      go_simp
                      all_goals with_reducible rfl
                    try simp only [Act.put, List.setIfInBounds_toArray, List.set_cons_zero, List.set_cons_succ, List.getElem_toArray, List.getElem_cons_zero, List.getElem_cons_succ]
                    refine wpAnyH_take (i := 10) (oi := _) (v := ?_) rfl (by kernel_rfl) (by kernel_rfl) (by kernel_rfl) (fun _ _ _ h => h) (Or.inl ⟨by rfl, ?_⟩) (by assumption) ?_
                    rotate_left
                    · intro w hSw
                      try dsimp only at hSw
                      obtain ⟨t0, t1, p5, p6, p7⟩ := hSw
                      go_simp
                      all_goals with_reducible rfl
                    try simp only [Act.put, List.setIfInBounds_toArray, List.set_cons_zero, List.set_cons_succ, List.getElem_toArray, List.getElem_cons_zero, List.getElem_cons_succ]
                    refine wpAnyH_take (i := 11) (oi := _) (v := ?_) rfl (by kernel_rfl) (by kernel_rfl) (by kernel_rfl) (fun _ _ _ h => h) (Or.inl ⟨by rfl, ?_⟩) (by assumption) ?_
                    rotate_left
                    · intro w hSw
                      try dsimp only at hSw
                      obtain ⟨t0, t1, p5, p6, p7⟩ := hSw
                      go_simp
                      all_goals with_reducible rfl
                    try simp only [Act.put, List.setIfInBounds_toArray, List.set_cons_zero, List.set_cons_succ, List.getElem_toArray, List.getElem_cons_zero, List.getElem_cons_succ]
                    refine wpAnyH_take (i := 12) (oi := _) (v := ?_) rfl (by kernel_rfl) (by kernel_rfl) (by kernel_rfl) (fun _ _ _ h => h) (Or.inl ⟨by rfl, ?_⟩) (by assumption) ?_
                    rotate_left
                    · intro w hSw
                      try dsimp only at hSw
                      obtain ⟨t0, t1, p5, p6, p7⟩ := hSw
                      go_simp
                      all_goals with_reducible rfl
                    try simp only [Act.put, List.setIfInBounds_toArray, List.set_cons_zero, List.set_cons_succ, List.getElem_toArray, List.getElem_cons_zero, List.getElem_cons_succ]
                    refine wpAnyH_take (i := 13) (oi := _) (v := ?_) rfl (by kernel_rfl) (by kernel_rfl) (by kernel_rfl) (fun _ _ _ h => h) (Or.inl ⟨by rfl, ?_⟩) (by assumption) ?_
                    rotate_left
                    · intro w hSw
                      try dsimp only at hSw
                      obtain ⟨t0, t1, p5, p6, p7⟩ := hSw
                      go_simp
                      all_goals with_reducible rfl
                    try simp only [Act.put, List.setIfInBounds_toArray, List.set_cons_zero, List.set_cons_succ, List.getElem_toArray, List.getElem_cons_zero, List.getElem_cons_succ]
                    refine wpAnyH_take (i := 14) (oi := _) (v := ?_) rfl (by kernel_rfl) (by kernel_rfl) (by kernel_rfl) (fun _ _ _ h => h) (Or.inl ⟨by rfl, ?_⟩) (by assumption) ?_
                    rotate_left
                    · intro w hSw
                      try dsimp only at hSw
                      obtain ⟨t0, t1, p5, p6, p7⟩ := hSw
                      go_simp
                      all_goals with_reducible rfl
                    try simp only [Act.put, List.setIfInBounds_toArray, List.set_cons_zero, List.set_cons_succ, List.getElem_toArray, List.getElem_cons_zero, List.getElem_cons_succ]
                    have HIQ := Lib.hid (HIM.out w6 HL6.out.lo)
                    clear HIM
                    refine wpAnyH_ready (rs := [4, 15]) (by kernel_rfl) (by simp) ?_
                    refine AllReadyH.cons (o := _) rfl (fun K hK => ?_) (AllReadyH.cons (o := _) rfl (fun K hK => ?_) AllReadyH.nil)
                    · have c4 := HL6.out.st.c4
                      go_simp
                      refine hK.out _ _ HS6.out (fun hHeld => ?_)
                      clear hK K
                      try simp only [Act.put, List.setIfInBounds_toArray, List.set_cons_zero, List.set_cons_succ, List.getElem_toArray, List.getElem_cons_zero, List.getElem_cons_succ]
                      clear c4
                      refine wpAnyH_ready (rs := [15]) (by kernel_rfl) (by simp) ?_
                      refine AllReadyH.cons (o := _) rfl (fun K hK => ?_) AllReadyH.nil
                      go_simp
                      go_at_call 51
                      refine HIQ.out.mono ?_
                      rintro e w7 ⟨rfl, hb7⟩
                      have HL7 := Lib.hid (HL6.out.later hb7)
                      have HVV7 := Lib.hid (HVV6.out.below hb7)
                      have HS7 : Hid (w7.cell? ⟨r, 0, none⟩ = some (.int .i64 (n : Int)) ∧ w7.cell? ⟨r, 1, none⟩ = some (.int .u64 M) ∧ w7.cell? ⟨p, 5, none⟩ = some (.int .i64 s.ma.n) ∧ w7.cell? ⟨p, 6, none⟩ = some (.slice A2 m' cb) ∧ w7.cell? ⟨p, 7, none⟩ = some (.bool false)) := ⟨cell_later hb7 HS6.out.1, cell_later hb7 HS6.out.2.1, cell_later hb7 HS6.out.2.2.1, cell_later hb7 HS6.out.2.2.2.1, cell_later hb7 HS6.out.2.2.2.2⟩
                      clear hb7 HIQ HL6 HVV6 HS6
                      go_simp
                      refine hK.out _ _ HS7.out (fun hHeld => ?_)
                      clear hK K
                      try simp only [Act.put, List.setIfInBounds_toArray, List.set_cons_zero, List.set_cons_succ, List.getElem_toArray, List.getElem_cons_zero, List.getElem_cons_succ]
                      refine wpAnyH_take (i := 16) (oi := _) (v := ?_) rfl (by kernel_rfl) (by kernel_rfl) (by kernel_rfl) (fun _ _ _ h => h) (Or.inl ⟨by rfl, ?_⟩) (by assumption) ?_
                      rotate_left
                      · intro w hSw
                        try dsimp only at hSw
                        obtain ⟨t0, t1, p5, p6, p7⟩ := hSw
                        go_simp
                        all_goals with_reducible rfl
                      try simp only [Act.put, List.setIfInBounds_toArray, List.set_cons_zero, List.set_cons_succ, List.getElem_toArray, List.getElem_cons_zero, List.getElem_cons_succ]
                      refine wpAnyH_take (i := 17) (oi := _) (v := ?_) rfl (by kernel_rfl) (by kernel_rfl) (by kernel_rfl) (fun _ _ _ h => h) (Or.inl ⟨by rfl, ?_⟩) (by assumption) ?_
                      rotate_left
                      · intro w hSw
                        try dsimp only at hSw
                        obtain ⟨t0, t1, p5, p6, p7⟩ := hSw
                        go_simp
                        all_goals with_reducible rfl
                      try simp only [Act.put, List.setIfInBounds_toArray, List.set_cons_zero, List.set_cons_succ, List.getElem_toArray, List.getElem_cons_zero, List.getElem_cons_succ]
                      refine wpAnyH_ready (rs := [18]) (by kernel_rfl) (by simp) ?_
                      refine AllReadyH.cons (o := _) rfl (fun K hK => ?_) AllReadyH.nil
                      go_simp
                      obtain ⟨wA, hwA⟩ : ∃ wA, wA = w7.alloc (.cells #[.int .i64 (i : Int), .int .i64 (k : Int), .int .u64 (at_ : Int), .int .i64 (n : Int), .int .u64 M, .bool cu] 134) := ⟨_, rfl⟩
                      rw [← hwA]
                      have hbA : Below w7.heap.size w7 wA := by rw [hwA]; exact balloc (Below.refl _ _) _
                      have HLA := Lib.hid (HL7.out.later hbA)
                      have HVVA := Lib.hid (HVV7.out.below hbA)
                      have HSA : Hid (wA.cell? ⟨r, 0, none⟩ = some (.int .i64 (n : Int)) ∧ wA.cell? ⟨r, 1, none⟩ = some (.int .u64 M) ∧ wA.cell? ⟨p, 5, none⟩ = some (.int .i64 s.ma.n) ∧ wA.cell? ⟨p, 6, none⟩ = some (.slice A2 m' cb) ∧ wA.cell? ⟨p, 7, none⟩ = some (.bool false)) := ⟨cell_later hbA HS7.out.1, cell_later hbA HS7.out.2.1, cell_later hbA HS7.out.2.2.1, cell_later hbA HS7.out.2.2.2.1, cell_later hbA HS7.out.2.2.2.2⟩
                      have HCA : Hid (∀ j u, (Obj.mk i k at_ n M cu).cs[j]? = some u → wA.cell? ⟨w7.heap.size, j, none⟩ = some u) := by rw [hwA]; exact obj_cells w7 ⟨i, k, at_, n, M, cu⟩
                      clear hbA hwA HL7 HS7 HVV7
                      refine hK.out _ _ HSA.out (fun hHeld => ?_)
                      clear hK K
                      try simp only [Act.put, List.setIfInBounds_toArray, List.set_cons_zero, List.set_cons_succ, List.getElem_toArray, List.getElem_cons_zero, List.getElem_cons_succ]
                      refine wpAnyH_ready (rs := [19]) (by kernel_rfl) (by simp) ?_
                      refine AllReadyH.cons (o := _) rfl (fun K hK => ?_) AllReadyH.nil
                      refine step_appO1 (by rfl) (.tmp 79) (.tmp 93) (by rfl) (b + 1) (.slice A OS.length c) OS ⟨i, k, at_, n, M, cu⟩ w7.heap.size (by rfl) (by rfl) HLA.out.ow HCA.out HFK.out (by have := HLA.out.lt; omega) ?_
                      intro g cap w8 ho hg hat
                      have hnr : some r ≠ (Value.slice A OS.length c).ownBlock := fun e => HR4.out r e.symm rfl
                      have hnp : some p ≠ (Value.slice A OS.length c).ownBlock := fun e => HGP.out p e.symm rfl
                      have hnb : some b ≠ (Value.slice A OS.length c).ownBlock := fun e => by have := (World.ownsRow.lt HLA.out.ow b e.symm).1; omega
                      have HS8 : Hid (w8.cell? ⟨r, 0, none⟩ = some (.int .i64 (n : Int)) ∧ w8.cell? ⟨r, 1, none⟩ = some (.int .u64 M) ∧ w8.cell? ⟨p, 5, none⟩ = some (.int .i64 s.ma.n) ∧ w8.cell? ⟨p, 6, none⟩ = some (.slice A2 m' cb) ∧ w8.cell? ⟨p, 7, none⟩ = some (.bool false)) := ⟨hg.cell HSA.out.1 hnr, hg.cell HSA.out.2.1 hnr, hg.cell HSA.out.2.2.1 hnp, hg.cell HSA.out.2.2.2.1 hnp, hg.cell HSA.out.2.2.2.2 hnp⟩
                      have c48 := hg.cell HLA.out.st.c4 hnb
                      have z48 := (gfrozen hg (a := ⟨b, 4, none⟩) HLA.out.lt hnb).trans (HLA.out.fr 4)
                      have m48 := World.block_lt_of_cell? _ _ c48
                      have HV8 := Lib.hid (HVVA.out.grown hg hnp)
                      have HP8 : Hid (g ≠ p) := by
                        rcases hat with e | e
                        · exact HGP.out g e
                        · have := HVVA.out.lt
                          rw [e]
                          exact fun e2 => by omega
                      have HX8 := Lib.hid (HLA.out.app hg ho HB0.out)
                      clear ho hg hat hnr hnp hnb HLA HVVA HSA HCA
                      refine hK.out _ _ HS8.out (fun hHeld => ?_)
                      clear hK K
                      try simp only [Act.put, List.setIfInBounds_toArray, List.set_cons_zero, List.set_cons_succ, List.getElem_toArray, List.getElem_cons_zero, List.getElem_cons_succ]
                      refine wpAnyH_take (i := 20) (oi := _) (v := ?_) rfl (by kernel_rfl) (by kernel_rfl) (by kernel_rfl) (fun _ _ _ h => h) (Or.inl ⟨by rfl, ?_⟩) (by assumption) ?_
                      rotate_left
                      · intro w hSw
                        try dsimp only at hSw
                        obtain ⟨t0, t1, p5, p6, p7⟩ := hSw
                        go_simp
                        all_goals with_reducible rfl
                      try simp only [Act.put, List.setIfInBounds_toArray, List.set_cons_zero, List.set_cons_succ, List.getElem_toArray, List.getElem_cons_zero, List.getElem_cons_succ]
                      refine wpAnyH_take (i := 21) (oi := _) (v := ?_) rfl (by kernel_rfl) (by kernel_rfl) (by kernel_rfl) (fun _ _ _ h => h) (Or.inl ⟨by rfl, ?_⟩) (by assumption) ?_
                      rotate_left
                      · intro w hSw
                        try dsimp only at hSw
                        obtain ⟨t0, t1, p5, p6, p7⟩ := hSw
                        go_simp
                        all_goals with_reducible rfl
                      try simp only [Act.put, List.setIfInBounds_toArray, List.set_cons_zero, List.set_cons_succ, List.getElem_toArray, List.getElem_cons_zero, List.getElem_cons_succ]
                      refine wpAnyH_ready (rs := [22]) (by kernel_rfl) (by simp) ?_
                      refine AllReadyH.cons (o := _) rfl (fun K hK => ?_) AllReadyH.nil
                      go_simp
                      have hrb : r ≠ b := by have := HRB.out; omega
                      have hpb : p ≠ b := by have := HBP.out; omega
                      refine hK.out _ _ ⟨(World.cell?_setCell_far _ _ _ _ (by simp; omega)).trans HS8.out.1, (World.cell?_setCell_far _ _ _ _ (by simp; omega)).trans HS8.out.2.1, (World.cell?_setCell_far _ _ _ _ (by simp; omega)).trans HS8.out.2.2.1, (World.cell?_setCell_far _ _ _ _ (by simp; omega)).trans HS8.out.2.2.2.1, (World.cell?_setCell_far _ _ _ _ (by simp; omega)).trans HS8.out.2.2.2.2⟩ (fun hHeld => ?_)
                      clear hK K
                      try simp only [Act.put, List.setIfInBounds_toArray, List.set_cons_zero, List.set_cons_succ, List.getElem_toArray, List.getElem_cons_zero, List.getElem_cons_succ]
                      refine wpAnyH_done (by kernel_rfl) ?_ _
                      clear c48 z48 m48 hrb hpb
                      have hK8 := HKN.out.2.1
                      go_wp2
                      go_roundw
                      case rel =>
                        have hpb : p ≠ b := by have := HBP.out; omega
                        have EOS : (candTo h.sp i ++ slotsTo i s (k + 1)).map (Cand.obj h.ar) = OS ++ [⟨i, k, at_, n, M, cu⟩] := by rw [HST.out, ← objs_next HSS.out, HNM.out, HOS.out]
                        refine ⟨k + 1, some ⟨g, 0, none⟩, cap, by omega, by go_num, ?_, ?_, ?_, ?_⟩
                        · show LkX _ _ _ _ _ _ _ _
                          rw [EOS]
                          exact HX8.out
                        · show _ = _
                          rw [HST.out, ← List.append_assoc, List.all_append, HGQ.out]
                          simpa using HGD.out
                        · exact HV8.out.set_ne (p := ⟨b, 4, none⟩) (fun e => hpb e.symm) _
                        · intro G hG
                          cases hG
                          exact HP8.out
                      case measure => simp [intOf]; omega
                    · go_simp
                      go_at_call 51
                      refine HIQ.out.mono ?_
                      rintro e w7 ⟨rfl, hb7⟩
                      have HL7 := Lib.hid (HL6.out.later hb7)
                      have HVV7 := Lib.hid (HVV6.out.below hb7)
                      have HS7 : Hid (w7.cell? ⟨r, 0, none⟩ = some (.int .i64 (n : Int)) ∧ w7.cell? ⟨r, 1, none⟩ = some (.int .u64 M) ∧ w7.cell? ⟨p, 5, none⟩ = some (.int .i64 s.ma.n) ∧ w7.cell? ⟨p, 6, none⟩ = some (.slice A2 m' cb) ∧ w7.cell? ⟨p, 7, none⟩ = some (.bool false)) := ⟨cell_later hb7 HS6.out.1, cell_later hb7 HS6.out.2.1, cell_later hb7 HS6.out.2.2.1, cell_later hb7 HS6.out.2.2.2.1, cell_later hb7 HS6.out.2.2.2.2⟩
                      clear hb7 HIQ HL6 HVV6 HS6
                      go_simp
                      refine hK.out _ _ HS7.out (fun hHeld => ?_)
                      clear hK K
                      try simp only [Act.put, List.setIfInBounds_toArray, List.set_cons_zero, List.set_cons_succ, List.getElem_toArray, List.getElem_cons_zero, List.getElem_cons_succ]
                      refine wpAnyH_take (i := 16) (oi := _) (v := ?_) rfl (by kernel_rfl) (by kernel_rfl) (by kernel_rfl) (fun _ _ _ h => h) (Or.inl ⟨by rfl, ?_⟩) (by assumption) ?_
                      rotate_left
                      · intro w hSw
                        try dsimp only at hSw
                        obtain ⟨t0, t1, p5, p6, p7⟩ := hSw
                        go_simp
                        all_goals with_reducible rfl
                      try simp only [Act.put, List.setIfInBounds_toArray, List.set_cons_zero, List.set_cons_succ, List.getElem_toArray, List.getElem_cons_zero, List.getElem_cons_succ]
                      refine wpAnyH_take (i := 17) (oi := _) (v := ?_) rfl (by kernel_rfl) (by kernel_rfl) (by kernel_rfl) (fun _ _ _ h => h) (Or.inl ⟨by rfl, ?_⟩) (by assumption) ?_
                      rotate_left
                      · intro w hSw
                        try dsimp only at hSw
                        obtain ⟨t0, t1, p5, p6, p7⟩ := hSw
                        go_simp
                        all_goals with_reducible rfl
                      try simp only [Act.put, List.setIfInBounds_toArray, List.set_cons_zero, List.set_cons_succ, List.getElem_toArray, List.getElem_cons_zero, List.getElem_cons_succ]
                      refine wpAnyH_ready (rs := [4, 18]) (by kernel_rfl) (by simp) ?_
                      refine AllReadyH.cons (o := _) rfl (fun K hK => ?_) (AllReadyH.cons (o := _) rfl (fun K hK => ?_) AllReadyH.nil)
                      · have c4 := HL7.out.st.c4
                        go_simp
                        refine hK.out _ _ HS7.out (fun hHeld => ?_)
                        clear hK K
                        try simp only [Act.put, List.setIfInBounds_toArray, List.set_cons_zero, List.set_cons_succ, List.getElem_toArray, List.getElem_cons_zero, List.getElem_cons_succ]
                        clear c4
                        refine wpAnyH_ready (rs := [18]) (by kernel_rfl) (by simp) ?_
                        refine AllReadyH.cons (o := _) rfl (fun K hK => ?_) AllReadyH.nil
                        go_simp
                        obtain ⟨wA, hwA⟩ : ∃ wA, wA = w7.alloc (.cells #[.int .i64 (i : Int), .int .i64 (k : Int), .int .u64 (at_ : Int), .int .i64 (n : Int), .int .u64 M, .bool cu] 134) := ⟨_, rfl⟩
                        rw [← hwA]
                        have hbA : Below w7.heap.size w7 wA := by rw [hwA]; exact balloc (Below.refl _ _) _
                        have HLA := Lib.hid (HL7.out.later hbA)
                        have HVVA := Lib.hid (HVV7.out.below hbA)
                        have HSA : Hid (wA.cell? ⟨r, 0, none⟩ = some (.int .i64 (n : Int)) ∧ wA.cell? ⟨r, 1, none⟩ = some (.int .u64 M) ∧ wA.cell? ⟨p, 5, none⟩ = some (.int .i64 s.ma.n) ∧ wA.cell? ⟨p, 6, none⟩ = some (.slice A2 m' cb) ∧ wA.cell? ⟨p, 7, none⟩ = some (.bool false)) := ⟨cell_later hbA HS7.out.1, cell_later hbA HS7.out.2.1, cell_later hbA HS7.out.2.2.1, cell_later hbA HS7.out.2.2.2.1, cell_later hbA HS7.out.2.2.2.2⟩
                        have HCA : Hid (∀ j u, (Obj.mk i k at_ n M cu).cs[j]? = some u → wA.cell? ⟨w7.heap.size, j, none⟩ = some u) := by rw [hwA]; exact obj_cells w7 ⟨i, k, at_, n, M, cu⟩
                        clear hbA hwA HL7 HS7 HVV7
                        refine hK.out _ _ HSA.out (fun hHeld => ?_)
                        clear hK K
                        try simp only [Act.put, List.setIfInBounds_toArray, List.set_cons_zero, List.set_cons_succ, List.getElem_toArray, List.getElem_cons_zero, List.getElem_cons_succ]
                        refine wpAnyH_ready (rs := [19]) (by kernel_rfl) (by simp) ?_
                        refine AllReadyH.cons (o := _) rfl (fun K hK => ?_) AllReadyH.nil
                        refine step_appO1 (by rfl) (.tmp 79) (.tmp 93) (by rfl) (b + 1) (.slice A OS.length c) OS ⟨i, k, at_, n, M, cu⟩ w7.heap.size (by rfl) (by rfl) HLA.out.ow HCA.out HFK.out (by have := HLA.out.lt; omega) ?_
                        intro g cap w8 ho hg hat
                        have hnr : some r ≠ (Value.slice A OS.length c).ownBlock := fun e => HR4.out r e.symm rfl
                        have hnp : some p ≠ (Value.slice A OS.length c).ownBlock := fun e => HGP.out p e.symm rfl
                        have hnb : some b ≠ (Value.slice A OS.length c).ownBlock := fun e => by have := (World.ownsRow.lt HLA.out.ow b e.symm).1; omega
                        have HS8 : Hid (w8.cell? ⟨r, 0, none⟩ = some (.int .i64 (n : Int)) ∧ w8.cell? ⟨r, 1, none⟩ = some (.int .u64 M) ∧ w8.cell? ⟨p, 5, none⟩ = some (.int .i64 s.ma.n) ∧ w8.cell? ⟨p, 6, none⟩ = some (.slice A2 m' cb) ∧ w8.cell? ⟨p, 7, none⟩ = some (.bool false)) := ⟨hg.cell HSA.out.1 hnr, hg.cell HSA.out.2.1 hnr, hg.cell HSA.out.2.2.1 hnp, hg.cell HSA.out.2.2.2.1 hnp, hg.cell HSA.out.2.2.2.2 hnp⟩
                        have c48 := hg.cell HLA.out.st.c4 hnb
                        have z48 := (gfrozen hg (a := ⟨b, 4, none⟩) HLA.out.lt hnb).trans (HLA.out.fr 4)
                        have m48 := World.block_lt_of_cell? _ _ c48
                        have HV8 := Lib.hid (HVVA.out.grown hg hnp)
                        have HP8 : Hid (g ≠ p) := by
                          rcases hat with e | e
                          · exact HGP.out g e
                          · have := HVVA.out.lt
                            rw [e]
                            exact fun e2 => by omega
                        have HX8 := Lib.hid (HLA.out.app hg ho HB0.out)
                        clear ho hg hat hnr hnp hnb HLA HVVA HSA HCA
                        refine hK.out _ _ HS8.out (fun hHeld => ?_)
                        clear hK K
                        try simp only [Act.put, List.setIfInBounds_toArray, List.set_cons_zero, List.set_cons_succ, List.getElem_toArray, List.getElem_cons_zero, List.getElem_cons_succ]
                        refine wpAnyH_take (i := 20) (oi := _) (v := ?_) rfl (by kernel_rfl) (by kernel_rfl) (by kernel_rfl) (fun _ _ _ h => h) (Or.inl ⟨by rfl, ?_⟩) (by assumption) ?_
                        rotate_left
                        · intro w hSw
                          try dsimp only at hSw
                          obtain ⟨t0, t1, p5, p6, p7⟩ := hSw
                          go_simp
                          all_goals with_reducible rfl
                        try simp only [Act.put, List.setIfInBounds_toArray, List.set_cons_zero, List.set_cons_succ, List.getElem_toArray, List.getElem_cons_zero, List.getElem_cons_succ]
                        refine wpAnyH_take (i := 21) (oi := _) (v := ?_) rfl (by kernel_rfl) (by kernel_rfl) (by kernel_rfl) (fun _ _ _ h => h) (Or.inl ⟨by rfl, ?_⟩) (by assumption) ?_
                        rotate_left
                        · intro w hSw
                          try dsimp only at hSw
                          obtain ⟨t0, t1, p5, p6, p7⟩ := hSw
                          go_simp
                          all_goals with_reducible rfl
                        try simp only [Act.put, List.setIfInBounds_toArray, List.set_cons_zero, List.set_cons_succ, List.getElem_toArray, List.getElem_cons_zero, List.getElem_cons_succ]
                        refine wpAnyH_ready (rs := [22]) (by kernel_rfl) (by simp) ?_
                        refine AllReadyH.cons (o := _) rfl (fun K hK => ?_) AllReadyH.nil
                        go_simp
                        have hrb : r ≠ b := by have := HRB.out; omega
                        have hpb : p ≠ b := by have := HBP.out; omega
                        refine hK.out _ _ ⟨(World.cell?_setCell_far _ _ _ _ (by simp; omega)).trans HS8.out.1, (World.cell?_setCell_far _ _ _ _ (by simp; omega)).trans HS8.out.2.1, (World.cell?_setCell_far _ _ _ _ (by simp; omega)).trans HS8.out.2.2.1, (World.cell?_setCell_far _ _ _ _ (by simp; omega)).trans HS8.out.2.2.2.1, (World.cell?_setCell_far _ _ _ _ (by simp; omega)).trans HS8.out.2.2.2.2⟩ (fun hHeld => ?_)
                        clear hK K
                        try simp only [Act.put, List.setIfInBounds_toArray, List.set_cons_zero, List.set_cons_succ, List.getElem_toArray, List.getElem_cons_zero, List.getElem_cons_succ]
                        refine wpAnyH_done (by kernel_rfl) ?_ _
                        clear c48 z48 m48 hrb hpb
                        have hK8 := HKN.out.2.1
                        go_wp2
                        go_roundw
                        case rel =>
                          have hpb : p ≠ b := by have := HBP.out; omega
                          have EOS : (candTo h.sp i ++ slotsTo i s (k + 1)).map (Cand.obj h.ar) = OS ++ [⟨i, k, at_, n, M, cu⟩] := by rw [HST.out, ← objs_next HSS.out, HNM.out, HOS.out]
                          refine ⟨k + 1, some ⟨g, 0, none⟩, cap, by omega, by go_num, ?_, ?_, ?_, ?_⟩
                          · show LkX _ _ _ _ _ _ _ _
                            rw [EOS]
                            exact HX8.out
                          · show _ = _
                            rw [HST.out, ← List.append_assoc, List.all_append, HGQ.out]
                            simpa using HGD.out
                          · exact HV8.out.set_ne (p := ⟨b, 4, none⟩) (fun e => hpb e.symm) _
                          · intro G hG
                            cases hG
                            exact HP8.out
                        case measure => simp [intOf]; omega
                      · go_simp
                        obtain ⟨wA, hwA⟩ : ∃ wA, wA = w7.alloc (.cells #[.int .i64 (i : Int), .int .i64 (k : Int), .int .u64 (at_ : Int), .int .i64 (n : Int), .int .u64 M, .bool cu] 134) := ⟨_, rfl⟩
                        rw [← hwA]
                        have hbA : Below w7.heap.size w7 wA := by rw [hwA]; exact balloc (Below.refl _ _) _
                        have HLA := Lib.hid (HL7.out.later hbA)
                        have HVVA := Lib.hid (HVV7.out.below hbA)
                        have HSA : Hid (wA.cell? ⟨r, 0, none⟩ = some (.int .i64 (n : Int)) ∧ wA.cell? ⟨r, 1, none⟩ = some (.int .u64 M) ∧ wA.cell? ⟨p, 5, none⟩ = some (.int .i64 s.ma.n) ∧ wA.cell? ⟨p, 6, none⟩ = some (.slice A2 m' cb) ∧ wA.cell? ⟨p, 7, none⟩ = some (.bool false)) := ⟨cell_later hbA HS7.out.1, cell_later hbA HS7.out.2.1, cell_later hbA HS7.out.2.2.1, cell_later hbA HS7.out.2.2.2.1, cell_later hbA HS7.out.2.2.2.2⟩
                        have HCA : Hid (∀ j u, (Obj.mk i k at_ n M cu).cs[j]? = some u → wA.cell? ⟨w7.heap.size, j, none⟩ = some u) := by rw [hwA]; exact obj_cells w7 ⟨i, k, at_, n, M, cu⟩
                        clear hbA hwA HL7 HS7 HVV7
                        refine hK.out _ _ HSA.out (fun hHeld => ?_)
                        clear hK K
                        try simp only [Act.put, List.setIfInBounds_toArray, List.set_cons_zero, List.set_cons_succ, List.getElem_toArray, List.getElem_cons_zero, List.getElem_cons_succ]
                        refine wpAnyH_ready (rs := [4]) (by kernel_rfl) (by simp) ?_
                        refine AllReadyH.cons (o := _) rfl (fun K hK => ?_) AllReadyH.nil
                        have c4 := HLA.out.st.c4
                        go_simp
                        refine hK.out _ _ HSA.out (fun hHeld => ?_)
                        clear hK K
                        try simp only [Act.put, List.setIfInBounds_toArray, List.set_cons_zero, List.set_cons_succ, List.getElem_toArray, List.getElem_cons_zero, List.getElem_cons_succ]
                        clear c4
                        refine wpAnyH_ready (rs := [19]) (by kernel_rfl) (by simp) ?_
                        refine AllReadyH.cons (o := _) rfl (fun K hK => ?_) AllReadyH.nil
                        refine step_appO1 (by rfl) (.tmp 79) (.tmp 93) (by rfl) (b + 1) (.slice A OS.length c) OS ⟨i, k, at_, n, M, cu⟩ w7.heap.size (by rfl) (by rfl) HLA.out.ow HCA.out HFK.out (by have := HLA.out.lt; omega) ?_
                        intro g cap w8 ho hg hat
                        have hnr : some r ≠ (Value.slice A OS.length c).ownBlock := fun e => HR4.out r e.symm rfl
                        have hnp : some p ≠ (Value.slice A OS.length c).ownBlock := fun e => HGP.out p e.symm rfl
                        have hnb : some b ≠ (Value.slice A OS.length c).ownBlock := fun e => by have := (World.ownsRow.lt HLA.out.ow b e.symm).1; omega
                        have HS8 : Hid (w8.cell? ⟨r, 0, none⟩ = some (.int .i64 (n : Int)) ∧ w8.cell? ⟨r, 1, none⟩ = some (.int .u64 M) ∧ w8.cell? ⟨p, 5, none⟩ = some (.int .i64 s.ma.n) ∧ w8.cell? ⟨p, 6, none⟩ = some (.slice A2 m' cb) ∧ w8.cell? ⟨p, 7, none⟩ = some (.bool false)) := ⟨hg.cell HSA.out.1 hnr, hg.cell HSA.out.2.1 hnr, hg.cell HSA.out.2.2.1 hnp, hg.cell HSA.out.2.2.2.1 hnp, hg.cell HSA.out.2.2.2.2 hnp⟩
                        have c48 := hg.cell HLA.out.st.c4 hnb
                        have z48 := (gfrozen hg (a := ⟨b, 4, none⟩) HLA.out.lt hnb).trans (HLA.out.fr 4)
                        have m48 := World.block_lt_of_cell? _ _ c48
                        have HV8 := Lib.hid (HVVA.out.grown hg hnp)
                        have HP8 : Hid (g ≠ p) := by
                          rcases hat with e | e
                          · exact HGP.out g e
                          · have := HVVA.out.lt
                            rw [e]
                            exact fun e2 => by omega
                        have HX8 := Lib.hid (HLA.out.app hg ho HB0.out)
                        clear ho hg hat hnr hnp hnb HLA HVVA HSA HCA
                        refine hK.out _ _ HS8.out (fun hHeld => ?_)
                        clear hK K
                        try simp only [Act.put, List.setIfInBounds_toArray, List.set_cons_zero, List.set_cons_succ, List.getElem_toArray, List.getElem_cons_zero, List.getElem_cons_succ]
                        refine wpAnyH_take (i := 20) (oi := _) (v := ?_) rfl (by kernel_rfl) (by kernel_rfl) (by kernel_rfl) (fun _ _ _ h => h) (Or.inl ⟨by rfl, ?_⟩) (by assumption) ?_
                        rotate_left
                        · intro w hSw
                          try dsimp only at hSw
                          obtain ⟨t0, t1, p5, p6, p7⟩ := hSw
                          go_simp
                          all_goals with_reducible rfl
                        try simp only [Act.put, List.setIfInBounds_toArray, List.set_cons_zero, List.set_cons_succ, List.getElem_toArray, List.getElem_cons_zero, List.getElem_cons_succ]
                        refine wpAnyH_take (i := 21) (oi := _) (v := ?_) rfl (by kernel_rfl) (by kernel_rfl) (by kernel_rfl) (fun _ _ _ h => h) (Or.inl ⟨by rfl, ?_⟩) (by assumption) ?_
                        rotate_left
                        · intro w hSw
                          try dsimp only at hSw
                          obtain ⟨t0, t1, p5, p6, p7⟩ := hSw
                          go_simp
                          all_goals with_reducible rfl
                        try simp only [Act.put, List.setIfInBounds_toArray, List.set_cons_zero, List.set_cons_succ, List.getElem_toArray, List.getElem_cons_zero, List.getElem_cons_succ]
                        refine wpAnyH_ready (rs := [22]) (by kernel_rfl) (by simp) ?_
                        refine AllReadyH.cons (o := _) rfl (fun K hK => ?_) AllReadyH.nil
                        go_simp
                        have hrb : r ≠ b := by have := HRB.out; omega
                        have hpb : p ≠ b := by have := HBP.out; omega
                        refine hK.out _ _ ⟨(World.cell?_setCell_far _ _ _ _ (by simp; omega)).trans HS8.out.1, (World.cell?_setCell_far _ _ _ _ (by simp; omega)).trans HS8.out.2.1, (World.cell?_setCell_far _ _ _ _ (by simp; omega)).trans HS8.out.2.2.1, (World.cell?_setCell_far _ _ _ _ (by simp; omega)).trans HS8.out.2.2.2.1, (World.cell?_setCell_far _ _ _ _ (by simp; omega)).trans HS8.out.2.2.2.2⟩ (fun hHeld => ?_)
                        clear hK K
                        try simp only [Act.put, List.setIfInBounds_toArray, List.set_cons_zero, List.set_cons_succ, List.getElem_toArray, List.getElem_cons_zero, List.getElem_cons_succ]
                        refine wpAnyH_done (by kernel_rfl) ?_ _
                        clear c48 z48 m48 hrb hpb
                        have hK8 := HKN.out.2.1
                        go_wp2
                        go_roundw
                        case rel =>
                          have hpb : p ≠ b := by have := HBP.out; omega
                          have EOS : (candTo h.sp i ++ slotsTo i s (k + 1)).map (Cand.obj h.ar) = OS ++ [⟨i, k, at_, n, M, cu⟩] := by rw [HST.out, ← objs_next HSS.out, HNM.out, HOS.out]
                          refine ⟨k + 1, some ⟨g, 0, none⟩, cap, by omega, by go_num, ?_, ?_, ?_, ?_⟩
                          · show LkX _ _ _ _ _ _ _ _
                            rw [EOS]
                            exact HX8.out
                          · show _ = _
                            rw [HST.out, ← List.append_assoc, List.all_append, HGQ.out]
                            simpa using HGD.out
                          · exact HV8.out.set_ne (p := ⟨b, 4, none⟩) (fun e => hpb e.symm) _
                          · intro G hG
                            cases hG
                            exact HP8.out
                        case measure => simp [intOf]; omega
                  · rw [Bool.not_eq_false] at hsw
                    rw [hsw] at v7 HNM
                    rw [Bool.true_or] at HNM
                    have HV7 := Lib.hid v7
                    have HV5 := Lib.hid v5
                    have HV6 := Lib.hid v6
                    clear v5 v6 v7 hsw
                    have HS4 : Hid (w4.drew.cell? ⟨r, 0, none⟩ = some (.int .i64 (n : Int)) ∧ w4.drew.cell? ⟨r, 1, none⟩ = some (.int .u64 M) ∧ w4.drew.cell? ⟨p, 5, none⟩ = some (.int .i64 s.ma.n) ∧ w4.drew.cell? ⟨p, 6, none⟩ = some (.slice A2 m' cb) ∧ w4.drew.cell? ⟨p, 7, none⟩ = some (.bool true)) := ⟨cell_later (Below.refl _ _).drew T04.out, cell_later (Below.refl _ _).drew T14.out, cell_later (Below.refl _ _).drew HV5.out, cell_later (Below.refl _ _).drew HV6.out, cell_later (Below.refl _ _).drew HV7.out⟩
                    refine wp_region_held_drew (S := fun W => W.cell? ⟨r, 0, none⟩ = some (.int .i64 (n : Int)) ∧ W.cell? ⟨r, 1, none⟩ = some (.int .u64 M) ∧ W.cell? ⟨p, 5, none⟩ = some (.int .i64 s.ma.n) ∧ W.cell? ⟨p, 6, none⟩ = some (.slice A2 m' cb) ∧ W.cell? ⟨p, 7, none⟩ = some (.bool true)) (by kernel_rfl) HS4.out (fun hHeld => ?_)
                    have HL6 := Lib.hid (HL4.out.later (Below.refl _ _).drew)
                    have HVV6 := Lib.hid (HV4.out.below (Below.refl _ _).drew)
                    have HS6 := HS4
                    clear HS4 HL4 HV4 T04 T14 HV5 HV6 HV7
                    generalize w4.drew = w6 at *
                    refine wpAnyH_take (i := 0) (oi := _) (v := ?_) rfl (by kernel_rfl) (by kernel_rfl) (by kernel_rfl) (fun _ _ _ h => h) (Or.inl ⟨by rfl, ?_⟩) (by assumption) ?_
                    rotate_left
                    · intro w hSw
                      try dsimp only at hSw
                      obtain ⟨t0, t1, p5, p6, p7⟩ := hSw
                      go_simp
                      all_goals with_reducible rfl
                    try simp only [Act.put, List.setIfInBounds_toArray, List.set_cons_zero, List.set_cons_succ, List.getElem_toArray, List.getElem_cons_zero, List.getElem_cons_succ]
                    refine wpAnyH_take (i := 1) (oi := _) (v := ?_) rfl (by kernel_rfl) (by kernel_rfl) (by kernel_rfl) (fun _ _ _ h => h) (Or.inl ⟨by rfl, ?_⟩) (by assumption) ?_
                    rotate_left
                    · intro w hSw
                      try dsimp only at hSw
                      obtain ⟨t0, t1, p5, p6, p7⟩ := hSw
                      go_simp
                      all_goals with_reducible rfl
                    try simp only [Act.put, List.setIfInBounds_toArray, List.set_cons_zero, List.set_cons_succ, List.getElem_toArray, List.getElem_cons_zero, List.getElem_cons_succ]
                    refine wpAnyH_take (i := 2) (oi := _) (v := ?_) rfl (by kernel_rfl) (by kernel_rfl) (by kernel_rfl) (fun _ _ _ h => h) (Or.inl ⟨by rfl, ?_⟩) (by assumption) ?_
                    rotate_left
                    · intro w hSw
                      try dsimp only at hSw
                      obtain ⟨t0, t1, p5, p6, p7⟩ := hSw
                      go_simp
                      all_goals with_reducible rfl
                    try simp only [Act.put, List.setIfInBounds_toArray, List.set_cons_zero, List.set_cons_succ, List.getElem_toArray, List.getElem_cons_zero, List.getElem_cons_succ]
                    refine wpAnyH_take (i := 3) (oi := _) (v := ?_) rfl (by kernel_rfl) (by kernel_rfl) (by kernel_rfl) (fun _ _ _ h => h) (Or.inl ⟨by rfl, ?_⟩) (by assumption) ?_
                    rotate_left
                    · intro w hSw
                      try dsimp only at hSw
                      obtain ⟨t0, t1, p5, p6, p7⟩ := hSw
                      go_simp
                      all_goals with_reducible rfl
                    try simp only [Act.put, List.setIfInBounds_toArray, List.set_cons_zero, List.set_cons_succ, List.getElem_toArray, List.getElem_cons_zero, List.getElem_cons_succ]
                    refine wpAnyH_take (i := 5) (oi := _) (v := ?_) rfl (by kernel_rfl) (by kernel_rfl) (by kernel_rfl) (fun _ _ _ h => h) (Or.inl ⟨by rfl, ?_⟩) (by assumption) ?_
                    rotate_left
                    · intro w hSw
                      try dsimp only at hSw
                      obtain ⟨t0, t1, p5, p6, p7⟩ := hSw
                      go_simp
                      all_goals with_reducible rfl
                    try simp only [Act.put, List.setIfInBounds_toArray, List.set_cons_zero, List.set_cons_succ, List.getElem_toArray, List.getElem_cons_zero, List.getElem_cons_succ]
                    refine wpAnyH_take (i := 6) (oi := _) (v := ?_) rfl (by kernel_rfl) (by kernel_rfl) (by kernel_rfl) (fun _ _ _ h => h) (Or.inl ⟨by rfl, ?_⟩) (by assumption) ?_
                    rotate_left
                    · intro w hSw
                      try dsimp only at hSw
                      obtain ⟨t0, t1, p5, p6, p7⟩ := hSw
                      go_simp
                      all_goals with_reducible rfl
                    try simp only [Act.put, List.setIfInBounds_toArray, List.set_cons_zero, List.set_cons_succ, List.getElem_toArray, List.getElem_cons_zero, List.getElem_cons_succ]
                    refine wpAnyH_take (i := 7) (oi := _) (v := ?_) rfl (by kernel_rfl) (by kernel_rfl) (by kernel_rfl) (fun _ _ _ h => h) (Or.inl ⟨by rfl, ?_⟩) (by assumption) ?_
                    rotate_left
                    · intro w hSw
                      try dsimp only at hSw
                      obtain ⟨t0, t1, p5, p6, p7⟩ := hSw
                      go_simp
                      all_goals with_reducible rfl
                    try simp only [Act.put, List.setIfInBounds_toArray, List.set_cons_zero, List.set_cons_succ, List.getElem_toArray, List.getElem_cons_zero, List.getElem_cons_succ]
                    refine wpAnyH_take (i := 8) (oi := _) (v := ?_) rfl (by kernel_rfl) (by kernel_rfl) (by kernel_rfl) (fun _ _ _ h => h) (Or.inl ⟨by rfl, ?_⟩) (by assumption) ?_
                    rotate_left
                    · intro w hSw
                      try dsimp only at hSw
                      obtain ⟨t0, t1, p5, p6, p7⟩ := hSw
                      go_simp
                      all_goals with_reducible rfl
                    try simp only [Act.put, List.setIfInBounds_toArray, List.set_cons_zero, List.set_cons_succ, List.getElem_toArray, List.getElem_cons_zero, List.getElem_cons_succ]
                    refine wpAnyH_take (i := 9) (oi := _) (v := ?_) rfl (by kernel_rfl) (by kernel_rfl) (by kernel_rfl) (fun _ _ _ h => h) (Or.inl ⟨by rfl, ?_⟩) (by assumption) ?_
                    rotate_left
                    · intro w hSw
                      try dsimp only at hSw
                      obtain ⟨t0, t1, p5, p6, p7⟩ := hSw
                      go_simp
                      all_goals with_reducible rfl
                    try simp only [Act.put, List.setIfInBounds_toArray, List.set_cons_zero, List.set_cons_succ, List.getElem_toArray, List.getElem_cons_zero, List.getElem_cons_succ]
                    refine wpAnyH_take (i := 10) (oi := _) (v := ?_) rfl (by kernel_rfl) (by kernel_rfl) (by kernel_rfl) (fun _ _ _ h => h) (Or.inl ⟨by rfl, ?_⟩) (by assumption) ?_
                    rotate_left
                    · intro w hSw
                      try dsimp only at hSw
                      obtain ⟨t0, t1, p5, p6, p7⟩ := hSw
                      go_simp
                      all_goals with_reducible rfl
                    try simp only [Act.put, List.setIfInBounds_toArray, List.set_cons_zero, List.set_cons_succ, List.getElem_toArray, List.getElem_cons_zero, List.getElem_cons_succ]
                    refine wpAnyH_take (i := 11) (oi := _) (v := ?_) rfl (by kernel_rfl) (by kernel_rfl) (by kernel_rfl) (fun _ _ _ h => h) (Or.inl ⟨by rfl, ?_⟩) (by assumption) ?_
                    rotate_left
                    · intro w hSw
                      try dsimp only at hSw
                      obtain ⟨t0, t1, p5, p6, p7⟩ := hSw
                      go_simp
                      all_goals with_reducible rfl
                    try simp only [Act.put, List.setIfInBounds_toArray, List.set_cons_zero, List.set_cons_succ, List.getElem_toArray, List.getElem_cons_zero, List.getElem_cons_succ]
                    refine wpAnyH_take (i := 12) (oi := _) (v := undef) rfl (by kernel_rfl) (by kernel_rfl) (by kernel_rfl) (fun _ _ _ h => h) (Or.inr ⟨by rfl, rfl⟩) (by assumption) ?_
                    try simp only [Act.put, List.setIfInBounds_toArray, List.set_cons_zero, List.set_cons_succ, List.getElem_toArray, List.getElem_cons_zero, List.getElem_cons_succ]
                    refine wpAnyH_take (i := 13) (oi := _) (v := undef) rfl (by kernel_rfl) (by kernel_rfl) (by kernel_rfl) (fun _ _ _ h => h) (Or.inr ⟨by rfl, rfl⟩) (by assumption) ?_
                    try simp only [Act.put, List.setIfInBounds_toArray, List.set_cons_zero, List.set_cons_succ, List.getElem_toArray, List.getElem_cons_zero, List.getElem_cons_succ]
                    refine wpAnyH_take (i := 14) (oi := _) (v := undef) rfl (by kernel_rfl) (by kernel_rfl) (by kernel_rfl) (fun _ _ _ h => h) (Or.inr ⟨by rfl, rfl⟩) (by assumption) ?_
                    try simp only [Act.put, List.setIfInBounds_toArray, List.set_cons_zero, List.set_cons_succ, List.getElem_toArray, List.getElem_cons_zero, List.getElem_cons_succ]
                    refine wpAnyH_take (i := 15) (oi := _) (v := undef) rfl (by kernel_rfl) (by kernel_rfl) (by kernel_rfl) (fun _ _ _ h => h) (Or.inr ⟨by rfl, rfl⟩) (by assumption) ?_
                    try simp only [Act.put, List.setIfInBounds_toArray, List.set_cons_zero, List.set_cons_succ, List.getElem_toArray, List.getElem_cons_zero, List.getElem_cons_succ]
                    refine wpAnyH_take (i := 16) (oi := _) (v := ?_) rfl (by kernel_rfl) (by kernel_rfl) (by kernel_rfl) (fun _ _ _ h => h) (Or.inl ⟨by rfl, ?_⟩) (by assumption) ?_
                    rotate_left
                    · intro w hSw
                      try dsimp only at hSw
                      obtain ⟨t0, t1, p5, p6, p7⟩ := hSw
                      go_simp
                      all_goals with_reducible rfl
                    try simp only [Act.put, List.setIfInBounds_toArray, List.set_cons_zero, List.set_cons_succ, List.getElem_toArray, List.getElem_cons_zero, List.getElem_cons_succ]
                    refine wpAnyH_take (i := 17) (oi := _) (v := ?_) rfl (by kernel_rfl) (by kernel_rfl) (by kernel_rfl) (fun _ _ _ h => h) (Or.inl ⟨by rfl, ?_⟩) (by assumption) ?_
                    rotate_left
                    · intro w hSw
                      try dsimp only at hSw
                      obtain ⟨t0, t1, p5, p6, p7⟩ := hSw
                      go_simp
                      all_goals with_reducible rfl
                    try simp only [Act.put, List.setIfInBounds_toArray, List.set_cons_zero, List.set_cons_succ, List.getElem_toArray, List.getElem_cons_zero, List.getElem_cons_succ]
                    refine wpAnyH_ready (rs := [4, 18]) (by kernel_rfl) (by simp) ?_
                    refine AllReadyH.cons (o := _) rfl (fun K hK => ?_) (AllReadyH.cons (o := _) rfl (fun K hK => ?_) AllReadyH.nil)
                    · have c4 := HL6.out.st.c4
                      go_simp
                      refine hK.out _ _ HS6.out (fun hHeld => ?_)
                      clear hK K
                      try simp only [Act.put, List.setIfInBounds_toArray, List.set_cons_zero, List.set_cons_succ, List.getElem_toArray, List.getElem_cons_zero, List.getElem_cons_succ]
                      clear c4
                      refine wpAnyH_ready (rs := [18]) (by kernel_rfl) (by simp) ?_
                      refine AllReadyH.cons (o := _) rfl (fun K hK => ?_) AllReadyH.nil
                      go_simp
                      obtain ⟨wA, hwA⟩ : ∃ wA, wA = w6.alloc (.cells #[.int .i64 (i : Int), .int .i64 (k : Int), .int .u64 (at_ : Int), .int .i64 (n : Int), .int .u64 M, .bool true] 134) := ⟨_, rfl⟩
                      rw [← hwA]
                      have hbA : Below w6.heap.size w6 wA := by rw [hwA]; exact balloc (Below.refl _ _) _
                      have HLA := Lib.hid (HL6.out.later hbA)
                      have HVVA := Lib.hid (HVV6.out.below hbA)
                      have HSA : Hid (wA.cell? ⟨r, 0, none⟩ = some (.int .i64 (n : Int)) ∧ wA.cell? ⟨r, 1, none⟩ = some (.int .u64 M) ∧ wA.cell? ⟨p, 5, none⟩ = some (.int .i64 s.ma.n) ∧ wA.cell? ⟨p, 6, none⟩ = some (.slice A2 m' cb) ∧ wA.cell? ⟨p, 7, none⟩ = some (.bool true)) := ⟨cell_later hbA HS6.out.1, cell_later hbA HS6.out.2.1, cell_later hbA HS6.out.2.2.1, cell_later hbA HS6.out.2.2.2.1, cell_later hbA HS6.out.2.2.2.2⟩
                      have HCA : Hid (∀ j u, (Obj.mk i k at_ n M true).cs[j]? = some u → wA.cell? ⟨w6.heap.size, j, none⟩ = some u) := by rw [hwA]; exact obj_cells w6 ⟨i, k, at_, n, M, true⟩
                      clear hbA hwA HL6 HS6 HVV6
                      refine hK.out _ _ HSA.out (fun hHeld => ?_)
                      clear hK K
                      try simp only [Act.put, List.setIfInBounds_toArray, List.set_cons_zero, List.set_cons_succ, List.getElem_toArray, List.getElem_cons_zero, List.getElem_cons_succ]
                      refine wpAnyH_ready (rs := [19]) (by kernel_rfl) (by simp) ?_
                      refine AllReadyH.cons (o := _) rfl (fun K hK => ?_) AllReadyH.nil
                      refine step_appO1 (by rfl) (.tmp 79) (.tmp 93) (by rfl) (b + 1) (.slice A OS.length c) OS ⟨i, k, at_, n, M, true⟩ w6.heap.size (by rfl) (by rfl) HLA.out.ow HCA.out HFK.out (by have := HLA.out.lt; omega) ?_
                      intro g cap w8 ho hg hat
                      have hnr : some r ≠ (Value.slice A OS.length c).ownBlock := fun e => HR4.out r e.symm rfl
                      have hnp : some p ≠ (Value.slice A OS.length c).ownBlock := fun e => HGP.out p e.symm rfl
                      have hnb : some b ≠ (Value.slice A OS.length c).ownBlock := fun e => by have := (World.ownsRow.lt HLA.out.ow b e.symm).1; omega
                      have HS8 : Hid (w8.cell? ⟨r, 0, none⟩ = some (.int .i64 (n : Int)) ∧ w8.cell? ⟨r, 1, none⟩ = some (.int .u64 M) ∧ w8.cell? ⟨p, 5, none⟩ = some (.int .i64 s.ma.n) ∧ w8.cell? ⟨p, 6, none⟩ = some (.slice A2 m' cb) ∧ w8.cell? ⟨p, 7, none⟩ = some (.bool true)) := ⟨hg.cell HSA.out.1 hnr, hg.cell HSA.out.2.1 hnr, hg.cell HSA.out.2.2.1 hnp, hg.cell HSA.out.2.2.2.1 hnp, hg.cell HSA.out.2.2.2.2 hnp⟩
                      have c48 := hg.cell HLA.out.st.c4 hnb
                      have z48 := (gfrozen hg (a := ⟨b, 4, none⟩) HLA.out.lt hnb).trans (HLA.out.fr 4)
                      have m48 := World.block_lt_of_cell? _ _ c48
                      have HV8 := Lib.hid (HVVA.out.grown hg hnp)
                      have HP8 : Hid (g ≠ p) := by
                        rcases hat with e | e
                        · exact HGP.out g e
                        · have := HVVA.out.lt
                          rw [e]
                          exact fun e2 => by omega
                      have HX8 := Lib.hid (HLA.out.app hg ho HB0.out)
                      clear ho hg hat hnr hnp hnb HLA HVVA HSA HCA
                      refine hK.out _ _ HS8.out (fun hHeld => ?_)
                      clear hK K
                      try simp only [Act.put, List.setIfInBounds_toArray, List.set_cons_zero, List.set_cons_succ, List.getElem_toArray, List.getElem_cons_zero, List.getElem_cons_succ]
                      refine wpAnyH_take (i := 20) (oi := _) (v := ?_) rfl (by kernel_rfl) (by kernel_rfl) (by kernel_rfl) (fun _ _ _ h => h) (Or.inl ⟨by rfl, ?_⟩) (by assumption) ?_
                      rotate_left
                      · intro w hSw
                        try dsimp only at hSw
                        obtain ⟨t0, t1, p5, p6, p7⟩ := hSw
                        go_simp
                        all_goals with_reducible rfl
                      try simp only [Act.put, List.setIfInBounds_toArray, List.set_cons_zero, List.set_cons_succ, List.getElem_toArray, List.getElem_cons_zero, List.getElem_cons_succ]
                      refine wpAnyH_take (i := 21) (oi := _) (v := ?_) rfl (by kernel_rfl) (by kernel_rfl) (by kernel_rfl) (fun _ _ _ h => h) (Or.inl ⟨by rfl, ?_⟩) (by assumption) ?_
                      rotate_left
                      · intro w hSw
                        try dsimp only at hSw
                        obtain ⟨t0, t1, p5, p6, p7⟩ := hSw
                        go_simp
                        all_goals with_reducible rfl
                      try simp only [Act.put, List.setIfInBounds_toArray, List.set_cons_zero, List.set_cons_succ, List.getElem_toArray, List.getElem_cons_zero, List.getElem_cons_succ]
                      refine wpAnyH_ready (rs := [22]) (by kernel_rfl) (by simp) ?_
                      refine AllReadyH.cons (o := _) rfl (fun K hK => ?_) AllReadyH.nil
                      go_simp
                      have hrb : r ≠ b := by have := HRB.out; omega
                      have hpb : p ≠ b := by have := HBP.out; omega
                      refine hK.out _ _ ⟨(World.cell?_setCell_far _ _ _ _ (by simp; omega)).trans HS8.out.1, (World.cell?_setCell_far _ _ _ _ (by simp; omega)).trans HS8.out.2.1, (World.cell?_setCell_far _ _ _ _ (by simp; omega)).trans HS8.out.2.2.1, (World.cell?_setCell_far _ _ _ _ (by simp; omega)).trans HS8.out.2.2.2.1, (World.cell?_setCell_far _ _ _ _ (by simp; omega)).trans HS8.out.2.2.2.2⟩ (fun hHeld => ?_)
                      clear hK K
                      try simp only [Act.put, List.setIfInBounds_toArray, List.set_cons_zero, List.set_cons_succ, List.getElem_toArray, List.getElem_cons_zero, List.getElem_cons_succ]
                      refine wpAnyH_done (by kernel_rfl) ?_ _
                      clear c48 z48 m48 hrb hpb
                      have hK8 := HKN.out.2.1
                      go_wp2
                      go_roundw
                      case rel =>
                        have hpb : p ≠ b := by have := HBP.out; omega
                        have EOS : (candTo h.sp i ++ slotsTo i s (k + 1)).map (Cand.obj h.ar) = OS ++ [⟨i, k, at_, n, M, true⟩] := by rw [HST.out, ← objs_next HSS.out, HNM.out, HOS.out]
                        refine ⟨k + 1, some ⟨g, 0, none⟩, cap, by omega, by go_num, ?_, ?_, ?_, ?_⟩
                        · show LkX _ _ _ _ _ _ _ _
                          rw [EOS]
                          exact HX8.out
                        · show _ = _
                          rw [HST.out, ← List.append_assoc, List.all_append, HGQ.out]
                          simpa using HGD.out
                        · exact HV8.out.set_ne (p := ⟨b, 4, none⟩) (fun e => hpb e.symm) _
                        · intro G hG
                          cases hG
                          exact HP8.out
                      case measure => simp [intOf]; omega
                    · go_simp
                      obtain ⟨wA, hwA⟩ : ∃ wA, wA = w6.alloc (.cells #[.int .i64 (i : Int), .int .i64 (k : Int), .int .u64 (at_ : Int), .int .i64 (n : Int), .int .u64 M, .bool true] 134) := ⟨_, rfl⟩
                      rw [← hwA]
                      have hbA : Below w6.heap.size w6 wA := by rw [hwA]; exact balloc (Below.refl _ _) _
                      have HLA := Lib.hid (HL6.out.later hbA)
                      have HVVA := Lib.hid (HVV6.out.below hbA)
                      have HSA : Hid (wA.cell? ⟨r, 0, none⟩ = some (.int .i64 (n : Int)) ∧ wA.cell? ⟨r, 1, none⟩ = some (.int .u64 M) ∧ wA.cell? ⟨p, 5, none⟩ = some (.int .i64 s.ma.n) ∧ wA.cell? ⟨p, 6, none⟩ = some (.slice A2 m' cb) ∧ wA.cell? ⟨p, 7, none⟩ = some (.bool true)) := ⟨cell_later hbA HS6.out.1, cell_later hbA HS6.out.2.1, cell_later hbA HS6.out.2.2.1, cell_later hbA HS6.out.2.2.2.1, cell_later hbA HS6.out.2.2.2.2⟩
                      have HCA : Hid (∀ j u, (Obj.mk i k at_ n M true).cs[j]? = some u → wA.cell? ⟨w6.heap.size, j, none⟩ = some u) := by rw [hwA]; exact obj_cells w6 ⟨i, k, at_, n, M, true⟩
                      clear hbA hwA HL6 HS6 HVV6
                      refine hK.out _ _ HSA.out (fun hHeld => ?_)
                      clear hK K
                      try simp only [Act.put, List.setIfInBounds_toArray, List.set_cons_zero, List.set_cons_succ, List.getElem_toArray, List.getElem_cons_zero, List.getElem_cons_succ]
                      refine wpAnyH_ready (rs := [4]) (by kernel_rfl) (by simp) ?_
                      refine AllReadyH.cons (o := _) rfl (fun K hK => ?_) AllReadyH.nil
                      have c4 := HLA.out.st.c4
                      go_simp
                      refine hK.out _ _ HSA.out (fun hHeld => ?_)
                      clear hK K
                      try simp only [Act.put, List.setIfInBounds_toArray, List.set_cons_zero, List.set_cons_succ, List.getElem_toArray, List.getElem_cons_zero, List.getElem_cons_succ]
                      clear c4
                      refine wpAnyH_ready (rs := [19]) (by kernel_rfl) (by simp) ?_
                      refine AllReadyH.cons (o := _) rfl (fun K hK => ?_) AllReadyH.nil
                      refine step_appO1 (by rfl) (.tmp 79) (.tmp 93) (by rfl) (b + 1) (.slice A OS.length c) OS ⟨i, k, at_, n, M, true⟩ w6.heap.size (by rfl) (by rfl) HLA.out.ow HCA.out HFK.out (by have := HLA.out.lt; omega) ?_
                      intro g cap w8 ho hg hat
                      have hnr : some r ≠ (Value.slice A OS.length c).ownBlock := fun e => HR4.out r e.symm rfl
                      have hnp : some p ≠ (Value.slice A OS.length c).ownBlock := fun e => HGP.out p e.symm rfl
                      have hnb : some b ≠ (Value.slice A OS.length c).ownBlock := fun e => by have := (World.ownsRow.lt HLA.out.ow b e.symm).1; omega
                      have HS8 : Hid (w8.cell? ⟨r, 0, none⟩ = some (.int .i64 (n : Int)) ∧ w8.cell? ⟨r, 1, none⟩ = some (.int .u64 M) ∧ w8.cell? ⟨p, 5, none⟩ = some (.int .i64 s.ma.n) ∧ w8.cell? ⟨p, 6, none⟩ = some (.slice A2 m' cb) ∧ w8.cell? ⟨p, 7, none⟩ = some (.bool true)) := ⟨hg.cell HSA.out.1 hnr, hg.cell HSA.out.2.1 hnr, hg.cell HSA.out.2.2.1 hnp, hg.cell HSA.out.2.2.2.1 hnp, hg.cell HSA.out.2.2.2.2 hnp⟩
                      have c48 := hg.cell HLA.out.st.c4 hnb
                      have z48 := (gfrozen hg (a := ⟨b, 4, none⟩) HLA.out.lt hnb).trans (HLA.out.fr 4)
                      have m48 := World.block_lt_of_cell? _ _ c48
                      have HV8 := Lib.hid (HVVA.out.grown hg hnp)
                      have HP8 : Hid (g ≠ p) := by
                        rcases hat with e | e
                        · exact HGP.out g e
                        · have := HVVA.out.lt
                          rw [e]
                          exact fun e2 => by omega
                      have HX8 := Lib.hid (HLA.out.app hg ho HB0.out)
                      clear ho hg hat hnr hnp hnb HLA HVVA HSA HCA
                      refine hK.out _ _ HS8.out (fun hHeld => ?_)
                      clear hK K
                      try simp only [Act.put, List.setIfInBounds_toArray, List.set_cons_zero, List.set_cons_succ, List.getElem_toArray, List.getElem_cons_zero, List.getElem_cons_succ]
                      refine wpAnyH_take (i := 20) (oi := _) (v := ?_) rfl (by kernel_rfl) (by kernel_rfl) (by kernel_rfl) (fun _ _ _ h => h) (Or.inl ⟨by rfl, ?_⟩) (by assumption) ?_
                      rotate_left
                      · intro w hSw
                        try dsimp only at hSw
                        obtain ⟨t0, t1, p5, p6, p7⟩ := hSw
                        go_simp
                        all_goals with_reducible rfl
                      try simp only [Act.put, List.setIfInBounds_toArray, List.set_cons_zero, List.set_cons_succ, List.getElem_toArray, List.getElem_cons_zero, List.getElem_cons_succ]
                      refine wpAnyH_take (i := 21) (oi := _) (v := ?_) rfl (by kernel_rfl) (by kernel_rfl) (by kernel_rfl) (fun _ _ _ h => h) (Or.inl ⟨by rfl, ?_⟩) (by assumption) ?_
                      rotate_left
                      · intro w hSw
                        try dsimp only at hSw
                        obtain ⟨t0, t1, p5, p6, p7⟩ := hSw
                        go_simp
                        all_goals with_reducible rfl
                      try simp only [Act.put, List.setIfInBounds_toArray, List.set_cons_zero, List.set_cons_succ, List.getElem_toArray, List.getElem_cons_zero, List.getElem_cons_succ]
                      refine wpAnyH_ready (rs := [22]) (by kernel_rfl) (by simp) ?_
                      refine AllReadyH.cons (o := _) rfl (fun K hK => ?_) AllReadyH.nil
                      go_simp
                      have hrb : r ≠ b := by have := HRB.out; omega
                      have hpb : p ≠ b := by have := HBP.out; omega
                      refine hK.out _ _ ⟨(World.cell?_setCell_far _ _ _ _ (by simp; omega)).trans HS8.out.1, (World.cell?_setCell_far _ _ _ _ (by simp; omega)).trans HS8.out.2.1, (World.cell?_setCell_far _ _ _ _ (by simp; omega)).trans HS8.out.2.2.1, (World.cell?_setCell_far _ _ _ _ (by simp; omega)).trans HS8.out.2.2.2.1, (World.cell?_setCell_far _ _ _ _ (by simp; omega)).trans HS8.out.2.2.2.2⟩ (fun hHeld => ?_)
                      clear hK K
                      try simp only [Act.put, List.setIfInBounds_toArray, List.set_cons_zero, List.set_cons_succ, List.getElem_toArray, List.getElem_cons_zero, List.getElem_cons_succ]
                      refine wpAnyH_done (by kernel_rfl) ?_ _
                      clear c48 z48 m48 hrb hpb
                      have hK8 := HKN.out.2.1
                      go_wp2
                      go_roundw
                      case rel =>
                        have hpb : p ≠ b := by have := HBP.out; omega
                        have EOS : (candTo h.sp i ++ slotsTo i s (k + 1)).map (Cand.obj h.ar) = OS ++ [⟨i, k, at_, n, M, true⟩] := by rw [HST.out, ← objs_next HSS.out, HNM.out, HOS.out]
                        refine ⟨k + 1, some ⟨g, 0, none⟩, cap, by omega, by go_num, ?_, ?_, ?_, ?_⟩
                        · show LkX _ _ _ _ _ _ _ _
                          rw [EOS]
                          exact HX8.out
                        · show _ = _
                          rw [HST.out, ← List.append_assoc, List.all_append, HGQ.out]
                          simpa using HGD.out
                        · exact HV8.out.set_ne (p := ⟨b, 4, none⟩) (fun e => hpb e.symm) _
                        · intro G hG
                          cases hG
                          exact HP8.out
                      case measure => simp [intOf]; omega
                · have d2 : (pageP n != s.pages) = true := by simpa using hz2
                  have E : Hid (lookP h = false) := look_no HMEM.out (by rw [HGD.out]; simp [hz2])
                  generalize sizeP n = Z1 at *
                  generalize pageP n = Z2 at *
                  clear hz1 hz2
                  have hn48 : (n : Int) ≤ 48 := by have := HNN.out.2; omega
                  go_wp2_with (go_at_call 76; refine HU.out.mono ?_)
                  rintro e w3 ⟨rfl, hb3⟩
                  have HL3 := Lib.hid (HL2.out.later hb3)
                  have HV3 := Lib.hid (HV2.out.below hb3)
                  have HLA := Lib.hid (HL3.out.later (balloc (Below.refl _ w3) (.cells #[.int .i64 (n : Int), .int .u64 M] 56)))
                  have HVA := Lib.hid (HV3.out.below (balloc (Below.refl _ w3) (.cells #[.int .i64 (n : Int), .int .u64 M] 56)))
                  have T0 : Hid ((w3.alloc (.cells #[.int .i64 (n : Int), .int .u64 M] 56)).cell? ⟨w3.heap.size, 0, none⟩ = some (.int .i64 (n : Int))) := by show _ = _; go_simp
                  have T1 : Hid ((w3.alloc (.cells #[.int .i64 (n : Int), .int .u64 M] 56)).cell? ⟨w3.heap.size, 1, none⟩ = some (.int .u64 M)) := by show _ = _; go_simp
                  clear hb3 HU hca hs0 hq1 hq2
                  go_wp2_with (go_at_call 33; refine (CZ.out _).mono ?_)
                  rintro e w4 ⟨rfl, hb4⟩
                  have HL4 := Lib.hid (HLA.out.later hb4)
                  have HV4 := Lib.hid (HVA.out.below hb4)
                  have T04 := Lib.hid (cell_later hb4 T0.out)
                  have T14 := Lib.hid (cell_later hb4 T1.out)
                  have v1 := HV4.out.c1
                  have v2 := HV4.out.c2
                  simp only at v1 v2
                  have HB3S : Hid (b < w3.heap.size) := HL3.out.lt
                  have HR4 : Hid (∀ G, (Value.slice A ((candTo h.sp i ++ slotsTo i s k).map (Cand.obj h.ar)).length c).ownBlock = some G → G ≠ w3.heap.size) := fun G hG e => by have := (World.ownsRow.lt HL3.out.ow G hG).2; omega
                  clear hn48 hb4 CZ HLA HVA HL3 HV3 T0 T1 HL2 HV2
                  go_wp2
                  go_ret
                  exact ⟨by rw [E.out]; rfl, HL4.out.lo, HL4.out.be, fun hh => by rw [E.out] at hh; cases hh⟩
              · have d1 : (sizeP n != s.size) = true := by simpa using hz1
                have E : Hid (lookP h = false) := look_no HMEM.out (by rw [HGD.out]; simp [hz1])
                generalize sizeP n = Z1 at *
                generalize pageP n = Z2 at *
                clear hz1
                have hn48 : (n : Int) ≤ 48 := by have := HNN.out.2; omega
                go_wp2_with (go_at_call 76; refine HU.out.mono ?_)
                rintro e w3 ⟨rfl, hb3⟩
                have HL3 := Lib.hid (HL2.out.later hb3)
                have HV3 := Lib.hid (HV2.out.below hb3)
                have HLA := Lib.hid (HL3.out.later (balloc (Below.refl _ w3) (.cells #[.int .i64 (n : Int), .int .u64 M] 56)))
                have HVA := Lib.hid (HV3.out.below (balloc (Below.refl _ w3) (.cells #[.int .i64 (n : Int), .int .u64 M] 56)))
                have T0 : Hid ((w3.alloc (.cells #[.int .i64 (n : Int), .int .u64 M] 56)).cell? ⟨w3.heap.size, 0, none⟩ = some (.int .i64 (n : Int))) := by show _ = _; go_simp
                have T1 : Hid ((w3.alloc (.cells #[.int .i64 (n : Int), .int .u64 M] 56)).cell? ⟨w3.heap.size, 1, none⟩ = some (.int .u64 M)) := by show _ = _; go_simp
                clear hb3 HU hca hs0 hq1 hq2
                go_wp2_with (go_at_call 33; refine (CZ.out _).mono ?_)
                rintro e w4 ⟨rfl, hb4⟩
                have HL4 := Lib.hid (HLA.out.later hb4)
                have HV4 := Lib.hid (HVA.out.below hb4)
                have T04 := Lib.hid (cell_later hb4 T0.out)
                have T14 := Lib.hid (cell_later hb4 T1.out)
                have v1 := HV4.out.c1
                have v2 := HV4.out.c2
                simp only at v1 v2
                have HB3S : Hid (b < w3.heap.size) := HL3.out.lt
                have HR4 : Hid (∀ G, (Value.slice A ((candTo h.sp i ++ slotsTo i s k).map (Cand.obj h.ar)).length c).ownBlock = some G → G ≠ w3.heap.size) := fun G hG e => by have := (World.ownsRow.lt HL3.out.ow G hG).2; omega
                clear hn48 hb4 CZ HLA HVA HL3 HV3 T0 T1 HL2 HV2
                go_wp2
                go_ret
                exact ⟨by rw [E.out]; rfl, HL4.out.lo, HL4.out.be, fun hh => by rw [E.out] at hh; cases hh⟩
            · have E : Hid (lookP h = false) := look_no HMEM.out (by rw [HGD.out]; simp [hu])
              rw [show unpE x = 2 from by unfold unpE; rw [if_neg hu]] at HU
              generalize sizeP n = Z1 at *
              generalize pageP n = Z2 at *
              clear hu hM hnn
              have hn48 : (n : Int) ≤ 48 := by have := HNN.out.2; omega
              go_wp2_with (go_at_call 76; refine HU.out.mono ?_)
              rintro e w3 ⟨rfl, hb3⟩
              have HL3 := Lib.hid (HL2.out.later hb3)
              have HV3 := Lib.hid (HV2.out.below hb3)
              have HLA := Lib.hid (HL3.out.later (balloc (Below.refl _ w3) (.cells #[.int .i64 (n : Int), .int .u64 M] 56)))
              have HVA := Lib.hid (HV3.out.below (balloc (Below.refl _ w3) (.cells #[.int .i64 (n : Int), .int .u64 M] 56)))
              have T0 : Hid ((w3.alloc (.cells #[.int .i64 (n : Int), .int .u64 M] 56)).cell? ⟨w3.heap.size, 0, none⟩ = some (.int .i64 (n : Int))) := by show _ = _; go_simp
              have T1 : Hid ((w3.alloc (.cells #[.int .i64 (n : Int), .int .u64 M] 56)).cell? ⟨w3.heap.size, 1, none⟩ = some (.int .u64 M)) := by show _ = _; go_simp
              clear hb3 HU hca hs0 hq1 hq2
              go_wp2_with (go_at_call 33; refine (CZ.out _).mono ?_)
              rintro e w4 ⟨rfl, hb4⟩
              have HL4 := Lib.hid (HLA.out.later hb4)
              have HV4 := Lib.hid (HVA.out.below hb4)
              have T04 := Lib.hid (cell_later hb4 T0.out)
              have T14 := Lib.hid (cell_later hb4 T1.out)
              have v1 := HV4.out.c1
              have v2 := HV4.out.c2
              simp only at v1 v2
              have HB3S : Hid (b < w3.heap.size) := HL3.out.lt
              have HR4 : Hid (∀ G, (Value.slice A ((candTo h.sp i ++ slotsTo i s k).map (Cand.obj h.ar)).length c).ownBlock = some G → G ≠ w3.heap.size) := fun G hG e => by have := (World.ownsRow.lt HL3.out.ow G hG).2; omega
              clear hn48 hb4 CZ HLA HVA HL3 HV3 T0 T1 HL2 HV2
              go_wp2
              go_ret
              exact ⟨by rw [E.out]; rfl, HL4.out.lo, HL4.out.be, fun hh => by rw [E.out] at hh; cases hh⟩
          · have hb0 : bitP s.al k = false := by simpa using hbit
            rw [hb0] at HIS50
            have HST := Lib.hid (slotsTo_succ_no (i := i) hb0)
            have hK8 := HKN.out.2.1
            clear hbit hb0
            go_wp2_with (go_at_call 51; refine HIS50.out.mono ?_)
            rintro e w1 ⟨rfl, hb1⟩
            have HL1 := Lib.hid (HLQ.out.later hb1)
            have HV1 := Lib.hid (HVQ.out.below hb1)
            clear hb1 HLQ HVQ HIS50 q0 q1 q2 q3 q4 q5 q6 q7
            go_wp2
            go_roundw
            case rel => exact ⟨k + 1, A, c, by omega, by go_num, by rw [HST.out]; exact HL1.out, by rw [HST.out]; exact HGQ.out, HV1.out, by rw [HST.out]; exact HGP.out⟩
            case measure => simp [intOf]; omega
        · obtain rfl : k = K := by omega
          have HCS : Hid (candTo h.sp (i + 1) = candTo h.sp i ++ slotsTo i s k) := by show _ = _; rw [candTo_succ HSS.out, HKN.out.2.2]
          go_wp2
          go_roundw
          case rel => exact ⟨i + 1, by omega, by go_num, by rw [HCS.out]; exact ⟨A, c, HLQ.out⟩, by rw [HCS.out]; exact HGQ.out⟩
          case measure => simp [intOf]; omega
    · obtain rfl : i = h.sp.length := by omega
      obtain ⟨A, c, hlx⟩ := HLK.out
      have HLX := Lib.hid hlx
      have E : Hid (lookP h = true) := HGO.out
      clear hlx HLK
      go_wp2
      go_ret
      exact ⟨by rw [E.out]; rfl, HLX.out.lo, HLX.out.be, fun _ => ⟨A, c, HLX.out⟩⟩
end Go.Proofs.YtieijfefnedifaaGreatDoor
