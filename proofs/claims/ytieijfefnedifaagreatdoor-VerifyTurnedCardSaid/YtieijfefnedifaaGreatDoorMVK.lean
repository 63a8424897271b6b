/- The walk of verify's collect. -/
import Derived.Test.YtieijfefnedifaaGreatDoorMVF0VJ
import Derived.Test.YtieijfefnedifaaGreatDoorMC1C6
import Derived.Deep.RegionHeld3
namespace Go.Proofs.YtieijfefnedifaaGreatDoor
open Go.RowKit
set_option linter.unusedVariables false
set_option linter.unusedSimpArgs false

theorem VarS.putQ {W : World} {p q : Nat} {V : SpanV} (h : VarS W p V) (hne : q ≠ p) (o : VObj) : VarS (putQ W q o) p V := by
  unfold Go.Proofs.YtieijfefnedifaaGreatDoor.putQ
  exact (((((((h.set_ne (p := ⟨q, 0, none⟩) hne _).set_ne (p := ⟨q, 1, none⟩) hne _).set_ne (p := ⟨q, 2, none⟩) hne _).set_ne (p := ⟨q, 3, none⟩) hne _).set_ne (p := ⟨q, 4, none⟩) hne _).set_ne (p := ⟨q, 5, none⟩) hne _).set_ne (p := ⟨q, 6, none⟩) hne _).set_ne (p := ⟨q, 7, none⟩) hne _
/-- A shape's two cells in a block made behind a world. -/
structure RC (W0 w : World) (q r : Nat) (n M : Int) : Prop where
  lo : W0.heap.size ≤ r
  ne : r ≠ q
  c0 : w.cell? ⟨r, 0, none⟩ = some (.int .i64 n)
  c1 : w.cell? ⟨r, 1, none⟩ = some (.int .u64 M)
theorem RC.far {W0 w w1 : World} {q r : Nat} {n M : Int} (h : RC W0 w q r n M) (hc : ∀ o, w1.cell? ⟨r, o, none⟩ = w.cell? ⟨r, o, none⟩) : RC W0 w1 q r n M := ⟨h.lo, h.ne, (hc 0).trans h.c0, (hc 1).trans h.c1⟩
theorem rc_al {W0 W : World} {q : Nat} {n M : Int} (h : W0.heap.size ≤ W.heap.size) (hq : q < W.heap.size) : RC W0 (W.alloc (.cells #[.int .i64 n, .int .u64 M] 56)) q W.heap.size n M :=
  ⟨h, by omega, by show _ = _; go_simp, by show _ = _; go_simp⟩
theorem unp_rng (x : Int) : 0 ≤ unpN x ∧ unpN x ≤ 48 := by
  unfold unpN
  split
  · rename_i hu
    unfold unOk shOk at hu
    simp only [Bool.and_eq_true, decide_eq_true_eq] at hu
    omega
  · omega
theorem QC.set_far {W0 w : World} {q r j : Nat} {o : VObj} (h : QC W0 w q o) (hr : W0.heap.size ≤ r) (hne : r ≠ q) (u : Value) : QC W0 (w.setCell ⟨r, j, none⟩ u) q o :=
  ⟨h.lo, h.v.set_ne (p := ⟨r, j, none⟩) hne u, h.be.setCell (p := ⟨r, j, none⟩) hr _⟩
theorem rc_put {W0 w : World} {q r : Nat} {n M : Int} {a0 a1 : Value} (h : W0.heap.size ≤ r) (hne : r ≠ q) (c0 : w.cell? ⟨r, 0, none⟩ = some a0) (c1 : w.cell? ⟨r, 1, none⟩ = some a1) : RC W0 ((w.setCell ⟨r, 0, none⟩ (.int .i64 n)).setCell ⟨r, 1, none⟩ (.int .u64 M)) q r n M := by
  obtain ⟨k2, k3, -⟩ := cell_set2 (x' := .int .i64 n) (y' := .int .u64 M) c0 c1
  exact ⟨h, hne, k2, k3⟩
set_option maxRecDepth 100000 in
set_option maxHeartbeats 16000000 in
theorem collect40 (w0 w : World) (b fc : Nat) (v : HeapV) (h : HeapB) (fs0 : List Flt) (FA : Option Addr) (st : Sgt w0 w b v fs0 FA fc [] none 0) (hr : RdH w0 v h) (hg : GeoP h) (hfs : fs0.length ≤ 10000) :
    Calls Tryz.prog 40 #[.pointer (some ⟨b, 0, none⟩)] w (CollP w0 w b v h fs0) := by
  obtain ⟨g1, g2, g3, g4, g5, g6⟩ := hg
  have hlen256 := okL_len g3
  have HOK := Lib.hid g3
  have HIN := Lib.hid g6
  have HR := Lib.hid hr
  have HFS0 := Lib.hid hfs
  have HAR : Hid (h.ar.length ≤ 16384 ∧ (h.ar.length : Int) = h.us.n * 16) := ⟨g1, g5⟩
  have HST := Lib.hid st
  have hb := st.lt
  have hn := hr.n
  have hsn := hr.sn
  have hlen := hr.sp.len
  have s3 := st.st.c3
  obtain ⟨aA, aN, aC, ub, sA, sN, sC, vs⟩ := v
  simp only at hn hsn s3 HR HST
  subst hn
  subst hsn
  clear hr g1 g2 g3 g4 g5 g6 st hfs
  go_enter Tryz.func40, Tryz.ntmps40
  go_wp2
  clear s3
  obtain ⟨wo, hwo⟩ : ∃ wo : World, wo = w := ⟨_, rfl⟩
  go_loopw [14] (fun i wr => ∃ (k : Nat) (FA : Option Addr) (fc : Nat) (OA : Option Addr) (oc : Nat), k ≤ h.sp.length ∧ i = .int .i64 k ∧ Hid (Sgt w0 wr b ⟨aA, h.ar.length, aC, ub, sA, h.sp.length, sC, vs⟩ (fs0 ++ headTo h.ar (candTo h.sp k)) FA fc ((candTo h.sp k).map (Cand.vobj h.ar)) OA oc) ∧ Hid (Below b w wr)) (fun i _ => h.sp.length - (intOf i).toNat)
  case atStart => 
    have hx1 : fs0 ++ headTo h.ar (candTo h.sp 0) = fs0 := by simp [candTo, headTo]
    have hx2 : (candTo h.sp 0).map (Cand.vobj h.ar) = [] := by simp [candTo]
    exact ⟨0, FA, fc, none, 0, Nat.zero_le _, rfl, by rw [hx1, hx2]; exact HST.out, Below.refl _ _⟩
  case round =>
    obtain ⟨i, FA, fc, OA, oc, hi, rfl, HLK, HBI⟩ := hrel
    clear HST hwo
    by_cases hlt : i < h.sp.length
    · have hs : h.sp[i]? = some h.sp[i] := List.getElem?_eq_getElem hlt
      generalize h.sp[i] = s at hs
      obtain ⟨vv, bk, oo, hv, hRv, hA, hbk, c0, c1, c2, c3, c4, c5, c6, c7⟩ := HR.out.sp.at_ hs
      have hlo := HLK.out.lo
      replace c0 := cell_later hlo c0
      replace c1 := cell_later hlo c1
      replace c2 := cell_later hlo c2
      replace c3 := cell_later hlo c3
      replace c4 := cell_later hlo c4
      replace c5 := cell_later hlo c5
      replace c6 := cell_later hlo c6
      replace c7 := cell_later hlo c7
      have hrp := okL_right HOK.out hs
      have hsh := span_shape hrp
      have HRP := Lib.hid hrp
      have HSH := Lib.hid hsh
      have HRN := Lib.hid hRv
      have HSS := Lib.hid hs
      have HIS := Lib.hid (HIN.out s (List.mem_of_getElem? hs))
      have e1 := hRv.first
      have e2 := hRv.pages
      have e3 := hRv.size
      have e4 := hRv.al.n
      have e5 := hRv.ma.n
      have e6 := hRv.sw
      obtain ⟨K, hKK⟩ := Int.eq_ofNat_of_zero_le (show 0 ≤ s.al.n by omega)
      obtain ⟨pg, hpg⟩ := Int.eq_ofNat_of_zero_le (show 0 ≤ s.pages by omega)
      obtain ⟨sz, hsz⟩ := Int.eq_ofNat_of_zero_le (show 0 ≤ s.size by omega)
      have HKN : Hid (s.al.n = (K : Int) ∧ K ≤ 8 ∧ s.al.n.toNat = K) := ⟨hKK, by omega, by omega⟩
      have HSZ : Hid (s.pages = (pg : Int) ∧ s.size = (sz : Int) ∧ pg ≤ 4 ∧ sz ≤ 16) := ⟨hpg, hsz, by omega, by omega⟩
      have HFEW : Hid (∀ k, k ≤ K → (candTo h.sp i ++ slotsTo i s k).length ≤ 50000) := by
        intro k hk
        rw [List.length_append]
        have h1 := candTo_few HOK.out i hi
        have h2 := slots_few i s k
        omega
      obtain ⟨f, pg_, z, ⟨n, A1, m, ca⟩, ⟨n', A2, m', cb⟩, sw⟩ := vv
      simp only at hA c0 c1 c2 c3 c4 c5 c6 c7 e1 e2 e3 e4 e5 e6
      subst hA
      subst e1
      subst e2
      subst e3
      subst e4
      subst e5
      subst e6
      rw [hKK] at c3
      rw [hpg] at c1
      rw [hsz] at c2
      clear hs hv hRv hbk hrp hsh hKK hlo hpg hsz
      go_wp2
      have HLB := Lib.hid (HLK.out.later (balloc (Below.refl _ wr) (.cells #[.int .i64 s.first, .int .i64 (pg : Int), .int .i64 (sz : Int), .int .i64 (K : Int), .slice A1 m ca, .int .i64 s.ma.n, .slice A2 m' cb, .bool s.sw] 44)))
      have HVP : Hid (VarS (wr.alloc (.cells #[.int .i64 s.first, .int .i64 (pg : Int), .int .i64 (sz : Int), .int .i64 (K : Int), .slice A1 m ca, .int .i64 s.ma.n, .slice A2 m' cb, .bool s.sw] 44)) wr.heap.size ⟨s.first, pg, sz, ⟨K, A1, m, ca⟩, ⟨s.ma.n, A2, m', cb⟩, s.sw⟩) := VarS.made wr ⟨s.first, pg, sz, ⟨K, A1, m, ca⟩, ⟨s.ma.n, A2, m', cb⟩, s.sw⟩ _ rfl
      have HCL : Hid (ColS w0 w (wr.alloc (.cells #[.int .i64 s.first, .int .i64 (pg : Int), .int .i64 (sz : Int), .int .i64 (K : Int), .slice A1 m ca, .int .i64 s.ma.n, .slice A2 m' cb, .bool s.sw] 44)) b ⟨aA, h.ar.length, aC, ub, some ⟨bk, oo, none⟩, h.sp.length, sC, vs⟩ (fs0 ++ headTo h.ar (candTo h.sp i)) FA fc ((candTo h.sp i).map (Cand.vobj h.ar)) OA oc wr.heap.size ⟨s.first, pg, sz, ⟨K, A1, m, ca⟩, ⟨s.ma.n, A2, m', cb⟩, s.sw⟩) :=
        ⟨HLB.out, HVP.out, HBI.out.trans ((balloc (Below.refl _ wr) _).mono (Nat.le_of_lt HLK.out.lt)), HLK.out.lt, fun e => by have := (World.ownsRow.lt HLK.out.fo _ e).2; omega, fun e => by have := (World.ownsRow.lt HLK.out.oo _ e).2; omega⟩
      generalize hWA : wr.alloc (.cells #[.int .i64 s.first, .int .i64 (pg : Int), .int .i64 (sz : Int), .int .i64 (K : Int), .slice A1 m ca, .int .i64 s.ma.n, .slice A2 m' cb, .bool s.sw] 44) = WA at *
      generalize hpp : wr.heap.size = p at *
      clear hWA hpp c0 c1 c2 c3 c4 c5 c6 c7 HLB HVP HLK HBI
      obtain ⟨wi, hwi⟩ : ∃ wi : World, wi = WA := ⟨_, rfl⟩
      go_loopw [22] (fun i5 wq => ∃ (k : Nat) (FA : Option Addr) (fc : Nat) (OA : Option Addr) (oc : Nat), k ≤ K ∧ i5 = .int .i64 k ∧ Hid (ColS w0 w wq b ⟨aA, h.ar.length, aC, ub, some ⟨bk, oo, none⟩, h.sp.length, sC, vs⟩ (fs0 ++ headTo h.ar (candTo h.sp i ++ slotsTo i s k)) FA fc ((candTo h.sp i ++ slotsTo i s k).map (Cand.vobj h.ar)) OA oc p ⟨s.first, pg, sz, ⟨K, A1, m, ca⟩, ⟨s.ma.n, A2, m', cb⟩, s.sw⟩)) (fun i5 _ => K - (intOf i5).toNat)
      case atStart =>
        have hx0 : candTo h.sp i ++ slotsTo i s 0 = candTo h.sp i := by simp [slotsTo]
        exact ⟨0, FA, fc, OA, oc, Nat.zero_le _, rfl, by rw [hx0]; exact HCL.out⟩
      case round =>
        clear HCL hwi
        obtain ⟨k, FA, fc, OA, oc, hk, rfl, HLQ⟩ := hrel
        by_cases hkk : k < K
        · have hwl : k / 64 < s.al.w.length := by
            have h1 := okB_parts (rightP_parts HRP.out).2.2.2.1
            have h2 := HKN.out
            omega
          have HIS50 := Lib.hid (is50 ⟨s.al.n, A1, m, ca⟩ s.al k wr (HRN.out.al.below HLQ.out.s.lo) hwl (by have := HKN.out; omega))
          unfold BitV.v at HIS50
          simp only at HIS50
          rw [HKN.out.1] at HIS50
          have HVQ := Lib.hid HLQ.out.vp
          obtain ⟨q0, q1, q2, q3, q4, q5, q6, q7⟩ := HVQ.out
          simp only at q0 q1 q2 q3 q4 q5 q6 q7
          clear hwl HVQ
          by_cases hbit : bitP s.al k = true
          · rw [hbit] at HIS50
            have HMEM := Lib.hid (cand_mem HSS.out (show k < s.al.n.toNat by have := HKN.out; omega) hbit)
            have HSTT := Lib.hid (slotsTo_succ_yes (i := i) hbit)
            have HCE := Lib.hid (cand_end HOK.out HMEM.out)
            clear hbit
            go_wp2_with (go_at_call 51; refine HIS50.out.mono ?_)
            rintro e w1 ⟨rfl, hb1⟩
            have HL1 := Lib.hid (HLQ.out.later hb1)
            clear hb1 HLQ HIS50 q0 q1 q2 q3 q4 q5 q6 q7
            generalize hOS : (candTo h.sp i ++ slotsTo i s k).map (Cand.vobj h.ar) = OS at HL1
            generalize hFS : fs0 ++ headTo h.ar (candTo h.sp i ++ slotsTo i s k) = FS at HL1
            have HOS := Lib.hid hOS
            have HFS := Lib.hid hFS
            have HFK : Hid (OS.length ≤ 100000) := by show _ ≤ _; rw [← hOS, List.length_map]; have := HFEW.out k hk; omega
            have HFL : Hid (FS.length ≤ 1000000) := by show _ ≤ _; rw [← hFS, List.length_append]; have h1 := HFEW.out k hk; have h2 := HFS0.out; have h3 := headTo_len h.ar (candTo h.sp i ++ slotsTo i s k); omega
            clear hOS hFS
            have CB : Hid (∀ W, Calls Tryz.prog 72 #[.agg #[.int .i64 s.first, .int .i64 (pg : Int), .int .i64 (sz : Int), .int .i64 (K : Int), .slice A1 m ca, .int .i64 s.ma.n, .slice A2 m' cb, .bool s.sw]] W (Ret (.int .u64 (s.first * 16)) W)) := fun W => base42 ⟨s.first, pg, sz, ⟨K, A1, m, ca⟩, ⟨s.ma.n, A2, m', cb⟩, s.sw⟩ W (by have := HSH.out; simp only; omega) (by have := HSH.out; simp only; omega)
            obtain ⟨t, ht, ht2⟩ : ∃ t : Nat, (k : Int) * (sz : Int) = (t : Int) ∧ t = k * sz ∧ t ≤ 128 := by
              have h8 := HKN.out.2.1
              have h16 := HSZ.out.2.2.2
              refine ⟨k * sz, by simp, rfl, ?_⟩
              exact Nat.le_trans (Nat.mul_le_mul (show k ≤ 8 by omega) h16) (by omega)
            obtain ⟨at_, hat⟩ : ∃ a : Nat, a = (⟨i, s, k⟩ : Cand).a := ⟨_, rfl⟩
            have hat2 : s.first * 16 + (t : Int) = (at_ : Int) := by
              rw [hat]; unfold Cand.a; simp only
              have h1 := HSH.out
              have h2 := HSZ.out.2.1
              rw [ht2.1, show s.size.toNat = sz by omega]
              omega
            have HAT : Hid (at_ < h.ar.length) := by
              show _ < _
              have h1 := HCE.out.2.1
              have h2 := HIS.out.2
              have h3 := HAR.out.2
              have h4 := HCE.out.2.2.1
              unfold endP at h1
              rw [hat]
              omega
            have hw1 : IntKind.i64.wrap ((k : Int) * (sz : Int)) = (t : Int) := by rw [ht]; exact wrap_in (by omega)
            have hw2 : IntKind.u64.wrap (t : Int) = (t : Int) := by rw [u64_wrap_]; omega
            have hw3 : IntKind.u64.wrap (s.first * 16 + (t : Int)) = (at_ : Int) := by rw [hat2, u64_wrap_]; have := HAT.out; have := HAR.out; omega
            have hw4 : IntKind.u64.wrap (sz : Int) = (sz : Int) := by rw [u64_wrap_]; have := HSZ.out; omega
            have HA_ := Lib.hid hat
            clear ht ht2 hat hat2
            go_upto_region 7 with fail
            have HB0 : Hid (Below w1.heap.size w1 w1.drew) := (Below.refl _ _).drew
            have HV1 := Lib.hid (HL1.out.vp.below HB0.out)
            have HPL : Hid (p < w1.heap.size) := HL1.out.vp.lt
            go_cut [5] (fun t5 wx => ∃ q, t5 = .pointer (some ⟨q, 0, none⟩) ∧ QC w1 wx q ⟨i, k, at_, sz, 0, 0, false, false⟩)
            case first =>
              refine wp_region_held_drew (S := fun W => VarS W p ⟨s.first, (pg : Int), (sz : Int), ⟨(K : Int), A1, m, ca⟩, ⟨s.ma.n, A2, m', cb⟩, s.sw⟩) (by kernel_rfl) HV1.out (fun hHeld => ?_)
              generalize w1.drew = w6 at *
              refine wpAnyH_take (i := 0) (oi := _) (v := ?_) rfl (by kernel_rfl) (by kernel_rfl) (by kernel_rfl) (fun _ _ _ h => h) (Or.inl ⟨by rfl, ?_⟩) (by assumption) ?_
              rotate_left
              · intro w hSw
                obtain ⟨t0, t1, t2, t3, t4, t5, t6, t7⟩ := hSw
                simp only at t0 t1 t2 t3 t4 t5 t6 t7
                go_simp
                all_goals with_reducible rfl
              try simp only [Act.put, List.setIfInBounds_toArray, List.set_cons_zero, List.set_cons_succ, List.getElem_toArray, List.getElem_cons_zero, List.getElem_cons_succ]
              refine wpAnyH_take (i := 1) (oi := _) (v := ?_) rfl (by kernel_rfl) (by kernel_rfl) (by kernel_rfl) (fun _ _ _ h => h) (Or.inl ⟨by rfl, ?_⟩) (by assumption) ?_
              rotate_left
              · intro w hSw
                obtain ⟨t0, t1, t2, t3, t4, t5, t6, t7⟩ := hSw
                simp only at t0 t1 t2 t3 t4 t5 t6 t7
                go_simp
                all_goals with_reducible rfl
              try simp only [Act.put, List.setIfInBounds_toArray, List.set_cons_zero, List.set_cons_succ, List.getElem_toArray, List.getElem_cons_zero, List.getElem_cons_succ]
              refine wpAnyH_take (i := 2) (oi := _) (v := ?_) rfl (by kernel_rfl) (by kernel_rfl) (by kernel_rfl) (fun _ _ _ h => h) (Or.inl ⟨by rfl, ?_⟩) (by assumption) ?_
              rotate_left
              · intro w hSw
                obtain ⟨t0, t1, t2, t3, t4, t5, t6, t7⟩ := hSw
                simp only at t0 t1 t2 t3 t4 t5 t6 t7
                go_simp
                all_goals with_reducible rfl
              try simp only [Act.put, List.setIfInBounds_toArray, List.set_cons_zero, List.set_cons_succ, List.getElem_toArray, List.getElem_cons_zero, List.getElem_cons_succ]
              refine wpAnyH_take (i := 4) (oi := _) (v := ?_) rfl (by kernel_rfl) (by kernel_rfl) (by kernel_rfl) (fun _ _ _ h => h) (Or.inl ⟨by rfl, ?_⟩) (by assumption) ?_
              rotate_left
              · intro w hSw
                obtain ⟨t0, t1, t2, t3, t4, t5, t6, t7⟩ := hSw
                simp only at t0 t1 t2 t3 t4 t5 t6 t7
                go_simp
                all_goals with_reducible rfl
              try simp only [Act.put, List.setIfInBounds_toArray, List.set_cons_zero, List.set_cons_succ, List.getElem_toArray, List.getElem_cons_zero, List.getElem_cons_succ]
              refine wpAnyH_take (i := 5) (oi := _) (v := ?_) rfl (by kernel_rfl) (by kernel_rfl) (by kernel_rfl) (fun _ _ _ h => h) (Or.inl ⟨by rfl, ?_⟩) (by assumption) ?_
              rotate_left
              · intro w hSw
                obtain ⟨t0, t1, t2, t3, t4, t5, t6, t7⟩ := hSw
                simp only at t0 t1 t2 t3 t4 t5 t6 t7
                go_simp
                all_goals with_reducible rfl
              try simp only [Act.put, List.setIfInBounds_toArray, List.set_cons_zero, List.set_cons_succ, List.getElem_toArray, List.getElem_cons_zero, List.getElem_cons_succ]
              refine wpAnyH_take (i := 6) (oi := _) (v := ?_) rfl (by kernel_rfl) (by kernel_rfl) (by kernel_rfl) (fun _ _ _ h => h) (Or.inl ⟨by rfl, ?_⟩) (by assumption) ?_
              rotate_left
              · intro w hSw
                obtain ⟨t0, t1, t2, t3, t4, t5, t6, t7⟩ := hSw
                simp only at t0 t1 t2 t3 t4 t5 t6 t7
                go_simp
                all_goals with_reducible rfl
              try simp only [Act.put, List.setIfInBounds_toArray, List.set_cons_zero, List.set_cons_succ, List.getElem_toArray, List.getElem_cons_zero, List.getElem_cons_succ]
              refine wpAnyH_take (i := 7) (oi := _) (v := ?_) rfl (by kernel_rfl) (by kernel_rfl) (by kernel_rfl) (fun _ _ _ h => h) (Or.inl ⟨by rfl, ?_⟩) (by assumption) ?_
              rotate_left
              · intro w hSw
                obtain ⟨t0, t1, t2, t3, t4, t5, t6, t7⟩ := hSw
                simp only at t0 t1 t2 t3 t4 t5 t6 t7
                go_simp
                all_goals with_reducible rfl
              try simp only [Act.put, List.setIfInBounds_toArray, List.set_cons_zero, List.set_cons_succ, List.getElem_toArray, List.getElem_cons_zero, List.getElem_cons_succ]
              refine wpAnyH_take (i := 8) (oi := _) (v := ?_) rfl (by kernel_rfl) (by kernel_rfl) (by kernel_rfl) (fun _ _ _ h => h) (Or.inl ⟨by rfl, ?_⟩) (by assumption) ?_
              rotate_left
              · intro w hSw
                obtain ⟨t0, t1, t2, t3, t4, t5, t6, t7⟩ := hSw
                simp only at t0 t1 t2 t3 t4 t5 t6 t7
                go_simp
                all_goals with_reducible rfl
              try simp only [Act.put, List.setIfInBounds_toArray, List.set_cons_zero, List.set_cons_succ, List.getElem_toArray, List.getElem_cons_zero, List.getElem_cons_succ]
              refine wpAnyH_take (i := 10) (oi := _) (v := ?_) rfl (by kernel_rfl) (by kernel_rfl) (by kernel_rfl) (fun _ _ _ h => h) (Or.inl ⟨by rfl, ?_⟩) (by assumption) ?_
              rotate_left
              · intro w hSw
                obtain ⟨t0, t1, t2, t3, t4, t5, t6, t7⟩ := hSw
                simp only at t0 t1 t2 t3 t4 t5 t6 t7
                go_simp
                all_goals with_reducible rfl
              try simp only [Act.put, List.setIfInBounds_toArray, List.set_cons_zero, List.set_cons_succ, List.getElem_toArray, List.getElem_cons_zero, List.getElem_cons_succ]
              refine wpAnyH_take (i := 11) (oi := _) (v := ?_) rfl (by kernel_rfl) (by kernel_rfl) (by kernel_rfl) (fun _ _ _ h => h) (Or.inl ⟨by rfl, ?_⟩) (by assumption) ?_
              rotate_left
              · intro w hSw
                obtain ⟨t0, t1, t2, t3, t4, t5, t6, t7⟩ := hSw
                simp only at t0 t1 t2 t3 t4 t5 t6 t7
                go_simp
                all_goals with_reducible rfl
              try simp only [Act.put, List.setIfInBounds_toArray, List.set_cons_zero, List.set_cons_succ, List.getElem_toArray, List.getElem_cons_zero, List.getElem_cons_succ]
              refine wpAnyH_take (i := 12) (oi := _) (v := ?_) rfl (by kernel_rfl) (by kernel_rfl) (by kernel_rfl) (fun _ _ _ h => h) (Or.inl ⟨by rfl, ?_⟩) (by assumption) ?_
              rotate_left
              · intro w hSw
                obtain ⟨t0, t1, t2, t3, t4, t5, t6, t7⟩ := hSw
                simp only at t0 t1 t2 t3 t4 t5 t6 t7
                go_simp
                all_goals with_reducible rfl
              try simp only [Act.put, List.setIfInBounds_toArray, List.set_cons_zero, List.set_cons_succ, List.getElem_toArray, List.getElem_cons_zero, List.getElem_cons_succ]
              refine wpAnyH_ready (rs := [3, 14]) (by kernel_rfl) (by simp) ?_
              refine AllReadyH.cons (o := _) rfl (fun KQ hKQ => ?_) (AllReadyH.cons (o := _) rfl (fun KQ hKQ => ?_) AllReadyH.nil)
              · go_simp
                go_at_call 72
                refine (CB.out _).mono ?_
                rintro e w7 ⟨rfl, hb7⟩
                have HV7 := Lib.hid (HV1.out.below hb7)
                have HB7 := Lib.hid (bthen HB0.out hb7)
                clear hb7 CB
                go_simp
                refine hKQ.out _ _ HV7.out (fun hHeld => ?_)
                clear hKQ KQ
                try simp only [Act.put, List.setIfInBounds_toArray, List.set_cons_zero, List.set_cons_succ, List.getElem_toArray, List.getElem_cons_zero, List.getElem_cons_succ]
                refine wpAnyH_take (i := 9) (oi := _) (v := ?_) rfl (by kernel_rfl) (by kernel_rfl) (by kernel_rfl) (fun _ _ _ h => h) (Or.inl ⟨by rfl, ?_⟩) (by assumption) ?_
                rotate_left
                · intro w hSw
                  obtain ⟨t0, t1, t2, t3, t4, t5, t6, t7⟩ := hSw
                  simp only at t0 t1 t2 t3 t4 t5 t6 t7
                  go_simp
                  all_goals with_reducible rfl
                try simp only [Act.put, List.setIfInBounds_toArray, List.set_cons_zero, List.set_cons_succ, List.getElem_toArray, List.getElem_cons_zero, List.getElem_cons_succ]
                refine wpAnyH_take (i := 13) (oi := _) (v := ?_) rfl (by kernel_rfl) (by kernel_rfl) (by kernel_rfl) (fun _ _ _ h => h) (Or.inl ⟨by rfl, ?_⟩) (by assumption) ?_
                rotate_left
                · intro w hSw
                  obtain ⟨t0, t1, t2, t3, t4, t5, t6, t7⟩ := hSw
                  simp only at t0 t1 t2 t3 t4 t5 t6 t7
                  go_simp
                  all_goals with_reducible rfl
                try simp only [Act.put, List.setIfInBounds_toArray, List.set_cons_zero, List.set_cons_succ, List.getElem_toArray, List.getElem_cons_zero, List.getElem_cons_succ]
                refine wpAnyH_ready (rs := [14]) (by kernel_rfl) (by simp) ?_
                refine AllReadyH.cons (o := _) rfl (fun KQ hKQ => ?_) AllReadyH.nil
                go_simp
                refine hKQ.out _ _ (HV7.out.below (balloc (Below.refl _ _) _)) (fun hHeld => ?_)
                clear hKQ KQ
                try simp only [Act.put, List.setIfInBounds_toArray, List.set_cons_zero, List.set_cons_succ, List.getElem_toArray, List.getElem_cons_zero, List.getElem_cons_succ]
                refine wpAnyH_ready (rs := [15]) (by kernel_rfl) (by simp) ?_
                refine AllReadyH.cons (o := _) rfl (fun KQ hKQ => ?_) AllReadyH.nil
                go_simp
                refine hKQ.out _ _ (HV7.out.below (balloc (Below.refl _ _) _)) (fun hHeld => ?_)
                clear hKQ KQ
                try simp only [Act.put, List.setIfInBounds_toArray, List.set_cons_zero, List.set_cons_succ, List.getElem_toArray, List.getElem_cons_zero, List.getElem_cons_succ]
                refine wpAnyH_done (by kernel_rfl) ?_ _
                go_wp2_with fail
                go_meet
                exact ⟨_, rfl, QC.al HB7.out ⟨i, k, at_, sz, 0, 0, false, false⟩⟩
              · go_simp
                refine hKQ.out _ _ (HV1.out.below (balloc (Below.refl _ _) _)) (fun hHeld => ?_)
                clear hKQ KQ
                try simp only [Act.put, List.setIfInBounds_toArray, List.set_cons_zero, List.set_cons_succ, List.getElem_toArray, List.getElem_cons_zero, List.getElem_cons_succ]
                refine wpAnyH_ready (rs := [3]) (by kernel_rfl) (by simp) ?_
                refine AllReadyH.cons (o := _) rfl (fun KQ hKQ => ?_) AllReadyH.nil
                go_simp
                go_at_call 72
                refine (CB.out _).mono ?_
                rintro e w7 ⟨rfl, hb7⟩
                have HV7 := Lib.hid (HV1.out.below (bthen (balloc (Below.refl _ _) _) hb7))
                have HQ7 : Hid (QC w1 w7 w6.heap.size ⟨0, 0, 0, 0, 0, 0, false, false⟩) := (QC.al HB0.out ⟨0, 0, 0, 0, 0, 0, false, false⟩).later hb7
                have u0 : w7.cell? ⟨w6.heap.size, 0, none⟩ = some (.int .i64 0) := HQ7.out.v.c0
                have u1 : w7.cell? ⟨w6.heap.size, 1, none⟩ = some (.int .i64 0) := HQ7.out.v.c1
                have u2 : w7.cell? ⟨w6.heap.size, 2, none⟩ = some (.int .u64 0) := HQ7.out.v.c2
                have u3 : w7.cell? ⟨w6.heap.size, 3, none⟩ = some (.int .u64 0) := HQ7.out.v.c3
                have u4 : w7.cell? ⟨w6.heap.size, 4, none⟩ = some (.int .i64 0) := HQ7.out.v.c4
                have u5 : w7.cell? ⟨w6.heap.size, 5, none⟩ = some (.int .u64 0) := HQ7.out.v.c5
                have u6 : w7.cell? ⟨w6.heap.size, 6, none⟩ = some (.bool false) := HQ7.out.v.c6
                have u7 : w7.cell? ⟨w6.heap.size, 7, none⟩ = some (.bool false) := HQ7.out.v.c7
                have uf0 := HQ7.out.v.fr 0 (by omega)
                have uf1 := HQ7.out.v.fr 1 (by omega)
                have uf2 := HQ7.out.v.fr 2 (by omega)
                have uf3 := HQ7.out.v.fr 3 (by omega)
                have uf4 := HQ7.out.v.fr 4 (by omega)
                have uf5 := HQ7.out.v.fr 5 (by omega)
                have uf6 := HQ7.out.v.fr 6 (by omega)
                have uf7 := HQ7.out.v.fr 7 (by omega)
                have ul := HQ7.out.v.lt
                have hne : w6.heap.size ≠ p := by have := HPL.out; have := HB0.out.size; omega
                clear hb7 CB
                go_simp
                refine hKQ.out _ _ HV7.out (fun hHeld => ?_)
                clear hKQ KQ
                try simp only [Act.put, List.setIfInBounds_toArray, List.set_cons_zero, List.set_cons_succ, List.getElem_toArray, List.getElem_cons_zero, List.getElem_cons_succ]
                refine wpAnyH_take (i := 9) (oi := _) (v := ?_) rfl (by kernel_rfl) (by kernel_rfl) (by kernel_rfl) (fun _ _ _ h => h) (Or.inl ⟨by rfl, ?_⟩) (by assumption) ?_
                rotate_left
                · intro w hSw
                  obtain ⟨t0, t1, t2, t3, t4, t5, t6, t7⟩ := hSw
                  simp only at t0 t1 t2 t3 t4 t5 t6 t7
                  go_simp
                  all_goals with_reducible rfl
                try simp only [Act.put, List.setIfInBounds_toArray, List.set_cons_zero, List.set_cons_succ, List.getElem_toArray, List.getElem_cons_zero, List.getElem_cons_succ]
                refine wpAnyH_take (i := 13) (oi := _) (v := ?_) rfl (by kernel_rfl) (by kernel_rfl) (by kernel_rfl) (fun _ _ _ h => h) (Or.inl ⟨by rfl, ?_⟩) (by assumption) ?_
                rotate_left
                · intro w hSw
                  obtain ⟨t0, t1, t2, t3, t4, t5, t6, t7⟩ := hSw
                  simp only at t0 t1 t2 t3 t4 t5 t6 t7
                  go_simp
                  all_goals with_reducible rfl
                try simp only [Act.put, List.setIfInBounds_toArray, List.set_cons_zero, List.set_cons_succ, List.getElem_toArray, List.getElem_cons_zero, List.getElem_cons_succ]
                refine wpAnyH_ready (rs := [15]) (by kernel_rfl) (by simp) ?_
                refine AllReadyH.cons (o := _) rfl (fun KQ hKQ => ?_) AllReadyH.nil
                go_simp
                refine hKQ.out _ _ (HV7.out.putQ hne ⟨i, k, at_, sz, 0, 0, false, false⟩) (fun hHeld => ?_)
                clear hKQ KQ
                try simp only [Act.put, List.setIfInBounds_toArray, List.set_cons_zero, List.set_cons_succ, List.getElem_toArray, List.getElem_cons_zero, List.getElem_cons_succ]
                refine wpAnyH_done (by kernel_rfl) ?_ _
                go_wp2_with fail
                go_meet
                exact ⟨_, rfl, HQ7.out.put ⟨i, k, at_, sz, 0, 0, false, false⟩⟩
            case rest =>
              obtain ⟨q, rfl, hq⟩ := hcut
              have HQC := Lib.hid hq
              clear hq CB hw1 hw2 hw3 HB0 HV1
              obtain ⟨RM, hRM⟩ : ∃ RM, RM = (⟨i, s, k⟩ : Cand).room := ⟨_, rfl⟩
              have HRM : Hid (RM = (⟨i, s, k⟩ : Cand).room ∧ RM = if sz = 0 then pg * 16 else sz) := by
                refine ⟨hRM, ?_⟩
                rw [hRM]
                unfold Cand.room
                simp only
                have h2 := HSZ.out
                rw [show s.size.toNat = sz by omega, show s.pages.toNat = pg by omega, h2.2.1]
                by_cases hz : sz = 0
                · simp [hz]
                · simp [hz]
              have HL2 := Lib.hid (HL1.out.later HQC.out.be)
              have v1 := HL2.out.vp.c1
              have v2 := HL2.out.vp.c2
              simp only at v1 v2
              clear hRM
              go_upto_if 46 with fail
              go_cut [] (fun wx => QC w1 wx q ⟨i, k, at_, RM, 0, 0, false, false⟩)
              case first =>
                by_cases hz : sz = 0
                · have hd : ((sz : Int) == 0) = true := by simp [hz]
                  have ERM : Hid (RM = pg * 16) := by show _ = _; have := HRM.out.2; rwa [if_pos hz] at this
                  have hw1 : IntKind.i64.wrap ((pg : Int) * 16) = (pg : Int) * 16 := wrap_in (x := (pg : Int) * 16) (by have := HSZ.out; omega)
                  have hw2 : IntKind.u64.wrap ((pg : Int) * 16) = (pg : Int) * 16 := by rw [u64_wrap_]; have := HSZ.out; omega
                  have x3 := HQC.out.v.c3
                  have xf3 := HQC.out.v.fr 3 (by omega)
                  have xl := HQC.out.v.lt
                  clear hz
                  go_wp2_with fail
                  go_meet
                  have := HQC.out.room (pg * 16)
                  rw [ERM.out]
                  exact this
                · have hd : ((sz : Int) == 0) = false := by simp; omega
                  have ERM : Hid (RM = sz) := by show _ = _; have := HRM.out.2; rwa [if_neg hz] at this
                  clear hz
                  go_wp2_with fail
                  go_meet
                  rw [ERM.out]
                  exact HQC.out
              case rest =>
                have HQ2 := Lib.hid hcut
                clear hcut v1 v2 HL2 HQC
                have hx : h.ar[at_]? = some h.ar[at_] := List.getElem?_eq_getElem HAT.out
                have hxr := HR.out.words _ (List.getElem_mem HAT.out)
                have hwd : wd h.ar (⟨i, s, k⟩ : Cand).a = h.ar[at_] := by rw [← HA_.out]; exact wd_at hx
                generalize h.ar[at_] = x at hx hxr hwd
                have HWD := Lib.hid hwd
                have HL3 := Lib.hid (HL1.out.later HQ2.out.be)
                obtain ⟨ba, oa, hAa, hba, hca⟩ := (HR.out.ar.below HL3.out.s.lo).at_ hx
                simp only at hAa
                subst hAa
                have HU : Hid (∀ W, Calls Tryz.prog 76 #[.int .u64 x] W (Ret (.tuple #[.agg #[.int .i64 (unpN x), .int .u64 (unpM x)], .int .i64 (unpE x)]) W)) := fun W => unpack76 x W hxr
                have hs0 := HL3.out.s.st.c0
                simp only at hs0
                have hq1 : (0 : Int) ≤ (at_ : Int) := by omega
                have hq2 : (at_ : Int) < (h.ar.length : Int) := by have := HAT.out; omega
                have hur := unp_rng x
                obtain ⟨n, hnn⟩ := Int.eq_ofNat_of_zero_le hur.1
                have HNN : Hid (unpN x = (n : Int) ∧ n ≤ 48) := ⟨hnn, by omega⟩
                obtain ⟨M, hM⟩ : ∃ M, M = unpM x := ⟨_, rfl⟩
                obtain ⟨E, hE⟩ : ∃ E, E = unpE x := ⟨_, rfl⟩
                rw [hnn, ← hM, ← hE] at HU
                have HME : Hid (M = unpM x ∧ E = unpE x) := ⟨hM, hE⟩
                have HS3 : Hid (wc.drew.cell? ⟨b, 0, none⟩ = some (.slice (some ⟨ba, oa, none⟩) h.ar.length aC) ∧ wc.drew.cell? ⟨q, 2, none⟩ = some (.int .u64 (at_ : Int)) ∧ wc.drew.cell? ⟨ba, oa + at_, none⟩ = some (.int .u64 x)) :=
                  ⟨cell_later (Below.refl _ _).drew hs0, cell_later (Below.refl _ _).drew HQ2.out.v.c2, cell_later (Below.refl _ _).drew hca⟩
                have HKS : Hid (∀ {W W' : World}, Below W.heap.size W W' → (W.cell? ⟨b, 0, none⟩ = some (.slice (some ⟨ba, oa, none⟩) h.ar.length aC) ∧ W.cell? ⟨q, 2, none⟩ = some (.int .u64 (at_ : Int)) ∧ W.cell? ⟨ba, oa + at_, none⟩ = some (.int .u64 x)) → (W'.cell? ⟨b, 0, none⟩ = some (.slice (some ⟨ba, oa, none⟩) h.ar.length aC) ∧ W'.cell? ⟨q, 2, none⟩ = some (.int .u64 (at_ : Int)) ∧ W'.cell? ⟨ba, oa + at_, none⟩ = some (.int .u64 x))) := fun hb hh => ⟨cell_later hb hh.1, cell_later hb hh.2.1, cell_later hb hh.2.2⟩
                have HQ3 := Lib.hid (HQ2.out.later (Below.refl wc.heap.size wc).drew)
                have HLO3 : Hid (b < wc.drew.heap.size ∧ ba < wc.drew.heap.size ∧ q < wc.drew.heap.size ∧ w1.heap.size ≤ wc.drew.heap.size) := ⟨Nat.lt_of_lt_of_le HL3.out.s.lt (Below.refl wc.heap.size wc).drew.size, Nat.lt_of_lt_of_le hba (Below.refl wc.heap.size wc).drew.size, HQ3.out.v.lt, HQ3.out.be.size⟩
                clear hx hxr hwd hba hur hnn hM hE hca hs0 HQ2 HL3
                go_upto_region 10 with fail
                go_cut [6, 7] (fun t6 t7 wx => ∃ r, t6 = .pointer (some ⟨r, 0, none⟩) ∧ t7 = .int .i64 E ∧ QC w1 wx q ⟨i, k, at_, RM, 0, 0, false, false⟩ ∧ RC w1 wx q r (n : Int) M)
                case first =>
                  refine wp_region_held_drew (S := fun W => W.cell? ⟨b, 0, none⟩ = some (.slice (some ⟨ba, oa, none⟩) h.ar.length aC) ∧ W.cell? ⟨q, 2, none⟩ = some (.int .u64 (at_ : Int)) ∧ W.cell? ⟨ba, oa + at_, none⟩ = some (.int .u64 x)) (by kernel_rfl) HS3.out (fun hHeld => ?_)
                  generalize wc.drew = w6 at *
                  refine wpAnyH_take (i := 0) (oi := _) (v := ?_) rfl (by kernel_rfl) (by kernel_rfl) (by kernel_rfl) (fun _ _ _ h => h) (Or.inl ⟨by rfl, ?_⟩) (by assumption) ?_
                  rotate_left
                  · intro w hSw
                    try dsimp only at hSw
                    obtain ⟨t0, t1, t2⟩ := hSw
                    go_simp
                    all_goals with_reducible rfl
                  try simp only [Act.put, List.setIfInBounds_toArray, List.set_cons_zero, List.set_cons_succ, List.getElem_toArray, List.getElem_cons_zero, List.getElem_cons_succ]
                  refine wpAnyH_take (i := 1) (oi := _) (v := ?_) rfl (by kernel_rfl) (by kernel_rfl) (by kernel_rfl) (fun _ _ _ h => h) (Or.inl ⟨by rfl, ?_⟩) (by assumption) ?_
                  rotate_left
                  · intro w hSw
                    try dsimp only at hSw
                    obtain ⟨t0, t1, t2⟩ := hSw
                    go_simp
                    all_goals with_reducible rfl
                  try simp only [Act.put, List.setIfInBounds_toArray, List.set_cons_zero, List.set_cons_succ, List.getElem_toArray, List.getElem_cons_zero, List.getElem_cons_succ]
                  refine wpAnyH_take (i := 2) (oi := _) (v := ?_) rfl (by kernel_rfl) (by kernel_rfl) (by kernel_rfl) (fun _ _ _ h => h) (Or.inl ⟨by rfl, ?_⟩) (by assumption) ?_
                  rotate_left
                  · intro w hSw
                    try dsimp only at hSw
                    obtain ⟨t0, t1, t2⟩ := hSw
                    go_simp
                    all_goals with_reducible rfl
                  try simp only [Act.put, List.setIfInBounds_toArray, List.set_cons_zero, List.set_cons_succ, List.getElem_toArray, List.getElem_cons_zero, List.getElem_cons_succ]
                  refine wpAnyH_take (i := 3) (oi := _) (v := ?_) rfl (by kernel_rfl) (by kernel_rfl) (by kernel_rfl) (fun _ _ _ h => h) (Or.inl ⟨by rfl, ?_⟩) (by assumption) ?_
                  rotate_left
                  · intro w hSw
                    try dsimp only at hSw
                    obtain ⟨t0, t1, t2⟩ := hSw
                    go_simp
                    all_goals with_reducible rfl
                  try simp only [Act.put, List.setIfInBounds_toArray, List.set_cons_zero, List.set_cons_succ, List.getElem_toArray, List.getElem_cons_zero, List.getElem_cons_succ]
                  refine wpAnyH_take (i := 4) (oi := _) (v := ?_) rfl (by kernel_rfl) (by kernel_rfl) (by kernel_rfl) (fun _ _ _ h => h) (Or.inl ⟨by rfl, ?_⟩) (by assumption) ?_
                  rotate_left
                  · intro w hSw
                    try dsimp only at hSw
                    obtain ⟨t0, t1, t2⟩ := hSw
                    go_simp
                    all_goals with_reducible rfl
                  try simp only [Act.put, List.setIfInBounds_toArray, List.set_cons_zero, List.set_cons_succ, List.getElem_toArray, List.getElem_cons_zero, List.getElem_cons_succ]
                  refine wpAnyH_take (i := 5) (oi := _) (v := ?_) rfl (by kernel_rfl) (by kernel_rfl) (by kernel_rfl) (fun _ _ _ h => h) (Or.inl ⟨by rfl, ?_⟩) (by assumption) ?_
                  rotate_left
                  · intro w hSw
                    try dsimp only at hSw
                    obtain ⟨t0, t1, t2⟩ := hSw
                    go_simp
                    all_goals with_reducible rfl
                  try simp only [Act.put, List.setIfInBounds_toArray, List.set_cons_zero, List.set_cons_succ, List.getElem_toArray, List.getElem_cons_zero, List.getElem_cons_succ]
                  refine wpAnyH_take (i := 6) (oi := _) (v := ?_) rfl (by kernel_rfl) (by kernel_rfl) (by kernel_rfl) (fun _ _ _ h => h) (Or.inl ⟨by rfl, ?_⟩) (by assumption) ?_
                  rotate_left
                  · intro w hSw
                    try dsimp only at hSw
                    obtain ⟨t0, t1, t2⟩ := hSw
                    go_simp
                    all_goals with_reducible rfl
                  try simp only [Act.put, List.setIfInBounds_toArray, List.set_cons_zero, List.set_cons_succ, List.getElem_toArray, List.getElem_cons_zero, List.getElem_cons_succ]
                  refine wpAnyH_take (i := 7) (oi := _) (v := ?_) rfl (by kernel_rfl) (by kernel_rfl) (by kernel_rfl) (fun _ _ _ h => h) (Or.inl ⟨by rfl, ?_⟩) (by assumption) ?_
                  rotate_left
                  · intro w hSw
                    try dsimp only at hSw
                    obtain ⟨t0, t1, t2⟩ := hSw
                    go_simp
                    all_goals with_reducible rfl
                  try simp only [Act.put, List.setIfInBounds_toArray, List.set_cons_zero, List.set_cons_succ, List.getElem_toArray, List.getElem_cons_zero, List.getElem_cons_succ]
                  refine wpAnyH_take (i := 8) (oi := _) (v := ?_) rfl (by kernel_rfl) (by kernel_rfl) (by kernel_rfl) (fun _ _ _ h => h) (Or.inl ⟨by rfl, ?_⟩) (by assumption) ?_
                  rotate_left
                  · intro w hSw
                    try dsimp only at hSw
                    obtain ⟨t0, t1, t2⟩ := hSw
                    go_simp
                    all_goals with_reducible rfl
                  try simp only [Act.put, List.setIfInBounds_toArray, List.set_cons_zero, List.set_cons_succ, List.getElem_toArray, List.getElem_cons_zero, List.getElem_cons_succ]
                  refine wpAnyH_take (i := 9) (oi := _) (v := ?_) rfl (by kernel_rfl) (by kernel_rfl) (by kernel_rfl) (fun _ _ _ h => h) (Or.inl ⟨by rfl, ?_⟩) (by assumption) ?_
                  rotate_left
                  · intro w hSw
                    try dsimp only at hSw
                    obtain ⟨t0, t1, t2⟩ := hSw
                    go_simp
                    all_goals with_reducible rfl
                  try simp only [Act.put, List.setIfInBounds_toArray, List.set_cons_zero, List.set_cons_succ, List.getElem_toArray, List.getElem_cons_zero, List.getElem_cons_succ]
                  refine wpAnyH_ready (rs := [10, 14]) (by kernel_rfl) (by simp) ?_
                  refine AllReadyH.cons (o := _) rfl (fun KQ hKQ => ?_) (AllReadyH.cons (o := _) rfl (fun KQ hKQ => ?_) AllReadyH.nil)
                  · go_simp
                    go_at_call 76
                    refine (HU.out _).mono ?_
                    rintro e w7 ⟨rfl, hb7⟩
                    have HS7 := Lib.hid (HKS.out hb7 HS3.out)
                    have HQ7 := Lib.hid (HQ3.out.later hb7)
                    clear hb7 HU
                    go_simp
                    refine hKQ.out _ _ HS7.out (fun hHeld => ?_)
                    clear hKQ KQ
                    try simp only [Act.put, List.setIfInBounds_toArray, List.set_cons_zero, List.set_cons_succ, List.getElem_toArray, List.getElem_cons_zero, List.getElem_cons_succ]
                    refine wpAnyH_take (i := 11) (oi := _) (v := ?_) rfl (by kernel_rfl) (by kernel_rfl) (by kernel_rfl) (fun _ _ _ h => h) (Or.inl ⟨by rfl, ?_⟩) (by assumption) ?_
                    rotate_left
                    · intro w hSw
                      try dsimp only at hSw
                      obtain ⟨t0, t1, t2⟩ := hSw
                      go_simp
                      all_goals with_reducible rfl
                    try simp only [Act.put, List.setIfInBounds_toArray, List.set_cons_zero, List.set_cons_succ, List.getElem_toArray, List.getElem_cons_zero, List.getElem_cons_succ]
                    refine wpAnyH_take (i := 12) (oi := _) (v := ?_) rfl (by kernel_rfl) (by kernel_rfl) (by kernel_rfl) (fun _ _ _ h => h) (Or.inl ⟨by rfl, ?_⟩) (by assumption) ?_
                    rotate_left
                    · intro w hSw
                      try dsimp only at hSw
                      obtain ⟨t0, t1, t2⟩ := hSw
                      go_simp
                      all_goals with_reducible rfl
                    try simp only [Act.put, List.setIfInBounds_toArray, List.set_cons_zero, List.set_cons_succ, List.getElem_toArray, List.getElem_cons_zero, List.getElem_cons_succ]
                    refine wpAnyH_take (i := 13) (oi := _) (v := ?_) rfl (by kernel_rfl) (by kernel_rfl) (by kernel_rfl) (fun _ _ _ h => h) (Or.inl ⟨by rfl, ?_⟩) (by assumption) ?_
                    rotate_left
                    · intro w hSw
                      try dsimp only at hSw
                      obtain ⟨t0, t1, t2⟩ := hSw
                      go_simp
                      all_goals with_reducible rfl
                    try simp only [Act.put, List.setIfInBounds_toArray, List.set_cons_zero, List.set_cons_succ, List.getElem_toArray, List.getElem_cons_zero, List.getElem_cons_succ]
                    refine wpAnyH_ready (rs := [14]) (by kernel_rfl) (by simp) ?_
                    refine AllReadyH.cons (o := _) rfl (fun KQ hKQ => ?_) AllReadyH.nil
                    go_simp
                    refine hKQ.out _ _ (HKS.out (balloc (Below.refl _ _) _) HS7.out) (fun hHeld => ?_)
                    clear hKQ KQ
                    try simp only [Act.put, List.setIfInBounds_toArray, List.set_cons_zero, List.set_cons_succ, List.getElem_toArray, List.getElem_cons_zero, List.getElem_cons_succ]
                    refine wpAnyH_ready (rs := [15]) (by kernel_rfl) (by simp) ?_
                    refine AllReadyH.cons (o := _) rfl (fun KQ hKQ => ?_) AllReadyH.nil
                    go_simp
                    refine hKQ.out _ _ (HKS.out (balloc (Below.refl _ _) _) HS7.out) (fun hHeld => ?_)
                    clear hKQ KQ
                    try simp only [Act.put, List.setIfInBounds_toArray, List.set_cons_zero, List.set_cons_succ, List.getElem_toArray, List.getElem_cons_zero, List.getElem_cons_succ]
                    refine wpAnyH_take (i := 16) (oi := _) (v := ?_) rfl (by kernel_rfl) (by kernel_rfl) (by kernel_rfl) (fun _ _ _ h => h) (Or.inl ⟨by rfl, ?_⟩) (by assumption) ?_
                    rotate_left
                    · intro w hSw
                      try dsimp only at hSw
                      obtain ⟨t0, t1, t2⟩ := hSw
                      go_simp
                      all_goals with_reducible rfl
                    try simp only [Act.put, List.setIfInBounds_toArray, List.set_cons_zero, List.set_cons_succ, List.getElem_toArray, List.getElem_cons_zero, List.getElem_cons_succ]
                    refine wpAnyH_done (by kernel_rfl) ?_ _
                    go_wp2_with fail
                    go_meet
                    exact ⟨_, rfl, rfl, HQ7.out.later (balloc (Below.refl _ _) _), rc_al HQ7.out.be.size HQ7.out.v.lt⟩
                  · go_simp
                    refine hKQ.out _ _ (HKS.out (balloc (Below.refl _ _) _) HS3.out) (fun hHeld => ?_)
                    clear hKQ KQ
                    try simp only [Act.put, List.setIfInBounds_toArray, List.set_cons_zero, List.set_cons_succ, List.getElem_toArray, List.getElem_cons_zero, List.getElem_cons_succ]
                    refine wpAnyH_ready (rs := [10]) (by kernel_rfl) (by simp) ?_
                    refine AllReadyH.cons (o := _) rfl (fun KQ hKQ => ?_) AllReadyH.nil
                    go_simp
                    go_at_call 76
                    refine (HU.out _).mono ?_
                    rintro e w7 ⟨rfl, hb7⟩
                    have HS7 := Lib.hid (HKS.out (bthen (balloc (Below.refl _ _) _) hb7) HS3.out)
                    have HQ7 := Lib.hid (HQ3.out.later (bthen (balloc (Below.refl _ _) _) hb7))
                    have hr7 : RC w1 w7 q w6.heap.size 0 0 := by
                      have h1 := rc_al (n := 0) (M := 0) HQ3.out.be.size HQ3.out.v.lt
                      exact ⟨h1.lo, h1.ne, cell_later hb7 h1.c0, cell_later hb7 h1.c1⟩
                    have u0 := hr7.c0
                    have u1 := hr7.c1
                    have uf0 : w7.frozen? ⟨w6.heap.size, 0, none⟩ = false := (hb7.frozen (p := ⟨w6.heap.size, 0, none⟩) (by simp)).trans (by go_simp)
                    have uf1 : w7.frozen? ⟨w6.heap.size, 1, none⟩ = false := (hb7.frozen (p := ⟨w6.heap.size, 1, none⟩) (by simp)).trans (by go_simp)
                    have ul := World.block_lt_of_cell? _ _ u0
                    have HR7 := Lib.hid hr7
                    have nb : (w6.heap.size : Nat) ≠ b := by have := HLO3.out; omega
                    have nba : (w6.heap.size : Nat) ≠ ba := by have := HLO3.out; omega
                    have nq : (w6.heap.size : Nat) ≠ q := by have := HLO3.out; omega
                    clear hb7 HU hr7
                    go_simp
                    refine hKQ.out _ _ HS7.out (fun hHeld => ?_)
                    clear hKQ KQ
                    try simp only [Act.put, List.setIfInBounds_toArray, List.set_cons_zero, List.set_cons_succ, List.getElem_toArray, List.getElem_cons_zero, List.getElem_cons_succ]
                    refine wpAnyH_take (i := 11) (oi := _) (v := ?_) rfl (by kernel_rfl) (by kernel_rfl) (by kernel_rfl) (fun _ _ _ h => h) (Or.inl ⟨by rfl, ?_⟩) (by assumption) ?_
                    rotate_left
                    · intro w hSw
                      try dsimp only at hSw
                      obtain ⟨t0, t1, t2⟩ := hSw
                      go_simp
                      all_goals with_reducible rfl
                    try simp only [Act.put, List.setIfInBounds_toArray, List.set_cons_zero, List.set_cons_succ, List.getElem_toArray, List.getElem_cons_zero, List.getElem_cons_succ]
                    refine wpAnyH_take (i := 12) (oi := _) (v := ?_) rfl (by kernel_rfl) (by kernel_rfl) (by kernel_rfl) (fun _ _ _ h => h) (Or.inl ⟨by rfl, ?_⟩) (by assumption) ?_
                    rotate_left
                    · intro w hSw
                      try dsimp only at hSw
                      obtain ⟨t0, t1, t2⟩ := hSw
                      go_simp
                      all_goals with_reducible rfl
                    try simp only [Act.put, List.setIfInBounds_toArray, List.set_cons_zero, List.set_cons_succ, List.getElem_toArray, List.getElem_cons_zero, List.getElem_cons_succ]
                    refine wpAnyH_take (i := 13) (oi := _) (v := ?_) rfl (by kernel_rfl) (by kernel_rfl) (by kernel_rfl) (fun _ _ _ h => h) (Or.inl ⟨by rfl, ?_⟩) (by assumption) ?_
                    rotate_left
                    · intro w hSw
                      try dsimp only at hSw
                      obtain ⟨t0, t1, t2⟩ := hSw
                      go_simp
                      all_goals with_reducible rfl
                    try simp only [Act.put, List.setIfInBounds_toArray, List.set_cons_zero, List.set_cons_succ, List.getElem_toArray, List.getElem_cons_zero, List.getElem_cons_succ]
                    refine wpAnyH_ready (rs := [15]) (by kernel_rfl) (by simp) ?_
                    refine AllReadyH.cons (o := _) rfl (fun KQ hKQ => ?_) AllReadyH.nil
                    go_simp
                    refine hKQ.out _ _ ⟨(World.cell?_setCell_far _ _ _ _ (by simpa using nb)).trans ((World.cell?_setCell_far _ _ _ _ (by simpa using nb)).trans HS7.out.1), (World.cell?_setCell_far _ _ _ _ (by simpa using nq)).trans ((World.cell?_setCell_far _ _ _ _ (by simpa using nq)).trans HS7.out.2.1), (World.cell?_setCell_far _ _ _ _ (by simpa using nba)).trans ((World.cell?_setCell_far _ _ _ _ (by simpa using nba)).trans HS7.out.2.2)⟩ (fun hHeld => ?_)
                    clear hKQ KQ
                    try simp only [Act.put, List.setIfInBounds_toArray, List.set_cons_zero, List.set_cons_succ, List.getElem_toArray, List.getElem_cons_zero, List.getElem_cons_succ]
                    refine wpAnyH_take (i := 16) (oi := _) (v := ?_) rfl (by kernel_rfl) (by kernel_rfl) (by kernel_rfl) (fun _ _ _ h => h) (Or.inl ⟨by rfl, ?_⟩) (by assumption) ?_
                    rotate_left
                    · intro w hSw
                      try dsimp only at hSw
                      obtain ⟨t0, t1, t2⟩ := hSw
                      go_simp
                      all_goals with_reducible rfl
                    try simp only [Act.put, List.setIfInBounds_toArray, List.set_cons_zero, List.set_cons_succ, List.getElem_toArray, List.getElem_cons_zero, List.getElem_cons_succ]
                    refine wpAnyH_done (by kernel_rfl) ?_ _
                    go_wp2_with fail
                    go_meet
                    exact ⟨_, rfl, rfl, (HQ7.out.set_far HR7.out.lo HR7.out.ne _).set_far HR7.out.lo HR7.out.ne _, rc_put HR7.out.lo HR7.out.ne HR7.out.c0 HR7.out.c1⟩
                case rest =>
                  obtain ⟨r, rfl, rfl, hq4, hr4⟩ := hcut
                  have HQ4 := Lib.hid hq4
                  have HR4 := Lib.hid hr4
                  clear hq4 hr4 HU HS3 HKS HQ3 HLO3 hq1 hq2
                  have HL4 := Lib.hid (HL1.out.later HQ4.out.be)
                  obtain ⟨gd, hgd⟩ : ∃ gd, gd = (⟨i, s, k⟩ : Cand).good h.ar := ⟨_, rfl⟩
                  have HGD : Hid (gd = (unOk x && ((sizeP (unN x) == s.size) && (pageP (unN x) == s.pages)))) := by show _ = _; rw [hgd]; unfold Cand.good fits; rw [HWD.out]
                  have HGG := Lib.hid hgd
                  have HQP : Hid (q ≠ p ∧ r ≠ q ∧ r ≠ p) := ⟨by have := HQ4.out.lo; have := HPL.out; omega, HR4.out.ne, by have := HR4.out.lo; have := HPL.out; omega⟩
                  have HS4 : Hid (VarS wc.drew p ⟨s.first, (pg : Int), (sz : Int), ⟨(K : Int), A1, m, ca⟩, ⟨s.ma.n, A2, m', cb⟩, s.sw⟩ ∧ wc.drew.cell? ⟨r, 0, none⟩ = some (.int .i64 (n : Int)) ∧ wc.drew.cell? ⟨r, 1, none⟩ = some (.int .u64 M)) :=
                    ⟨HL4.out.vp.below (Below.refl _ _).drew, cell_later (Below.refl _ _).drew HR4.out.c0, cell_later (Below.refl _ _).drew HR4.out.c1⟩
                  have HQ5 := Lib.hid (HQ4.out.later (Below.refl wc.heap.size wc).drew)
                  have CF : Hid (∀ W, Calls Tryz.prog 77 #[.agg #[.int .i64 (n : Int), .int .u64 M], .agg #[.int .i64 s.first, .int .i64 (pg : Int), .int .i64 (sz : Int), .int .i64 (K : Int), .slice A1 m ca, .int .i64 s.ma.n, .slice A2 m' cb, .bool s.sw]] W (Ret (.bool ((sizeP n == (sz : Int)) && (pageP n == (pg : Int)))) W)) := fun W => fits77 n M ⟨s.first, pg, sz, ⟨K, A1, m, ca⟩, ⟨s.ma.n, A2, m', cb⟩, s.sw⟩ W HNN.out.2
                  have HFT : Hid (unOk x = true → ((sizeP n == (sz : Int)) && (pageP n == (pg : Int))) = gd) := by
                    intro hu
                    have e1 : unN x = (n : Int) := by have := HNN.out.1; unfold unpN at this; rwa [if_pos hu] at this
                    rw [HGD.out, hu, e1, HSZ.out.1, HSZ.out.2.1]
                    rfl
                  have HFN : Hid (unOk x = false → gd = false) := by intro hu; rw [HGD.out, hu]; rfl
                  generalize ((sizeP n == (sz : Int)) && (pageP n == (pg : Int))) = ft at CF HFT
                  clear hgd HL4
                  go_upto_region 11 with fail
                  go_cut [] (fun wx => QC w1 wx q ⟨i, k, at_, RM, (n : Int), M, false, gd⟩)
                  case first =>
                    refine wp_region_held_drew (S := fun W => VarS W p ⟨s.first, (pg : Int), (sz : Int), ⟨(K : Int), A1, m, ca⟩, ⟨s.ma.n, A2, m', cb⟩, s.sw⟩ ∧ W.cell? ⟨r, 0, none⟩ = some (.int .i64 (n : Int)) ∧ W.cell? ⟨r, 1, none⟩ = some (.int .u64 M)) (by kernel_rfl) HS4.out (fun hHeld => ?_)
                    generalize wc.drew = w6 at *
                    by_cases hu : unOk x = true
                    · have hE0 : E = 0 := by rw [HME.out.2]; unfold unpE; rw [if_pos hu]
                      subst hE0
                      have HGE := Lib.hid (HFT.out hu)
                      clear hu HFT HFN
                      refine wpAnyH_take (i := 0) (oi := _) (v := ?_) rfl (by kernel_rfl) (by kernel_rfl) (by kernel_rfl) (fun _ _ _ h => h) (Or.inl ⟨by rfl, ?_⟩) (by assumption) ?_
                      rotate_left
                      · intro w hSw
                        try dsimp only at hSw
                        obtain ⟨tv, t8, t9⟩ := hSw
                        obtain ⟨t0, t1, t2, t3, t4, t5, t6, t7⟩ := tv
                        simp only at t0 t1 t2 t3 t4 t5 t6 t7
                        go_simp
                        all_goals with_reducible rfl
                      try simp only [Act.put, List.setIfInBounds_toArray, List.set_cons_zero, List.set_cons_succ, List.getElem_toArray, List.getElem_cons_zero, List.getElem_cons_succ]
                      refine wpAnyH_take (i := 1) (oi := _) (v := ?_) rfl (by kernel_rfl) (by kernel_rfl) (by kernel_rfl) (fun _ _ _ h => h) (Or.inl ⟨by rfl, ?_⟩) (by assumption) ?_
                      rotate_left
                      · intro w hSw
                        try dsimp only at hSw
                        obtain ⟨tv, t8, t9⟩ := hSw
                        obtain ⟨t0, t1, t2, t3, t4, t5, t6, t7⟩ := tv
                        simp only at t0 t1 t2 t3 t4 t5 t6 t7
                        go_simp
                        all_goals with_reducible rfl
                      try simp only [Act.put, List.setIfInBounds_toArray, List.set_cons_zero, List.set_cons_succ, List.getElem_toArray, List.getElem_cons_zero, List.getElem_cons_succ]
                      refine wpAnyH_take (i := 2) (oi := _) (v := ?_) rfl (by kernel_rfl) (by kernel_rfl) (by kernel_rfl) (fun _ _ _ h => h) (Or.inl ⟨by rfl, ?_⟩) (by assumption) ?_
                      rotate_left
                      · intro w hSw
                        try dsimp only at hSw
                        obtain ⟨tv, t8, t9⟩ := hSw
                        obtain ⟨t0, t1, t2, t3, t4, t5, t6, t7⟩ := tv
                        simp only at t0 t1 t2 t3 t4 t5 t6 t7
                        go_simp
                        all_goals with_reducible rfl
                      try simp only [Act.put, List.setIfInBounds_toArray, List.set_cons_zero, List.set_cons_succ, List.getElem_toArray, List.getElem_cons_zero, List.getElem_cons_succ]
                      refine wpAnyH_take (i := 3) (oi := _) (v := ?_) rfl (by kernel_rfl) (by kernel_rfl) (by kernel_rfl) (fun _ _ _ h => h) (Or.inl ⟨by rfl, ?_⟩) (by assumption) ?_
                      rotate_left
                      · intro w hSw
                        try dsimp only at hSw
                        obtain ⟨tv, t8, t9⟩ := hSw
                        obtain ⟨t0, t1, t2, t3, t4, t5, t6, t7⟩ := tv
                        simp only at t0 t1 t2 t3 t4 t5 t6 t7
                        go_simp
                        all_goals with_reducible rfl
                      try simp only [Act.put, List.setIfInBounds_toArray, List.set_cons_zero, List.set_cons_succ, List.getElem_toArray, List.getElem_cons_zero, List.getElem_cons_succ]
                      refine wpAnyH_take (i := 4) (oi := _) (v := ?_) rfl (by kernel_rfl) (by kernel_rfl) (by kernel_rfl) (fun _ _ _ h => h) (Or.inl ⟨by rfl, ?_⟩) (by assumption) ?_
                      rotate_left
                      · intro w hSw
                        try dsimp only at hSw
                        obtain ⟨tv, t8, t9⟩ := hSw
                        obtain ⟨t0, t1, t2, t3, t4, t5, t6, t7⟩ := tv
                        simp only at t0 t1 t2 t3 t4 t5 t6 t7
                        go_simp
                        all_goals with_reducible rfl
                      try simp only [Act.put, List.setIfInBounds_toArray, List.set_cons_zero, List.set_cons_succ, List.getElem_toArray, List.getElem_cons_zero, List.getElem_cons_succ]
                      refine wpAnyH_take (i := 5) (oi := _) (v := ?_) rfl (by kernel_rfl) (by kernel_rfl) (by kernel_rfl) (fun _ _ _ h => h) (Or.inl ⟨by rfl, ?_⟩) (by assumption) ?_
                      rotate_left
                      · intro w hSw
                        try dsimp only at hSw
                        obtain ⟨tv, t8, t9⟩ := hSw
                        obtain ⟨t0, t1, t2, t3, t4, t5, t6, t7⟩ := tv
                        simp only at t0 t1 t2 t3 t4 t5 t6 t7
                        go_simp
                        all_goals with_reducible rfl
                      try simp only [Act.put, List.setIfInBounds_toArray, List.set_cons_zero, List.set_cons_succ, List.getElem_toArray, List.getElem_cons_zero, List.getElem_cons_succ]
                      refine wpAnyH_take (i := 8) (oi := _) (v := ?_) rfl (by kernel_rfl) (by kernel_rfl) (by kernel_rfl) (fun _ _ _ h => h) (Or.inl ⟨by rfl, ?_⟩) (by assumption) ?_
                      rotate_left
                      · intro w hSw
                        try dsimp only at hSw
                        obtain ⟨tv, t8, t9⟩ := hSw
                        obtain ⟨t0, t1, t2, t3, t4, t5, t6, t7⟩ := tv
                        simp only at t0 t1 t2 t3 t4 t5 t6 t7
                        go_simp
                        all_goals with_reducible rfl
                      try simp only [Act.put, List.setIfInBounds_toArray, List.set_cons_zero, List.set_cons_succ, List.getElem_toArray, List.getElem_cons_zero, List.getElem_cons_succ]
                      refine wpAnyH_ready (rs := [6]) (by kernel_rfl) (by simp) ?_
                      refine AllReadyH.cons (o := _) rfl (fun KQ hKQ => ?_) AllReadyH.nil
                      go_simp
                      go_at_call 77
                      refine (CF.out _).mono ?_
                      rintro e w7 ⟨rfl, hb7⟩
                      rw [HGE.out]
                      have HQ7 := Lib.hid (HQ5.out.later hb7)
                      have HS7 : Hid (VarS w7 p ⟨s.first, (pg : Int), (sz : Int), ⟨(K : Int), A1, m, ca⟩, ⟨s.ma.n, A2, m', cb⟩, s.sw⟩ ∧ w7.cell? ⟨r, 0, none⟩ = some (.int .i64 (n : Int)) ∧ w7.cell? ⟨r, 1, none⟩ = some (.int .u64 M)) := ⟨HS4.out.1.below hb7, cell_later hb7 HS4.out.2.1, cell_later hb7 HS4.out.2.2⟩
                      clear hb7 CF HS4
                      go_simp
                      refine hKQ.out _ _ HS7.out (fun hHeld => ?_)
                      clear hKQ KQ
                      try simp only [Act.put, List.setIfInBounds_toArray, List.set_cons_zero, List.set_cons_succ, List.getElem_toArray, List.getElem_cons_zero, List.getElem_cons_succ]
                      refine wpAnyH_take (i := 7) (oi := _) (v := ?_) rfl (by kernel_rfl) (by kernel_rfl) (by kernel_rfl) (fun _ _ _ h => h) (Or.inl ⟨by rfl, ?_⟩) (by assumption) ?_
                      rotate_left
                      · intro w hSw
                        try dsimp only at hSw
                        obtain ⟨tv, t8, t9⟩ := hSw
                        obtain ⟨t0, t1, t2, t3, t4, t5, t6, t7⟩ := tv
                        simp only at t0 t1 t2 t3 t4 t5 t6 t7
                        go_simp
                        all_goals with_reducible rfl
                      try simp only [Act.put, List.setIfInBounds_toArray, List.set_cons_zero, List.set_cons_succ, List.getElem_toArray, List.getElem_cons_zero, List.getElem_cons_succ]
                      have x4 := HQ7.out.v.c4
                      have x5 := HQ7.out.v.c5
                      have xf4 := HQ7.out.v.fr 4 (by omega)
                      have xf5 := HQ7.out.v.fr 5 (by omega)
                      have xl := HQ7.out.v.lt
                      simp only at x4 x5
                      refine wpAnyH_ready (rs := [9]) (by kernel_rfl) (by simp) ?_
                      refine AllReadyH.cons (o := _) rfl (fun KQ hKQ => ?_) AllReadyH.nil
                      go_simp
                      have hqp := HQP.out.1
                      have hrq := HQP.out.2.1
                      refine hKQ.out _ _ ⟨(HS7.out.1.set_ne (p := ⟨q, 4, none⟩) hqp _).set_ne (p := ⟨q, 5, none⟩) hqp _, (World.cell?_setCell_far _ _ _ _ (by simpa using fun e => hrq e.symm)).trans ((World.cell?_setCell_far _ _ _ _ (by simpa using fun e => hrq e.symm)).trans HS7.out.2.1), (World.cell?_setCell_far _ _ _ _ (by simpa using fun e => hrq e.symm)).trans ((World.cell?_setCell_far _ _ _ _ (by simpa using fun e => hrq e.symm)).trans HS7.out.2.2)⟩ (fun hHeld => ?_)
                      clear hKQ KQ
                      try simp only [Act.put, List.setIfInBounds_toArray, List.set_cons_zero, List.set_cons_succ, List.getElem_toArray, List.getElem_cons_zero, List.getElem_cons_succ]
                      refine wpAnyH_take (i := 10) (oi := _) (v := ?_) rfl (by kernel_rfl) (by kernel_rfl) (by kernel_rfl) (fun _ _ _ h => h) (Or.inl ⟨by rfl, ?_⟩) (by assumption) ?_
                      rotate_left
                      · intro w hSw
                        try dsimp only at hSw
                        obtain ⟨tv, t8, t9⟩ := hSw
                        obtain ⟨t0, t1, t2, t3, t4, t5, t6, t7⟩ := tv
                        simp only at t0 t1 t2 t3 t4 t5 t6 t7
                        go_simp
                        all_goals with_reducible rfl
                      try simp only [Act.put, List.setIfInBounds_toArray, List.set_cons_zero, List.set_cons_succ, List.getElem_toArray, List.getElem_cons_zero, List.getElem_cons_succ]
                      clear x4 x5 xf4 xf5
                      have x7 : ((w7.setCell ⟨q, 4, none⟩ (.int .i64 (n : Int))).setCell ⟨q, 5, none⟩ (.int .u64 M)).cell? ⟨q, 7, none⟩ = some (.bool false) := by
                        rw [World.cell?_setCell_other (h := fun e => by simp at e), World.cell?_setCell_other (h := fun e => by simp at e)]
                        exact HQ7.out.v.c7
                      have xf7 : ((w7.setCell ⟨q, 4, none⟩ (.int .i64 (n : Int))).setCell ⟨q, 5, none⟩ (.int .u64 M)).frozen? ⟨q, 7, none⟩ = false := by
                        rw [World.frozen?_setCell, World.frozen?_setCell]
                        exact HQ7.out.v.fr 7 (by omega)
                      refine wpAnyH_ready (rs := [11]) (by kernel_rfl) (by simp) ?_
                      refine AllReadyH.cons (o := _) rfl (fun KQ hKQ => ?_) AllReadyH.nil
                      go_simp
                      refine hKQ.out _ _ ⟨((HS7.out.1.set_ne (p := ⟨q, 4, none⟩) hqp _).set_ne (p := ⟨q, 5, none⟩) hqp _).set_ne (p := ⟨q, 7, none⟩) hqp _, (World.cell?_setCell_far _ _ _ _ (by simpa using fun e => hrq e.symm)).trans ((World.cell?_setCell_far _ _ _ _ (by simpa using fun e => hrq e.symm)).trans ((World.cell?_setCell_far _ _ _ _ (by simpa using fun e => hrq e.symm)).trans HS7.out.2.1)), (World.cell?_setCell_far _ _ _ _ (by simpa using fun e => hrq e.symm)).trans ((World.cell?_setCell_far _ _ _ _ (by simpa using fun e => hrq e.symm)).trans ((World.cell?_setCell_far _ _ _ _ (by simpa using fun e => hrq e.symm)).trans HS7.out.2.2))⟩ (fun hHeld => ?_)
                      clear hKQ KQ
                      try simp only [Act.put, List.setIfInBounds_toArray, List.set_cons_zero, List.set_cons_succ, List.getElem_toArray, List.getElem_cons_zero, List.getElem_cons_succ]
                      refine wpAnyH_done (by kernel_rfl) ?_ _
                      go_wp2_with fail
                      go_meet
                      exact HQ7.out.good (n : Int) M _
                    · have hu2 : unOk x = false := by simpa using hu
                      have hE0 : E = 2 := by rw [HME.out.2]; unfold unpE; rw [if_neg hu]
                      have HGE := Lib.hid (HFN.out hu2)
                      subst hE0
                      have HG0 := HGE.out
                      subst HG0
                      have HQ7 := HQ5
                      have HS7 := HS4
                      clear hu hu2 HFT HFN CF
                      refine wpAnyH_take (i := 0) (oi := _) (v := ?_) rfl (by kernel_rfl) (by kernel_rfl) (by kernel_rfl) (fun _ _ _ h => h) (Or.inl ⟨by rfl, ?_⟩) (by assumption) ?_
                      rotate_left
                      · intro w hSw
                        try dsimp only at hSw
                        obtain ⟨tv, t8, t9⟩ := hSw
                        obtain ⟨t0, t1, t2, t3, t4, t5, t6, t7⟩ := tv
                        simp only at t0 t1 t2 t3 t4 t5 t6 t7
                        go_simp
                        all_goals with_reducible rfl
                      try simp only [Act.put, List.setIfInBounds_toArray, List.set_cons_zero, List.set_cons_succ, List.getElem_toArray, List.getElem_cons_zero, List.getElem_cons_succ]
                      refine wpAnyH_take (i := 1) (oi := _) (v := ?_) rfl (by kernel_rfl) (by kernel_rfl) (by kernel_rfl) (fun _ _ _ h => h) (Or.inl ⟨by rfl, ?_⟩) (by assumption) ?_
                      rotate_left
                      · intro w hSw
                        try dsimp only at hSw
                        obtain ⟨tv, t8, t9⟩ := hSw
                        obtain ⟨t0, t1, t2, t3, t4, t5, t6, t7⟩ := tv
                        simp only at t0 t1 t2 t3 t4 t5 t6 t7
                        go_simp
                        all_goals with_reducible rfl
                      try simp only [Act.put, List.setIfInBounds_toArray, List.set_cons_zero, List.set_cons_succ, List.getElem_toArray, List.getElem_cons_zero, List.getElem_cons_succ]
                      refine wpAnyH_take (i := 2) (oi := _) (v := ?_) rfl (by kernel_rfl) (by kernel_rfl) (by kernel_rfl) (fun _ _ _ h => h) (Or.inl ⟨by rfl, ?_⟩) (by assumption) ?_
                      rotate_left
                      · intro w hSw
                        try dsimp only at hSw
                        obtain ⟨tv, t8, t9⟩ := hSw
                        obtain ⟨t0, t1, t2, t3, t4, t5, t6, t7⟩ := tv
                        simp only at t0 t1 t2 t3 t4 t5 t6 t7
                        go_simp
                        all_goals with_reducible rfl
                      try simp only [Act.put, List.setIfInBounds_toArray, List.set_cons_zero, List.set_cons_succ, List.getElem_toArray, List.getElem_cons_zero, List.getElem_cons_succ]
                      refine wpAnyH_take (i := 3) (oi := _) (v := ?_) rfl (by kernel_rfl) (by kernel_rfl) (by kernel_rfl) (fun _ _ _ h => h) (Or.inl ⟨by rfl, ?_⟩) (by assumption) ?_
                      rotate_left
                      · intro w hSw
                        try dsimp only at hSw
                        obtain ⟨tv, t8, t9⟩ := hSw
                        obtain ⟨t0, t1, t2, t3, t4, t5, t6, t7⟩ := tv
                        simp only at t0 t1 t2 t3 t4 t5 t6 t7
                        go_simp
                        all_goals with_reducible rfl
                      try simp only [Act.put, List.setIfInBounds_toArray, List.set_cons_zero, List.set_cons_succ, List.getElem_toArray, List.getElem_cons_zero, List.getElem_cons_succ]
                      refine wpAnyH_take (i := 4) (oi := _) (v := undef) rfl (by kernel_rfl) (by kernel_rfl) (by kernel_rfl) (fun _ _ _ h => h) (Or.inr ⟨by rfl, rfl⟩) (by assumption) ?_
                      try simp only [Act.put, List.setIfInBounds_toArray, List.set_cons_zero, List.set_cons_succ, List.getElem_toArray, List.getElem_cons_zero, List.getElem_cons_succ]
                      refine wpAnyH_take (i := 5) (oi := _) (v := undef) rfl (by kernel_rfl) (by kernel_rfl) (by kernel_rfl) (fun _ _ _ h => h) (Or.inr ⟨by rfl, rfl⟩) (by assumption) ?_
                      try simp only [Act.put, List.setIfInBounds_toArray, List.set_cons_zero, List.set_cons_succ, List.getElem_toArray, List.getElem_cons_zero, List.getElem_cons_succ]
                      refine wpAnyH_take (i := 6) (oi := _) (v := undef) rfl (by kernel_rfl) (by kernel_rfl) (by kernel_rfl) (fun _ _ _ h => h) (Or.inr ⟨by rfl, rfl⟩) (by assumption) ?_
                      try simp only [Act.put, List.setIfInBounds_toArray, List.set_cons_zero, List.set_cons_succ, List.getElem_toArray, List.getElem_cons_zero, List.getElem_cons_succ]
                      refine wpAnyH_take (i := 7) (oi := _) (v := ?_) rfl (by kernel_rfl) (by kernel_rfl) (by kernel_rfl) (fun _ _ _ h => h) (Or.inl ⟨by rfl, ?_⟩) (by assumption) ?_
                      rotate_left
                      · intro w hSw
                        try dsimp only at hSw
                        obtain ⟨tv, t8, t9⟩ := hSw
                        obtain ⟨t0, t1, t2, t3, t4, t5, t6, t7⟩ := tv
                        simp only at t0 t1 t2 t3 t4 t5 t6 t7
                        go_simp
                        all_goals with_reducible rfl
                      try simp only [Act.put, List.setIfInBounds_toArray, List.set_cons_zero, List.set_cons_succ, List.getElem_toArray, List.getElem_cons_zero, List.getElem_cons_succ]
                      refine wpAnyH_take (i := 8) (oi := _) (v := ?_) rfl (by kernel_rfl) (by kernel_rfl) (by kernel_rfl) (fun _ _ _ h => h) (Or.inl ⟨by rfl, ?_⟩) (by assumption) ?_
                      rotate_left
                      · intro w hSw
                        try dsimp only at hSw
                        obtain ⟨tv, t8, t9⟩ := hSw
                        obtain ⟨t0, t1, t2, t3, t4, t5, t6, t7⟩ := tv
                        simp only at t0 t1 t2 t3 t4 t5 t6 t7
                        go_simp
                        all_goals with_reducible rfl
                      try simp only [Act.put, List.setIfInBounds_toArray, List.set_cons_zero, List.set_cons_succ, List.getElem_toArray, List.getElem_cons_zero, List.getElem_cons_succ]
                      have x4 := HQ7.out.v.c4
                      have x5 := HQ7.out.v.c5
                      have xf4 := HQ7.out.v.fr 4 (by omega)
                      have xf5 := HQ7.out.v.fr 5 (by omega)
                      have xl := HQ7.out.v.lt
                      simp only at x4 x5
                      refine wpAnyH_ready (rs := [9]) (by kernel_rfl) (by simp) ?_
                      refine AllReadyH.cons (o := _) rfl (fun KQ hKQ => ?_) AllReadyH.nil
                      go_simp
                      have hqp := HQP.out.1
                      have hrq := HQP.out.2.1
                      refine hKQ.out _ _ ⟨(HS7.out.1.set_ne (p := ⟨q, 4, none⟩) hqp _).set_ne (p := ⟨q, 5, none⟩) hqp _, (World.cell?_setCell_far _ _ _ _ (by simpa using fun e => hrq e.symm)).trans ((World.cell?_setCell_far _ _ _ _ (by simpa using fun e => hrq e.symm)).trans HS7.out.2.1), (World.cell?_setCell_far _ _ _ _ (by simpa using fun e => hrq e.symm)).trans ((World.cell?_setCell_far _ _ _ _ (by simpa using fun e => hrq e.symm)).trans HS7.out.2.2)⟩ (fun hHeld => ?_)
                      clear hKQ KQ
                      try simp only [Act.put, List.setIfInBounds_toArray, List.set_cons_zero, List.set_cons_succ, List.getElem_toArray, List.getElem_cons_zero, List.getElem_cons_succ]
                      refine wpAnyH_take (i := 10) (oi := _) (v := ?_) rfl (by kernel_rfl) (by kernel_rfl) (by kernel_rfl) (fun _ _ _ h => h) (Or.inl ⟨by rfl, ?_⟩) (by assumption) ?_
                      rotate_left
                      · intro w hSw
                        try dsimp only at hSw
                        obtain ⟨tv, t8, t9⟩ := hSw
                        obtain ⟨t0, t1, t2, t3, t4, t5, t6, t7⟩ := tv
                        simp only at t0 t1 t2 t3 t4 t5 t6 t7
                        go_simp
                        all_goals with_reducible rfl
                      try simp only [Act.put, List.setIfInBounds_toArray, List.set_cons_zero, List.set_cons_succ, List.getElem_toArray, List.getElem_cons_zero, List.getElem_cons_succ]
                      clear x4 x5 xf4 xf5
                      have x7 : ((w6.setCell ⟨q, 4, none⟩ (.int .i64 (n : Int))).setCell ⟨q, 5, none⟩ (.int .u64 M)).cell? ⟨q, 7, none⟩ = some (.bool false) := by
                        rw [World.cell?_setCell_other (h := fun e => by simp at e), World.cell?_setCell_other (h := fun e => by simp at e)]
                        exact HQ7.out.v.c7
                      have xf7 : ((w6.setCell ⟨q, 4, none⟩ (.int .i64 (n : Int))).setCell ⟨q, 5, none⟩ (.int .u64 M)).frozen? ⟨q, 7, none⟩ = false := by
                        rw [World.frozen?_setCell, World.frozen?_setCell]
                        exact HQ7.out.v.fr 7 (by omega)
                      refine wpAnyH_ready (rs := [11]) (by kernel_rfl) (by simp) ?_
                      refine AllReadyH.cons (o := _) rfl (fun KQ hKQ => ?_) AllReadyH.nil
                      go_simp
                      refine hKQ.out _ _ ⟨((HS7.out.1.set_ne (p := ⟨q, 4, none⟩) hqp _).set_ne (p := ⟨q, 5, none⟩) hqp _).set_ne (p := ⟨q, 7, none⟩) hqp _, (World.cell?_setCell_far _ _ _ _ (by simpa using fun e => hrq e.symm)).trans ((World.cell?_setCell_far _ _ _ _ (by simpa using fun e => hrq e.symm)).trans ((World.cell?_setCell_far _ _ _ _ (by simpa using fun e => hrq e.symm)).trans HS7.out.2.1)), (World.cell?_setCell_far _ _ _ _ (by simpa using fun e => hrq e.symm)).trans ((World.cell?_setCell_far _ _ _ _ (by simpa using fun e => hrq e.symm)).trans ((World.cell?_setCell_far _ _ _ _ (by simpa using fun e => hrq e.symm)).trans HS7.out.2.2))⟩ (fun hHeld => ?_)
                      clear hKQ KQ
                      try simp only [Act.put, List.setIfInBounds_toArray, List.set_cons_zero, List.set_cons_succ, List.getElem_toArray, List.getElem_cons_zero, List.getElem_cons_succ]
                      refine wpAnyH_done (by kernel_rfl) ?_ _
                      go_wp2_with fail
                      go_meet
                      exact HQ7.out.good (n : Int) M _
                  case rest =>
                    have HQ6 := Lib.hid hcut
                    clear hcut HQ5 HS4 CF HFT HFN HQ4 HR4
                    have HL6 := Lib.hid (HL1.out.later HQ6.out.be)
                    obtain ⟨cu, hcu⟩ : ∃ cu, cu = (⟨i, s, k⟩ : Cand).cur := ⟨_, rfl⟩
                    have HCU : Hid (cu = (s.sw || bitP s.ma k)) := hcu
                    have hml : k / 64 < s.ma.w.length := by
                      have h0 := rightP_parts HRP.out
                      have h1 := okB_parts h0.2.2.2.2.1
                      have h2 := HKN.out
                      have h3 := h0.2.2.2.2.2.1
                      have h4 := h0.2.2.2.2.2.2.1
                      omega
                    have HIM : Hid (∀ W, Below w0.heap.size w0 W → Calls Tryz.prog 51 #[.agg #[.int .i64 s.ma.n, .slice A2 m' cb], .int .i64 (k : Int)] W (Ret (.bool (bitP s.ma k)) W)) := fun W hW => is50 ⟨s.ma.n, A2, m', cb⟩ s.ma k W (HRN.out.ma.below hW) hml (by have := HKN.out; omega)
                    have HVO : Hid ((⟨i, k, at_, RM, (n : Int), M, cu, gd⟩ : VObj) = Cand.vobj h.ar ⟨i, s, k⟩) := by
                      show _ = _
                      unfold Cand.vobj
                      rw [HWD.out, ← HNN.out.1.symm, HME.out.1, hcu, HGG.out, HA_.out, HRM.out.1]
                    have v5 := HL6.out.vp.c5
                    have v6 := HL6.out.vp.c6
                    have v7 := HL6.out.vp.c7
                    simp only at v5 v6 v7
                    have x6 := HQ6.out.v.c6
                    have xf6 := HQ6.out.v.fr 6 (by omega)
                    have xl := HQ6.out.v.lt
                    simp only at x6
                    clear hcu hml
                    go_upto_region 12 with fail
                    go_cut [] (fun wx => QC w1 wx q ⟨i, k, at_, RM, (n : Int), M, cu, gd⟩)
                    case first =>
                      by_cases hsw : s.sw = true
                      · rw [hsw] at v7
                        have hcv : cu = true := by rw [HCU.out, hsw]; rfl
                        subst hcv
                        clear hsw
                        go_wp2_with fail
                        go_meet
                        exact HQ6.out.cur true
                      · have hsw2 : s.sw = false := by simpa using hsw
                        rw [hsw2] at v7
                        have HCV : Hid (bitP s.ma k = cu) := by show _ = _; rw [HCU.out, hsw2]; rfl
                        have HIM2 := Lib.hid (HIM.out wc HL6.out.s.lo)
                        rw [HCV.out] at HIM2
                        clear hsw hsw2 HIM
                        go_wp2_with (go_at_call 51; refine HIM2.out.mono ?_)
                        rintro e w8 ⟨rfl, hb8⟩
                        have HQ8 := Lib.hid (HQ6.out.later hb8)
                        clear x6 xf6 xl v5 v6 v7 hb8 HIM2
                        have x6 := HQ8.out.v.c6
                        have xf6 := HQ8.out.v.fr 6 (by omega)
                        have xl := HQ8.out.v.lt
                        simp only at x6
                        go_wp2_with fail
                        go_meet
                        exact HQ8.out.cur cu
                    case rest =>
                      have HQ7 := Lib.hid hcut
                      clear hcut HQ6 HL6 v5 v6 v7 x6 xf6 xl HIM
                      have HL7 := Lib.hid (HL1.out.later (HQ7.out.be.trans ((Below.refl wc.heap.size wc).drew.mono HQ7.out.be.size)))
                      have HV7 := Lib.hid (HQ7.out.v.below (Below.refl wc.heap.size wc).drew)
                      have HQB : Hid (q ≠ b ∧ (Value.slice OA OS.length oc).ownBlock ≠ some q) := ⟨by have := HQ7.out.lo; have := HL1.out.s.lt; omega, fun e => by have := (World.ownsRow.lt HL1.out.s.oo _ e).2; have := HQ7.out.lo; omega⟩
                      have b5 := HL7.out.s.st.c5
                      go_upto_region 13 with fail
                      go_cut [] (fun wx => ∃ OA' oc', ColS w0 w wx b ⟨some ⟨ba, oa, none⟩, h.ar.length, aC, ub, some ⟨bk, oo, none⟩, h.sp.length, sC, vs⟩ FS FA fc (OS ++ [(⟨i, k, at_, RM, (n : Int), M, cu, gd⟩ : VObj)]) OA' oc' p ⟨s.first, (pg : Int), (sz : Int), ⟨(K : Int), A1, m, ca⟩, ⟨s.ma.n, A2, m', cb⟩, s.sw⟩ ∧ VarQ wx q ⟨i, k, at_, RM, (n : Int), M, cu, gd⟩)
                      case first =>
                        refine wp_region_held_drew (S := fun W => VarQ W q ⟨i, k, at_, RM, (n : Int), M, cu, gd⟩) (by kernel_rfl) HV7.out (fun hHeld => ?_)
                        generalize wc.drew = w6 at *
                        refine wpAnyH_take (i := 0) (oi := _) (v := ?_) rfl (by kernel_rfl) (by kernel_rfl) (by kernel_rfl) (fun _ _ _ h => h) (Or.inl ⟨by rfl, ?_⟩) (by assumption) ?_
                        rotate_left
                        · intro w hSw
                          try dsimp only at hSw
                          obtain ⟨t0, t1, t2, t3, t4, t5, t6, t7, tf⟩ := hSw
                          clear tf
                          simp only at t0 t1 t2 t3 t4 t5 t6 t7
                          go_simp
                          all_goals with_reducible rfl
                        try simp only [Act.put, List.setIfInBounds_toArray, List.set_cons_zero, List.set_cons_succ, List.getElem_toArray, List.getElem_cons_zero, List.getElem_cons_succ]
                        refine wpAnyH_take (i := 1) (oi := _) (v := ?_) rfl (by kernel_rfl) (by kernel_rfl) (by kernel_rfl) (fun _ _ _ h => h) (Or.inl ⟨by rfl, ?_⟩) (by assumption) ?_
                        rotate_left
                        · intro w hSw
                          try dsimp only at hSw
                          obtain ⟨t0, t1, t2, t3, t4, t5, t6, t7, tf⟩ := hSw
                          clear tf
                          simp only at t0 t1 t2 t3 t4 t5 t6 t7
                          go_simp
                          all_goals with_reducible rfl
                        try simp only [Act.put, List.setIfInBounds_toArray, List.set_cons_zero, List.set_cons_succ, List.getElem_toArray, List.getElem_cons_zero, List.getElem_cons_succ]
                        refine wpAnyH_take (i := 2) (oi := _) (v := ?_) rfl (by kernel_rfl) (by kernel_rfl) (by kernel_rfl) (fun _ _ _ h => h) (Or.inl ⟨by rfl, ?_⟩) (by assumption) ?_
                        rotate_left
                        · intro w hSw
                          try dsimp only at hSw
                          obtain ⟨t0, t1, t2, t3, t4, t5, t6, t7, tf⟩ := hSw
                          clear tf
                          simp only at t0 t1 t2 t3 t4 t5 t6 t7
                          go_simp
                          all_goals with_reducible rfl
                        try simp only [Act.put, List.setIfInBounds_toArray, List.set_cons_zero, List.set_cons_succ, List.getElem_toArray, List.getElem_cons_zero, List.getElem_cons_succ]
                        refine wpAnyH_take (i := 3) (oi := _) (v := ?_) rfl (by kernel_rfl) (by kernel_rfl) (by kernel_rfl) (fun _ _ _ h => h) (Or.inl ⟨by rfl, ?_⟩) (by assumption) ?_
                        rotate_left
                        · intro w hSw
                          try dsimp only at hSw
                          obtain ⟨t0, t1, t2, t3, t4, t5, t6, t7, tf⟩ := hSw
                          clear tf
                          simp only at t0 t1 t2 t3 t4 t5 t6 t7
                          go_simp
                          all_goals with_reducible rfl
                        try simp only [Act.put, List.setIfInBounds_toArray, List.set_cons_zero, List.set_cons_succ, List.getElem_toArray, List.getElem_cons_zero, List.getElem_cons_succ]
                        refine wpAnyH_take (i := 5) (oi := _) (v := ?_) rfl (by kernel_rfl) (by kernel_rfl) (by kernel_rfl) (fun _ _ _ h => h) (Or.inl ⟨by rfl, ?_⟩) (by assumption) ?_
                        rotate_left
                        · intro w hSw
                          try dsimp only at hSw
                          obtain ⟨t0, t1, t2, t3, t4, t5, t6, t7, tf⟩ := hSw
                          clear tf
                          simp only at t0 t1 t2 t3 t4 t5 t6 t7
                          go_simp
                          all_goals with_reducible rfl
                        try simp only [Act.put, List.setIfInBounds_toArray, List.set_cons_zero, List.set_cons_succ, List.getElem_toArray, List.getElem_cons_zero, List.getElem_cons_succ]
                        refine wpAnyH_ready (rs := [4, 6]) (by kernel_rfl) (by simp) ?_
                        refine AllReadyH.cons (o := _) rfl (fun KQ hKQ => ?_) (AllReadyH.cons (o := _) rfl (fun KQ hKQ => ?_) AllReadyH.nil)
                        · go_simp
                          refine hKQ.out _ _ HV7.out (fun hHeld => ?_)
                          clear hKQ KQ
                          try simp only [Act.put, List.setIfInBounds_toArray, List.set_cons_zero, List.set_cons_succ, List.getElem_toArray, List.getElem_cons_zero, List.getElem_cons_succ]
                          clear b5
                          refine wpAnyH_ready (rs := [6]) (by kernel_rfl) (by simp) ?_
                          refine AllReadyH.cons (o := _) rfl (fun KQ hKQ => ?_) AllReadyH.nil
                          go_simp
                          have hbA : Below w6.heap.size w6 (w6.alloc (.cells #[.int .i64 (i : Int), .int .i64 (k : Int), .int .u64 (at_ : Int), .int .u64 (RM : Int), .int .i64 (n : Int), .int .u64 M, .bool cu, .bool gd] 124)) := balloc (Below.refl _ _) _
                          have HLA := Lib.hid (HL7.out.later hbA)
                          have HVA := Lib.hid (HV7.out.below hbA)
                          have b5 := HLA.out.s.st.c5
                          have HCA : Hid (∀ j u, (VObj.mk i k at_ RM n M cu gd).cs[j]? = some u → (w6.alloc (.cells #[.int .i64 (i : Int), .int .i64 (k : Int), .int .u64 (at_ : Int), .int .u64 (RM : Int), .int .i64 (n : Int), .int .u64 M, .bool cu, .bool gd] 124)).cell? ⟨w6.heap.size, j, none⟩ = some u) := objq_cells w6 ⟨i, k, at_, RM, n, M, cu, gd⟩
                          generalize hwA : w6.alloc (.cells #[.int .i64 (i : Int), .int .i64 (k : Int), .int .u64 (at_ : Int), .int .u64 (RM : Int), .int .i64 (n : Int), .int .u64 M, .bool cu, .bool gd] 124) = wA at *
                          clear hwA hbA
                          refine hKQ.out _ _ HVA.out (fun hHeld => ?_)
                          clear hKQ KQ
                          try simp only [Act.put, List.setIfInBounds_toArray, List.set_cons_zero, List.set_cons_succ, List.getElem_toArray, List.getElem_cons_zero, List.getElem_cons_succ]
                          clear b5
                          refine wpAnyH_ready (rs := [7]) (by kernel_rfl) (by simp) ?_
                          refine AllReadyH.cons (o := _) rfl (fun KQ hKQ => ?_) AllReadyH.nil
                          refine step_appQ1 (by rfl) (.tmp 89) (.tmp 91) (by rfl) (b + 1) (.slice OA OS.length oc) OS ⟨i, k, at_, RM, n, M, cu, gd⟩ w6.heap.size (by rfl) (by rfl) HLA.out.s.oo HCA.out HFK.out (by have := HLA.out.s.lt; omega) ?_
                          intro g cap w8 ho hg hat
                          have hnq : some q ≠ (Value.slice OA OS.length oc).ownBlock := fun e => HQB.out.2 e.symm
                          have hnb : some b ≠ (Value.slice OA OS.length oc).ownBlock := fun e => by have := (World.ownsRow.lt HLA.out.s.oo b e.symm).1; omega
                          have c58 := hg.cell HLA.out.s.st.c5 hnb
                          have z58 := (gfrozen hg (a := ⟨b, 5, none⟩) HLA.out.s.lt hnb).trans (HLA.out.s.fr 5)
                          have m58 := World.block_lt_of_cell? _ _ c58
                          have HV8 := Lib.hid (HVA.out.grown hg hnq)
                          have HX8 := Lib.hid (HLA.out.app HVA.out HQB.out.1 HQB.out.2 hg ho hat)
                          have hqb : q ≠ b := HQB.out.1
                          clear ho hg hat hnq hnb HLA HVA HCA
                          refine hKQ.out _ _ HV8.out (fun hHeld => ?_)
                          clear hKQ KQ
                          try simp only [Act.put, List.setIfInBounds_toArray, List.set_cons_zero, List.set_cons_succ, List.getElem_toArray, List.getElem_cons_zero, List.getElem_cons_succ]
                          refine wpAnyH_take (i := 8) (oi := _) (v := ?_) rfl (by kernel_rfl) (by kernel_rfl) (by kernel_rfl) (fun _ _ _ h => h) (Or.inl ⟨by rfl, ?_⟩) (by assumption) ?_
                          rotate_left
                          · intro w hSw
                            try dsimp only at hSw
                            obtain ⟨t0, t1, t2, t3, t4, t5, t6, t7, tf⟩ := hSw
                            clear tf
                            simp only at t0 t1 t2 t3 t4 t5 t6 t7
                            go_simp
                            all_goals with_reducible rfl
                          try simp only [Act.put, List.setIfInBounds_toArray, List.set_cons_zero, List.set_cons_succ, List.getElem_toArray, List.getElem_cons_zero, List.getElem_cons_succ]
                          refine wpAnyH_take (i := 9) (oi := _) (v := ?_) rfl (by kernel_rfl) (by kernel_rfl) (by kernel_rfl) (fun _ _ _ h => h) (Or.inl ⟨by rfl, ?_⟩) (by assumption) ?_
                          rotate_left
                          · intro w hSw
                            try dsimp only at hSw
                            obtain ⟨t0, t1, t2, t3, t4, t5, t6, t7, tf⟩ := hSw
                            clear tf
                            simp only at t0 t1 t2 t3 t4 t5 t6 t7
                            go_simp
                            all_goals with_reducible rfl
                          try simp only [Act.put, List.setIfInBounds_toArray, List.set_cons_zero, List.set_cons_succ, List.getElem_toArray, List.getElem_cons_zero, List.getElem_cons_succ]
                          refine wpAnyH_ready (rs := [10]) (by kernel_rfl) (by simp) ?_
                          refine AllReadyH.cons (o := _) rfl (fun KQ hKQ => ?_) AllReadyH.nil
                          go_simp
                          refine hKQ.out _ _ (HV8.out.set_ne (p := ⟨b, 5, none⟩) (fun e => hqb e.symm) _) (fun hHeld => ?_)
                          clear hKQ KQ
                          try simp only [Act.put, List.setIfInBounds_toArray, List.set_cons_zero, List.set_cons_succ, List.getElem_toArray, List.getElem_cons_zero, List.getElem_cons_succ]
                          refine wpAnyH_done (by kernel_rfl) ?_ _
                          go_wp2_with fail
                          go_meet
                          exact ⟨_, _, HX8.out.1, HX8.out.2⟩
                        · go_simp
                          have hbA : Below w6.heap.size w6 (w6.alloc (.cells #[.int .i64 (i : Int), .int .i64 (k : Int), .int .u64 (at_ : Int), .int .u64 (RM : Int), .int .i64 (n : Int), .int .u64 M, .bool cu, .bool gd] 124)) := balloc (Below.refl _ _) _
                          have HLA := Lib.hid (HL7.out.later hbA)
                          have HVA := Lib.hid (HV7.out.below hbA)
                          have b5 := HLA.out.s.st.c5
                          have HCA : Hid (∀ j u, (VObj.mk i k at_ RM n M cu gd).cs[j]? = some u → (w6.alloc (.cells #[.int .i64 (i : Int), .int .i64 (k : Int), .int .u64 (at_ : Int), .int .u64 (RM : Int), .int .i64 (n : Int), .int .u64 M, .bool cu, .bool gd] 124)).cell? ⟨w6.heap.size, j, none⟩ = some u) := objq_cells w6 ⟨i, k, at_, RM, n, M, cu, gd⟩
                          generalize hwA : w6.alloc (.cells #[.int .i64 (i : Int), .int .i64 (k : Int), .int .u64 (at_ : Int), .int .u64 (RM : Int), .int .i64 (n : Int), .int .u64 M, .bool cu, .bool gd] 124) = wA at *
                          clear hwA hbA
                          refine hKQ.out _ _ HVA.out (fun hHeld => ?_)
                          clear hKQ KQ
                          try simp only [Act.put, List.setIfInBounds_toArray, List.set_cons_zero, List.set_cons_succ, List.getElem_toArray, List.getElem_cons_zero, List.getElem_cons_succ]
                          refine wpAnyH_ready (rs := [4]) (by kernel_rfl) (by simp) ?_
                          refine AllReadyH.cons (o := _) rfl (fun KQ hKQ => ?_) AllReadyH.nil
                          go_simp
                          refine hKQ.out _ _ HVA.out (fun hHeld => ?_)
                          clear hKQ KQ
                          try simp only [Act.put, List.setIfInBounds_toArray, List.set_cons_zero, List.set_cons_succ, List.getElem_toArray, List.getElem_cons_zero, List.getElem_cons_succ]
                          clear b5
                          clear b5
                          refine wpAnyH_ready (rs := [7]) (by kernel_rfl) (by simp) ?_
                          refine AllReadyH.cons (o := _) rfl (fun KQ hKQ => ?_) AllReadyH.nil
                          refine step_appQ1 (by rfl) (.tmp 89) (.tmp 91) (by rfl) (b + 1) (.slice OA OS.length oc) OS ⟨i, k, at_, RM, n, M, cu, gd⟩ w6.heap.size (by rfl) (by rfl) HLA.out.s.oo HCA.out HFK.out (by have := HLA.out.s.lt; omega) ?_
                          intro g cap w8 ho hg hat
                          have hnq : some q ≠ (Value.slice OA OS.length oc).ownBlock := fun e => HQB.out.2 e.symm
                          have hnb : some b ≠ (Value.slice OA OS.length oc).ownBlock := fun e => by have := (World.ownsRow.lt HLA.out.s.oo b e.symm).1; omega
                          have c58 := hg.cell HLA.out.s.st.c5 hnb
                          have z58 := (gfrozen hg (a := ⟨b, 5, none⟩) HLA.out.s.lt hnb).trans (HLA.out.s.fr 5)
                          have m58 := World.block_lt_of_cell? _ _ c58
                          have HV8 := Lib.hid (HVA.out.grown hg hnq)
                          have HX8 := Lib.hid (HLA.out.app HVA.out HQB.out.1 HQB.out.2 hg ho hat)
                          have hqb : q ≠ b := HQB.out.1
                          clear ho hg hat hnq hnb HLA HVA HCA
                          refine hKQ.out _ _ HV8.out (fun hHeld => ?_)
                          clear hKQ KQ
                          try simp only [Act.put, List.setIfInBounds_toArray, List.set_cons_zero, List.set_cons_succ, List.getElem_toArray, List.getElem_cons_zero, List.getElem_cons_succ]
                          refine wpAnyH_take (i := 8) (oi := _) (v := ?_) rfl (by kernel_rfl) (by kernel_rfl) (by kernel_rfl) (fun _ _ _ h => h) (Or.inl ⟨by rfl, ?_⟩) (by assumption) ?_
                          rotate_left
                          · intro w hSw
                            try dsimp only at hSw
                            obtain ⟨t0, t1, t2, t3, t4, t5, t6, t7, tf⟩ := hSw
                            clear tf
                            simp only at t0 t1 t2 t3 t4 t5 t6 t7
                            go_simp
                            all_goals with_reducible rfl
                          try simp only [Act.put, List.setIfInBounds_toArray, List.set_cons_zero, List.set_cons_succ, List.getElem_toArray, List.getElem_cons_zero, List.getElem_cons_succ]
                          refine wpAnyH_take (i := 9) (oi := _) (v := ?_) rfl (by kernel_rfl) (by kernel_rfl) (by kernel_rfl) (fun _ _ _ h => h) (Or.inl ⟨by rfl, ?_⟩) (by assumption) ?_
                          rotate_left
                          · intro w hSw
                            try dsimp only at hSw
                            obtain ⟨t0, t1, t2, t3, t4, t5, t6, t7, tf⟩ := hSw
                            clear tf
                            simp only at t0 t1 t2 t3 t4 t5 t6 t7
                            go_simp
                            all_goals with_reducible rfl
                          try simp only [Act.put, List.setIfInBounds_toArray, List.set_cons_zero, List.set_cons_succ, List.getElem_toArray, List.getElem_cons_zero, List.getElem_cons_succ]
                          refine wpAnyH_ready (rs := [10]) (by kernel_rfl) (by simp) ?_
                          refine AllReadyH.cons (o := _) rfl (fun KQ hKQ => ?_) AllReadyH.nil
                          go_simp
                          refine hKQ.out _ _ (HV8.out.set_ne (p := ⟨b, 5, none⟩) (fun e => hqb e.symm) _) (fun hHeld => ?_)
                          clear hKQ KQ
                          try simp only [Act.put, List.setIfInBounds_toArray, List.set_cons_zero, List.set_cons_succ, List.getElem_toArray, List.getElem_cons_zero, List.getElem_cons_succ]
                          refine wpAnyH_done (by kernel_rfl) ?_ _
                          go_wp2_with fail
                          go_meet
                          exact ⟨_, _, HX8.out.1, HX8.out.2⟩
                      case rest =>
                        obtain ⟨OA2, oc2, hcol, hvq⟩ := hcut
                        have HCX := Lib.hid hcol
                        have HVX := Lib.hid hvq
                        have y2 := hvq.c2
                        have y7 := hvq.c7
                        simp only at y2 y7
                        have HOB : Hid ((⟨i, k, at_, RM, (n : Int), M, cu, gd⟩ : VObj) = Cand.vobj h.ar ⟨i, s, k⟩) := HVO.out
                        have EOS : Hid ((candTo h.sp i ++ slotsTo i s (k + 1)).map (Cand.vobj h.ar) = OS ++ [(⟨i, k, at_, RM, (n : Int), M, cu, gd⟩ : VObj)]) := by
                          show _ = _
                          rw [HSTT.out, ← List.append_assoc, List.map_append, HOS.out, HVO.out]
                          rfl
                        have EFS : Hid (fs0 ++ headTo h.ar (candTo h.sp i ++ slotsTo i s (k + 1)) = FS ++ (if gd = true then [] else [⟨4, at_⟩])) := by
                          show _ = _
                          rw [HSTT.out, ← List.append_assoc, headTo_app, ← List.append_assoc, HFS.out]
                          congr 1
                          unfold headTo
                          rw [HGG.out, HA_.out]
                          cases hh : Cand.good h.ar ⟨i, s, k⟩ <;> simp [hh]
                        have hK8 := HKN.out.2.1
                        clear hcol hvq HL7 HV7 HQB b5 HL1 HQ7 HVO
                        cases gd
                        · have CT := Lib.hid (tell75 w0 wc b fc oc2 _ FS FA OA2 _ ⟨4, at_⟩ HCX.out.s HFL.out)
                          go_wp2_with (go_at_call 75; refine CT.out.mono ?_)
                          rintro e w9 ⟨rfl, g, cap, hs9, hg9, hk9⟩
                          have HC9 := Lib.hid (HCX.out.told hs9 hg9 hk9)
                          clear hs9 hg9 hk9 CT HCX HVX y2 y7
                          go_wp2
                          go_roundw
                          case rel => exact ⟨k + 1, some ⟨g, 0, none⟩, cap, OA2, oc2, by omega, by go_num, by rw [EOS.out, EFS.out]; exact HC9.out⟩
                          case measure => simp [intOf]; omega
                        · go_wp2
                          go_roundw
                          case rel => exact ⟨k + 1, FA, fc, OA2, oc2, by omega, by go_num, by rw [EOS.out, EFS.out, if_pos rfl, List.append_nil]; exact HCX.out⟩
                          case measure => simp [intOf]; omega
          · have hb2 : bitP s.al k = false := by simpa using hbit
            rw [hb2] at HIS50
            have HSTT := Lib.hid (slotsTo_succ_no (i := i) hb2)
            have hK8 := HKN.out.2.1
            clear hbit hb2
            go_wp2_with (go_at_call 51; refine HIS50.out.mono ?_)
            rintro e w1 ⟨rfl, hb1⟩
            have HL1 := Lib.hid (HLQ.out.later hb1)
            clear hb1 HLQ HIS50 q0 q1 q2 q3 q4 q5 q6 q7
            go_wp2
            go_roundw
            case rel => exact ⟨k + 1, FA, fc, OA, oc, by omega, by go_num, by rw [HSTT.out]; exact HL1.out⟩
            case measure => simp [intOf]; omega
        · obtain rfl : k = K := by omega
          have HCS := Lib.hid (candTo_succ HSS.out)
          rw [HKN.out.2.2] at HCS
          go_wp2
          go_roundw
          case rel => exact ⟨i + 1, FA, fc, OA, oc, by omega, by go_num, by rw [HCS.out]; exact HLQ.out.s, HLQ.out.be⟩
          case measure => simp [intOf]; omega
    · obtain rfl : i = h.sp.length := by omega
      go_wp2
      go_end0
      exact ⟨rfl, ⟨FA, fc, OA, oc, HLK.out⟩, HBI.out⟩
end Go.Proofs.YtieijfefnedifaaGreatDoor
