/- Out of the texts of spans: T6 U6. -/
import Derived.Test.YtieijfefnedifaaGreatDoorMB6
namespace Go.Proofs.YtieijfefnedifaaGreatDoor
open Go.RowKit
set_option linter.unusedVariables false
set_option linter.unusedSimpArgs false

def insB (l : List SpanB) (i : Nat) (s : SpanB) : List SpanB := l.take i ++ s :: l.drop i
def leftP (l : List SpanB) (p : Nat) (s : SpanB) : Bool := match p with | 0 => false | j + 1 => match l[j]? with | some x => decide (s.first < endP x) | none => false
def nextP (l : List SpanB) (p : Nat) (s : SpanB) : Bool := match l[p]? with | some y => decide (y.first < endP s) | none => false
def posF (l : List SpanB) (s : SpanB) : Nat := posP l (fun x => x.first) s.first
def lapP (l : List SpanB) (s : SpanB) : Bool := foundP l (fun x => x.first) s.first || (leftP l (posF l s) s || nextP l (posF l s) s)
def addL (l : List SpanB) (s : SpanB) : List SpanB := if okL l = true ∧ rightP s = true then (if lapP l s = true then l else if l.length = 256 then l else insB l (posF l s) s) else []
def addE (l : List SpanB) (s : SpanB) : Int := if okL l = true ∧ rightP s = true then (if lapP l s = true then 4 else if l.length = 256 then 6 else 0) else 2
theorem AllN.take {w : World} {base : Nat} {vs : List SpanV} {l : List SpanB} (h : AllN w base vs l) (k : Nat) : AllN w base (vs.take k) (l.take k) := by
  refine ⟨by rw [List.length_take, List.length_take, h.1], fun i x s hx hs => ?_⟩
  rw [List.getElem?_take] at hx hs
  by_cases hi : i < k
  · rw [if_pos hi] at hx hs
    exact h.2 i x s hx hs
  · rw [if_neg hi] at hx
    cases hx
theorem AllN.drop {w : World} {base : Nat} {vs : List SpanV} {l : List SpanB} (h : AllN w base vs l) (k : Nat) : AllN w base (vs.drop k) (l.drop k) := by
  refine ⟨by rw [List.length_drop, List.length_drop, h.1], fun i x s hx hs => ?_⟩
  rw [List.getElem?_drop] at hx hs
  exact h.2 _ x s hx hs
theorem AllN.ins {w : World} {base : Nat} {vs : List SpanV} {l : List SpanB} {x : SpanV} {s : SpanB} (h : AllN w base vs l) (hx : OwN w base x s) (k : Nat) : AllN w base (insP vs k x) (insB l k s) := by
  unfold insP insB
  have := (h.take k).append ((AllN.one hx).append (h.drop k))
  simpa using this
theorem RdL.wf {w : World} {A : Option Addr} {vs : List SpanV} {l : List SpanB} (h : RdL w A vs l) : ∀ s ∈ l, WfS s := by
  intro s hs
  obtain ⟨i, hi, rfl⟩ := List.getElem_of_mem hs
  obtain ⟨v, b, o, _, hr, _⟩ := h.at_ (List.getElem?_eq_getElem hi)
  exact hr.wf
theorem enters55 : Enters 102 := fun args w => by kernel_rfl

theorem insert57_any {w5 : World} {base n c q : Nat} {A : Option Addr} {us : List SpanV} {x : SpanV} (qi : Int) (ho : OwS w5 base (.slice A n c) us) (hn : us.length = n) (h256 : n ≤ 256) (hq : q ≤ n) (hqi : qi = (q : Int)) (hb : base ≤ w5.heap.size) :
    Calls Tryz.prog 104 #[.slice A n c, .int .i64 qi, .slice (some ⟨w5.heap.size, 0, none⟩) 1 1] (w5.alloc (.cells #[.int .i64 x.first, .int .i64 x.pages, .int .i64 x.size, .int .i64 x.al.n, .slice x.al.A x.al.m x.al.c, .int .i64 x.ma.n, .slice x.ma.A x.ma.m x.ma.c, .bool x.sw] 44)) (RetG base (.slice A n c) (insP us q x) (w5.alloc (.cells #[.int .i64 x.first, .int .i64 x.pages, .int .i64 x.size, .int .i64 x.al.n, .slice x.al.A x.al.m x.al.c, .int .i64 x.ma.n, .slice x.ma.A x.ma.m x.ma.c, .bool x.sw] 44))) := by
  subst hqi
  have ho6 := ho.below (balloc (Below.refl w5.heap.size w5) (.cells #[.int .i64 x.first, .int .i64 x.pages, .int .i64 x.size, .int .i64 x.al.n, .slice x.al.A x.al.m x.al.c, .int .i64 x.ma.n, .slice x.ma.A x.ma.m x.ma.c, .bool x.sw] 44))
  have hs6 : base ≤ (w5.alloc (.cells #[.int .i64 x.first, .int .i64 x.pages, .int .i64 x.size, .int .i64 x.al.n, .slice x.al.A x.al.m x.al.c, .int .i64 x.ma.n, .slice x.ma.A x.ma.m x.ma.c, .bool x.sw] 44)).heap.size := Nat.le_trans hb (balloc (Below.refl w5.heap.size w5) _).size
  rcases Nat.lt_or_ge q us.length with hlt | hge
  · exact insert57_mid us _ base q x w5.heap.size _ ho6 hs6 hlt (by omega) (heap_alloc_new w5 _) (fun k hk => by have := (ho.lt k hk).2; omega)
  · have e9 : us.length = q := by omega
    have := insert57_end us _ base x w5.heap.size _ ho6 hs6 (by omega) (RdS.made w5 x)
    rw [e9] at this
    exact this
set_option maxRecDepth 100000 in
set_option maxHeartbeats 8000000 in
theorem add26 (A : Option Addr) (c : Nat) (vs : List SpanV) (l : List SpanB) (v : SpanV) (s : SpanB) (w : World) (h : RdL w A vs l) (hv : RdN w v s) : Calls Tryz.prog 69 #[.slice A l.length c, v.v] w (RetLE (addL l s) (addE l s) w) := by
  have hl := h.len
  have CC : Hid (∀ W, Below w.heap.size w W → Calls Tryz.prog 66 #[.slice A l.length c] W (Ret (.int .i64 (chkE l)) W)) := fun W hW => check19 A c vs l W (h.below hW)
  have CR : Hid (∀ W, Below w.heap.size w W → Calls Tryz.prog 97 #[v.v] W (Ret (.bool (rightP s)) W)) := fun W hW => right38 v s W (hv.below hW)
  have CN : Hid (rightP s = true → ∀ W, Below w.heap.size w W → Calls Tryz.prog 90 #[v.v] W (RetN s W)) := fun hr W hW => one58 v s W (hv.below hW) (right_small hr)
  have CE : Hid (rightP s = true → ∀ W, Calls Tryz.prog 98 #[v.v] W (Ret (.int .i64 (endP s)) W)) := fun hr W => by
    have := end46 v W
    rwa [hv.first, hv.pages, (right_end hr).1] at this
  have CO : Hid (okL l = true → ∀ W, Below w.heap.size w W → Calls Tryz.prog 48 #[.slice A l.length c] W (RetL l W)) := fun hok W hW => own53 A c vs l W (h.below hW) (okL_small hok)
  have HWF := Lib.hid h.wf
  have hfi := hv.first
  obtain ⟨f, p, z, ⟨n, A1, m1, ca⟩, ⟨n', A2, m', cb⟩, sw⟩ := v
  unfold SpanV.v at CR CN CE ⊢
  simp only at CR CN CE hfi ⊢
  subst hfi
  have HB0 : Hid (Below w.heap.size w (w.alloc (.cells #[.int .i64 s.first, .int .i64 p, .int .i64 z, .int .i64 n, .slice A1 m1 ca, .int .i64 n', .slice A2 m' cb, .bool sw] 44))) := balloc (Below.refl _ _) _
  have HV0 : Hid (VarS (w.alloc (.cells #[.int .i64 s.first, .int .i64 p, .int .i64 z, .int .i64 n, .slice A1 m1 ca, .int .i64 n', .slice A2 m' cb, .bool sw] 44)) w.heap.size ⟨s.first, p, z, ⟨n, A1, m1, ca⟩, ⟨n', A2, m', cb⟩, sw⟩) := VarS.made w ⟨s.first, p, z, ⟨n, A1, m1, ca⟩, ⟨n', A2, m', cb⟩, sw⟩ _ rfl
  clear h hv
  by_cases hok : okL l = true
  · rw [show chkE l = 0 from by simp [chkE, hok]] at CC
    have CO := Lib.hid (CO.out hok)
    by_cases hr : rightP s = true
    · have CN := Lib.hid (CN.out hr)
      have CE := Lib.hid (CE.out hr)
      have E1 : Hid (addL l s = if lapP l s = true then l else if l.length = 256 then l else insB l (posF l s) s) := by show _ = _; unfold addL; rw [if_pos ⟨hok, hr⟩]
      have E2 : Hid (addE l s = if lapP l s = true then 4 else if l.length = 256 then 6 else 0) := by show _ = _; unfold addE; rw [if_pos ⟨hok, hr⟩]
      rw [hr] at CR
      have HOK := Lib.hid hok
      have hle := right_end hr
      have HLEN := Lib.hid (okL_len hok)
      clear hok hr
      go_enter Tryz.func69, Tryz.ntmps69
      go_wp2_with (go_at_call 66; refine (CC.out _ HB0.out).mono ?_)
      rintro e w1 ⟨rfl, hb1⟩
      have HB1 := Lib.hid (bthen HB0.out hb1)
      obtain ⟨k0, k1, k2, k3, k4, k5, k6, k7⟩ := HV0.out.below hb1
      have HV1 := Lib.hid (HV0.out.below hb1)
      clear hb1
      simp only at k0 k1 k2 k3 k4 k5 k6 k7
      go_wp2_with (go_at_call 97; refine (CR.out _ HB1.out).mono ?_)
      rintro e w2 ⟨rfl, hb2⟩
      have HB2 := Lib.hid (bthen HB1.out hb2)
      have HV2 := Lib.hid (HV1.out.below hb2)
      clear hb2 k0 k1 k2 k3 k4 k5 k6 k7
      go_wp2_with (go_at_call 48; refine (CO.out _ HB2.out).mono ?_)
      rintro e w3 ⟨v3, rfl, ho, hb3⟩
      obtain ⟨A3, c3, us, rfl, hc3, hr3⟩ := ho.shape HWF.out
      have HB3 := Lib.hid (bthen HB2.out hb3)
      have HV3 := Lib.hid (HV2.out.below hb3)
      have HS2 : Hid (w.heap.size + 1 ≤ w2.heap.size) := by show _ ≤ _; have := HV2.out.lt; omega
      have HO3 := Lib.hid (ho.mono HB2.out.size)
      have HO3b := Lib.hid ho
      have HR3 := Lib.hid hr3
      clear hb3 ho hc3 hr3
      have CS : Hid (Calls Tryz.prog 101 #[.slice A3 l.length c3, .int .i64 s.first, .func (.func 102) #[] #[]] w3 (Ret (.tuple #[.int .i64 (posP l (fun x => x.first) s.first), .bool (foundP l (fun x => x.first) s.first)]) w3)) :=
        search54 us l A3 c3 102 #[] (fun x => x.first) s.first w3 HR3.out HLEN.out enters55 (okL_sorted HOK.out) (fun i v x hv hx W' _ => by
          have := addCmp v s.first W'
          rw [(HR3.out.2.2 i v x hv hx).first] at this
          simpa using this)
      obtain ⟨k0, k1, k2, k3, k4, k5, k6, k7⟩ := HV3.out
      simp only at k0 k1 k2 k3 k4 k5 k6 k7
      go_wp2_with (go_at_call 101; refine CS.out.mono ?_)
      rintro e w4 ⟨rfl, hb4⟩
      have HB4 := Lib.hid (bthen HB3.out hb4)
      have HV4 := Lib.hid (HV3.out.below hb4)
      have HO4 := Lib.hid (HO3.out.below hb4)
      have HO4b := Lib.hid (HO3b.out.below hb4)
      have HR4 := Lib.hid (HR3.out.below hb4)
      clear hb4 k0 k1 k2 k3 k4 k5 k6 k7
      have HPL : Hid (posF l s ≤ l.length) := posP_le _ _ _
      have HLAP : Hid (lapP l s = (foundP l (fun x => x.first) s.first || (leftP l (posF l s) s || nextP l (posF l s) s))) := Eq.refl (lapP l s)
      rw [show posP l (fun x => x.first) s.first = posF l s from rfl]
      generalize posF l s = q at *
      have HEND := Lib.hid hle
      clear hle
      cases hfd : foundP l (fun x => x.first) s.first
      · rw [hfd, Bool.false_or] at HLAP
        clear hfd
        rcases q with _ | j
        · rw [show leftP l 0 s = false from rfl, Bool.false_or] at HLAP
          go_wp2
          refine region_up (by kernel_rfl) (by kernel_rfl) ?_
          iterate 3
            go_big_quiet_want
            apply Exists.intro
            refine ⟨fun W hW => ?_, ?_⟩
            · go_simp
              all_goals exact rfl
            simp only [Act.put, List.setIfInBounds_toArray, List.set_cons_succ, List.set_cons_zero]
            go_big_quiet_on
          iterate 9 go_big_quiet_skip
          iterate 2
            go_big_quiet_want
            apply Exists.intro
            refine ⟨fun W hW => ?_, ?_⟩
            · go_simp
              all_goals exact rfl
            simp only [Act.put, List.setIfInBounds_toArray, List.set_cons_succ, List.set_cons_zero]
            go_big_quiet_on
          refine wpQuiet_nil ?_
          intro W hW
          have HBW := Lib.hid (bthen HB4.out hW)
          have HOW := Lib.hid (HO4.out.below hW)
          have HVW := Lib.hid (HV4.out.below hW)
          have HRW := Lib.hid (HR4.out.below hW)
          clear hW
          have hq := HPL.out
          by_cases hql : 0 < l.length
          · have hqi : (0 : Int) < (l.length : Int) := by omega
            have hq0 : 0 ≤ (0 : Int) := by omega
            have hsy : l[0]? = some l[0] := List.getElem?_eq_getElem hql
            generalize l[0] = y at hsy
            obtain ⟨vy, by_, oy, hvy, hRy, hAy, hby, d0, d1, d2, d3, d4, d5, d6, d7⟩ := HRW.out.at_ hsy
            have hy1 := hRy.first
            have hri := right_end (okL_right HOK.out hsy)
            obtain ⟨fy, py, zy, ⟨ny, A1y, my, cay⟩, ⟨ny', A2y, my', cby⟩, swy⟩ := vy
            simp only at d0 hy1
            try simp only [Nat.zero_mul, Nat.add_zero] at d0
            subst hy1
            cases hAy
            have HSY := Lib.hid hsy
            have HV7 := HVW.out
            obtain ⟨k0, k1, k2, k3, k4, k5, k6, k7⟩ := HV7
            simp only at k0 k1 k2 k3 k4 k5 k6 k7
            have K0 := Lib.hid k0
            have K1 := Lib.hid k1
            have K2 := Lib.hid k2
            have K3 := Lib.hid k3
            have K4 := Lib.hid k4
            have K5 := Lib.hid k5
            have K6 := Lib.hid k6
            have K7 := Lib.hid k7
            have L0 := Lib.hid d0
            clear hvy hRy hby d0 d1 d2 d3 d4 d5 d6 d7 k0 k1 k2 k3 k4 k5 k6 k7 hri hsy
            by_cases hov : y.first < endP s
            · have ELAP : Hid (lapP l s = true) := by
                show _ = _
                rw [HLAP.out, show nextP l (0) s = true from by unfold nextP; rw [HSY.out]; exact decide_eq_true hov]
                try simp
              have E1 : Hid (addL l s = l) := by show _ = _; rw [E1.out, if_pos ELAP.out]
              have E2 : Hid (addE l s = 4) := by show _ = _; rw [E2.out, if_pos ELAP.out]
              go_wp2
              refine region_up (by kernel_rfl) (by kernel_rfl) ?_
              iterate 6
                go_big_quiet_want
                apply Exists.intro
                refine ⟨fun W hW => ?_, ?_⟩
                · have g0 := cell_later hW K0.out
                  have g1 := cell_later hW K1.out
                  have g2 := cell_later hW K2.out
                  have g3 := cell_later hW K3.out
                  have g4 := cell_later hW K4.out
                  have g5 := cell_later hW K5.out
                  have g6 := cell_later hW K6.out
                  have g7 := cell_later hW K7.out
                  have g8 := cell_later hW L0.out
                  go_simp
                  all_goals exact rfl
                simp only [Act.put, List.setIfInBounds_toArray, List.set_cons_succ, List.set_cons_zero]
                go_big_quiet_on
              go_big_quiet_want
              apply Exists.intro
              refine ⟨fun W hW => ?_, ?_⟩
              · have g0 := cell_later hW K0.out
                have g1 := cell_later hW K1.out
                have g2 := cell_later hW K2.out
                have g3 := cell_later hW K3.out
                have g4 := cell_later hW K4.out
                have g5 := cell_later hW K5.out
                have g6 := cell_later hW K6.out
                have g7 := cell_later hW K7.out
                have g8 := cell_later hW L0.out
                go_simp
                exact call_up hW (CE.out W)
              simp only [Act.put, List.setIfInBounds_toArray, List.set_cons_succ, List.set_cons_zero]
              go_big_quiet_on
              iterate 8
                go_big_quiet_want
                apply Exists.intro
                refine ⟨fun W hW => ?_, ?_⟩
                · have g0 := cell_later hW K0.out
                  have g1 := cell_later hW K1.out
                  have g2 := cell_later hW K2.out
                  have g3 := cell_later hW K3.out
                  have g4 := cell_later hW K4.out
                  have g5 := cell_later hW K5.out
                  have g6 := cell_later hW K6.out
                  have g7 := cell_later hW K7.out
                  have g8 := cell_later hW L0.out
                  go_simp
                  all_goals exact rfl
                simp only [Act.put, List.setIfInBounds_toArray, List.set_cons_succ, List.set_cons_zero]
                go_big_quiet_on
              refine wpQuiet_nil ?_
              intro W hW
              have HBX := Lib.hid (bthen HBW.out hW)
              have HOX := Lib.hid (HOW.out.below hW)
              clear hW
              go_wp2
              go_ret2
              rw [E2.out]
              exact ⟨_, rfl, by rw [E1.out]; exact HOX.out, HBX.out⟩
            · have ELAP : Hid (lapP l s = false) := by
                show _ = _
                rw [HLAP.out]
                unfold nextP
                rw [HSY.out]
                exact decide_eq_false hov
              go_wp2
              refine region_up (by kernel_rfl) (by kernel_rfl) ?_
              iterate 6
                go_big_quiet_want
                apply Exists.intro
                refine ⟨fun W hW => ?_, ?_⟩
                · have g0 := cell_later hW K0.out
                  have g1 := cell_later hW K1.out
                  have g2 := cell_later hW K2.out
                  have g3 := cell_later hW K3.out
                  have g4 := cell_later hW K4.out
                  have g5 := cell_later hW K5.out
                  have g6 := cell_later hW K6.out
                  have g7 := cell_later hW K7.out
                  have g8 := cell_later hW L0.out
                  go_simp
                  all_goals exact rfl
                simp only [Act.put, List.setIfInBounds_toArray, List.set_cons_succ, List.set_cons_zero]
                go_big_quiet_on
              go_big_quiet_want
              apply Exists.intro
              refine ⟨fun W hW => ?_, ?_⟩
              · have g0 := cell_later hW K0.out
                have g1 := cell_later hW K1.out
                have g2 := cell_later hW K2.out
                have g3 := cell_later hW K3.out
                have g4 := cell_later hW K4.out
                have g5 := cell_later hW K5.out
                have g6 := cell_later hW K6.out
                have g7 := cell_later hW K7.out
                have g8 := cell_later hW L0.out
                go_simp
                exact call_up hW (CE.out W)
              simp only [Act.put, List.setIfInBounds_toArray, List.set_cons_succ, List.set_cons_zero]
              go_big_quiet_on
              iterate 8
                go_big_quiet_want
                apply Exists.intro
                refine ⟨fun W hW => ?_, ?_⟩
                · have g0 := cell_later hW K0.out
                  have g1 := cell_later hW K1.out
                  have g2 := cell_later hW K2.out
                  have g3 := cell_later hW K3.out
                  have g4 := cell_later hW K4.out
                  have g5 := cell_later hW K5.out
                  have g6 := cell_later hW K6.out
                  have g7 := cell_later hW K7.out
                  have g8 := cell_later hW L0.out
                  go_simp
                  all_goals exact rfl
                simp only [Act.put, List.setIfInBounds_toArray, List.set_cons_succ, List.set_cons_zero]
                go_big_quiet_on
              refine wpQuiet_nil ?_
              intro W hW
              have HBX := Lib.hid (bthen HBW.out hW)
              have HOX := Lib.hid (HOW.out.below hW)
              have HVX := Lib.hid (HVW.out.below hW)
              clear hW
              by_cases h256 : l.length = 256
              · have E1 : Hid (addL l s = l) := by show _ = _; rw [E1.out, if_neg (by rw [ELAP.out]; simp), if_pos h256]
                have E2 : Hid (addE l s = 6) := by show _ = _; rw [E2.out, if_neg (by rw [ELAP.out]; simp), if_pos h256]
                rw [h256] at HOX ⊢
                clear h256
                go_wp2
                go_ret2
                rw [E2.out]
                exact ⟨_, rfl, by rw [E1.out]; exact HOX.out, HBX.out⟩
              · have E1 : Hid (addL l s = insB l (0) s) := by show _ = _; rw [E1.out, if_neg (by rw [ELAP.out]; simp), if_neg h256]
                have E2 : Hid (addE l s = 0) := by show _ = _; rw [E2.out, if_neg (by rw [ELAP.out]; simp), if_neg h256]
                have h256a : (l.length == 256) = false := by simpa using h256
                have h256b : (((l.length : Nat) : Int) == 256) = false := by rw [beq_eq_false_iff_ne]; omega
                clear h256
                obtain ⟨k0, k1, k2, k3, k4, k5, k6, k7⟩ := HVX.out
                simp only at k0 k1 k2 k3 k4 k5 k6 k7
                go_wp2_with (go_at_call 90; refine (CN.out _ HBX.out).mono ?_)
                rintro e w5 ⟨x, rfl, hx, hb5⟩
                obtain ⟨us2, ho5, hN5⟩ := HOX.out.below hb5
                have HN5 := Lib.hid hN5
                have HX5 := Lib.hid (hx.mono (base' := w.heap.size) HBX.out.size)
                have HB5 := Lib.hid (bthen HBX.out hb5)
                have HB6 := Lib.hid (balloc HB5.out (.cells #[.int .i64 x.first, .int .i64 x.pages, .int .i64 x.size, .int .i64 x.al.n, .slice x.al.A x.al.m x.al.c, .int .i64 x.ma.n, .slice x.ma.A x.ma.m x.ma.c, .bool x.sw] 44))
                have HO6 := Lib.hid (ho5.below (balloc (Below.refl _ _) (.cells #[.int .i64 x.first, .int .i64 x.pages, .int .i64 x.size, .int .i64 x.al.n, .slice x.al.A x.al.m x.al.c, .int .i64 x.ma.n, .slice x.ma.A x.ma.m x.ma.c, .bool x.sw] 44)))
                have CI := Lib.hid (insert57_any (q := 0) (x := x) (0) ho5 hN5.1 HLEN.out HPL.out (by omega) HB5.out.size)
                clear hx hb5 ho5 hN5 k0 k1 k2 k3 k4 k5 k6 k7
                unfold SpanV.v
                go_wp2_with (go_at_call 104; refine CI.out.mono ?_)
                rintro e w7 ⟨v7, rfl, ho7, hg7⟩
                have HB7 := Lib.hid (bgrown HB6.out hg7 (fun k hk => (HO6.out.lt k hk).1))
                have HO7 : Hid (OwL w7 w.heap.size v7 (insB l (0) s)) := ⟨_, ho7, ((HN5.out.ins HX5.out (0)).below (balloc (Below.refl _ _) _)).keep HO6.out hg7⟩
                clear ho7 hg7
                go_wp2
                go_ret2
                rw [E2.out]
                exact ⟨_, rfl, by rw [E1.out]; exact HO7.out, HB7.out⟩
          · have ELAP : Hid (lapP l s = false) := by
              show _ = _
              rw [HLAP.out]
              unfold nextP
              rw [List.getElem?_eq_none (by omega)]
            have hqe : ¬ 0 < l.length := hql
            have hqi : ¬ (0 : Int) < (l.length : Int) := by omega
            have hqd : decide ((0 : Int) < (l.length : Int)) = false := decide_eq_false hqi
            have hqz : (l.length : Int) ≤ (0 : Int) := by omega
            go_wp2
            refine region_up (by kernel_rfl) (by kernel_rfl) ?_
            iterate 5
              go_big_quiet_want
              apply Exists.intro
              refine ⟨fun W hW => ?_, ?_⟩
              · go_simp
                all_goals exact rfl
              simp only [Act.put, List.setIfInBounds_toArray, List.set_cons_succ, List.set_cons_zero]
              go_big_quiet_on
            iterate 8 go_big_quiet_skip
            iterate 2
              go_big_quiet_want
              apply Exists.intro
              refine ⟨fun W hW => ?_, ?_⟩
              · go_simp
                all_goals exact rfl
              simp only [Act.put, List.setIfInBounds_toArray, List.set_cons_succ, List.set_cons_zero]
              go_big_quiet_on
            refine wpQuiet_nil ?_
            intro W hW
            have HBX := Lib.hid (bthen HBW.out hW)
            have HOX := Lib.hid (HOW.out.below hW)
            have HVX := Lib.hid (HVW.out.below hW)
            clear hW
            by_cases h256 : l.length = 256
            · have E1 : Hid (addL l s = l) := by show _ = _; rw [E1.out, if_neg (by rw [ELAP.out]; simp), if_pos h256]
              have E2 : Hid (addE l s = 6) := by show _ = _; rw [E2.out, if_neg (by rw [ELAP.out]; simp), if_pos h256]
              rw [h256] at HOX ⊢
              clear h256
              go_wp2
              go_ret2
              rw [E2.out]
              exact ⟨_, rfl, by rw [E1.out]; exact HOX.out, HBX.out⟩
            · have E1 : Hid (addL l s = insB l (0) s) := by show _ = _; rw [E1.out, if_neg (by rw [ELAP.out]; simp), if_neg h256]
              have E2 : Hid (addE l s = 0) := by show _ = _; rw [E2.out, if_neg (by rw [ELAP.out]; simp), if_neg h256]
              have h256a : (l.length == 256) = false := by simpa using h256
              have h256b : (((l.length : Nat) : Int) == 256) = false := by rw [beq_eq_false_iff_ne]; omega
              clear h256
              obtain ⟨k0, k1, k2, k3, k4, k5, k6, k7⟩ := HVX.out
              simp only at k0 k1 k2 k3 k4 k5 k6 k7
              go_wp2_with (go_at_call 90; refine (CN.out _ HBX.out).mono ?_)
              rintro e w5 ⟨x, rfl, hx, hb5⟩
              obtain ⟨us2, ho5, hN5⟩ := HOX.out.below hb5
              have HN5 := Lib.hid hN5
              have HX5 := Lib.hid (hx.mono (base' := w.heap.size) HBX.out.size)
              have HB5 := Lib.hid (bthen HBX.out hb5)
              have HB6 := Lib.hid (balloc HB5.out (.cells #[.int .i64 x.first, .int .i64 x.pages, .int .i64 x.size, .int .i64 x.al.n, .slice x.al.A x.al.m x.al.c, .int .i64 x.ma.n, .slice x.ma.A x.ma.m x.ma.c, .bool x.sw] 44))
              have HO6 := Lib.hid (ho5.below (balloc (Below.refl _ _) (.cells #[.int .i64 x.first, .int .i64 x.pages, .int .i64 x.size, .int .i64 x.al.n, .slice x.al.A x.al.m x.al.c, .int .i64 x.ma.n, .slice x.ma.A x.ma.m x.ma.c, .bool x.sw] 44)))
              have CI := Lib.hid (insert57_any (q := 0) (x := x) (0) ho5 hN5.1 HLEN.out HPL.out (by omega) HB5.out.size)
              clear hx hb5 ho5 hN5 k0 k1 k2 k3 k4 k5 k6 k7
              unfold SpanV.v
              go_wp2_with (go_at_call 104; refine CI.out.mono ?_)
              rintro e w7 ⟨v7, rfl, ho7, hg7⟩
              have HB7 := Lib.hid (bgrown HB6.out hg7 (fun k hk => (HO6.out.lt k hk).1))
              have HO7 : Hid (OwL w7 w.heap.size v7 (insB l (0) s)) := ⟨_, ho7, ((HN5.out.ins HX5.out (0)).below (balloc (Below.refl _ _) _)).keep HO6.out hg7⟩
              clear ho7 hg7
              go_wp2
              go_ret2
              rw [E2.out]
              exact ⟨_, rfl, by rw [E1.out]; exact HO7.out, HB7.out⟩
        · have hj : j < l.length := by have := HPL.out; omega
          have hsp : l[j]? = some l[j] := List.getElem?_eq_getElem hj
          generalize l[j] = sp at hsp
          obtain ⟨vp, bp, op, hvp, hRp, hAp, hbp, d0, d1, d2, d3, d4, d5, d6, d7⟩ := HR4.out.at_ hsp
          have hrp := okL_right HOK.out hsp
          have CP : Hid (∀ W, Calls Tryz.prog 98 #[vp.v] W (Ret (.int .i64 (endP sp)) W)) := fun W => by
            have := end46 vp W
            rwa [hRp.first, hRp.pages, (right_end hrp).1] at this
          obtain ⟨fp, pp, zp, ⟨np, A1p, mp, cap⟩, ⟨np', A2p, mp', cbp⟩, swp⟩ := vp
          unfold SpanV.v at CP
          simp only at d0 d1 d2 d3 d4 d5 d6 d7 CP
          cases hAp
          have HSP := Lib.hid hsp
          have HV7 := HV4.out
          obtain ⟨k0, k1, k2, k3, k4, k5, k6, k7⟩ := HV7
          simp only at k0
          have K0 := Lib.hid k0
          have L0 := Lib.hid d0
          have L1 := Lib.hid d1
          have L2 := Lib.hid d2
          have L3 := Lib.hid d3
          have L4 := Lib.hid d4
          have L5 := Lib.hid d5
          have L6 := Lib.hid d6
          have L7 := Lib.hid d7
          clear hvp hRp hbp hrp hsp d0 d1 d2 d3 d4 d5 d6 d7 k0 k1 k2 k3 k4 k5 k6 k7
          have hw1 := wrap_in (x := (j : Int)) (by omega)
          by_cases hlo : s.first < endP sp
          · have ELAP : Hid (lapP l s = true) := by
              show _ = _
              rw [HLAP.out, show leftP l (j + 1) s = true from by unfold leftP; simp only; rw [HSP.out]; exact decide_eq_true hlo]
              try simp
            have E1 : Hid (addL l s = l) := by show _ = _; rw [E1.out, if_pos ELAP.out]
            have E2 : Hid (addE l s = 4) := by show _ = _; rw [E2.out, if_pos ELAP.out]
            go_wp2
            refine region_up (by kernel_rfl) (by kernel_rfl) ?_
            iterate 8
              go_big_quiet_want
              apply Exists.intro
              refine ⟨fun W hW => ?_, ?_⟩
              · have g0 := cell_later hW K0.out
                have g1 := cell_later hW L0.out
                have g2 := cell_later hW L1.out
                have g3 := cell_later hW L2.out
                have g4 := cell_later hW L3.out
                have g5 := cell_later hW L4.out
                have g6 := cell_later hW L5.out
                have g7 := cell_later hW L6.out
                have g8 := cell_later hW L7.out
                go_simp
                all_goals exact rfl
              simp only [Act.put, List.setIfInBounds_toArray, List.set_cons_succ, List.set_cons_zero]
              go_big_quiet_on
            go_big_quiet_want
            apply Exists.intro
            refine ⟨fun W hW => ?_, ?_⟩
            · have g0 := cell_later hW K0.out
              have g1 := cell_later hW L0.out
              have g2 := cell_later hW L1.out
              have g3 := cell_later hW L2.out
              have g4 := cell_later hW L3.out
              have g5 := cell_later hW L4.out
              have g6 := cell_later hW L5.out
              have g7 := cell_later hW L6.out
              have g8 := cell_later hW L7.out
              go_simp
              exact call_up hW (CP.out W)
            simp only [Act.put, List.setIfInBounds_toArray, List.set_cons_succ, List.set_cons_zero]
            go_big_quiet_on
            iterate 5
              go_big_quiet_want
              apply Exists.intro
              refine ⟨fun W hW => ?_, ?_⟩
              · have g0 := cell_later hW K0.out
                have g1 := cell_later hW L0.out
                have g2 := cell_later hW L1.out
                have g3 := cell_later hW L2.out
                have g4 := cell_later hW L3.out
                have g5 := cell_later hW L4.out
                have g6 := cell_later hW L5.out
                have g7 := cell_later hW L6.out
                have g8 := cell_later hW L7.out
                go_simp
                all_goals exact rfl
              simp only [Act.put, List.setIfInBounds_toArray, List.set_cons_succ, List.set_cons_zero]
              go_big_quiet_on
            refine wpQuiet_nil ?_
            intro W hW
            clear hw1
            have HBX := Lib.hid (bthen HB4.out hW)
            have HOX := Lib.hid (HO4.out.below hW)
            clear hW
            go_wp2
            go_ret2
            rw [E2.out]
            exact ⟨_, rfl, by rw [E1.out]; exact HOX.out, HBX.out⟩
          · have HL0 : Hid (leftP l (j + 1) s = false) := by show _ = _; unfold leftP; simp only; rw [HSP.out]; exact decide_eq_false hlo
            rw [HL0.out, Bool.false_or] at HLAP
            go_wp2
            refine region_up (by kernel_rfl) (by kernel_rfl) ?_
            iterate 8
              go_big_quiet_want
              apply Exists.intro
              refine ⟨fun W hW => ?_, ?_⟩
              · have g0 := cell_later hW K0.out
                have g1 := cell_later hW L0.out
                have g2 := cell_later hW L1.out
                have g3 := cell_later hW L2.out
                have g4 := cell_later hW L3.out
                have g5 := cell_later hW L4.out
                have g6 := cell_later hW L5.out
                have g7 := cell_later hW L6.out
                have g8 := cell_later hW L7.out
                go_simp
                all_goals exact rfl
              simp only [Act.put, List.setIfInBounds_toArray, List.set_cons_succ, List.set_cons_zero]
              go_big_quiet_on
            go_big_quiet_want
            apply Exists.intro
            refine ⟨fun W hW => ?_, ?_⟩
            · have g0 := cell_later hW K0.out
              have g1 := cell_later hW L0.out
              have g2 := cell_later hW L1.out
              have g3 := cell_later hW L2.out
              have g4 := cell_later hW L3.out
              have g5 := cell_later hW L4.out
              have g6 := cell_later hW L5.out
              have g7 := cell_later hW L6.out
              have g8 := cell_later hW L7.out
              go_simp
              exact call_up hW (CP.out W)
            simp only [Act.put, List.setIfInBounds_toArray, List.set_cons_succ, List.set_cons_zero]
            go_big_quiet_on
            iterate 5
              go_big_quiet_want
              apply Exists.intro
              refine ⟨fun W hW => ?_, ?_⟩
              · have g0 := cell_later hW K0.out
                have g1 := cell_later hW L0.out
                have g2 := cell_later hW L1.out
                have g3 := cell_later hW L2.out
                have g4 := cell_later hW L3.out
                have g5 := cell_later hW L4.out
                have g6 := cell_later hW L5.out
                have g7 := cell_later hW L6.out
                have g8 := cell_later hW L7.out
                go_simp
                all_goals exact rfl
              simp only [Act.put, List.setIfInBounds_toArray, List.set_cons_succ, List.set_cons_zero]
              go_big_quiet_on
            refine wpQuiet_nil ?_
            intro W hW
            clear hw1
            have HBW := Lib.hid (bthen HB4.out hW)
            have HOW := Lib.hid (HO4.out.below hW)
            have HVW := Lib.hid (HV4.out.below hW)
            have HRW := Lib.hid (HR4.out.below hW)
            clear hW K0 L0 L1 L2 L3 L4 L5 L6 L7
            have hq := HPL.out
            by_cases hql : (j + 1) < l.length
            · have hqi : (((j : Int) + 1) : Int) < (l.length : Int) := by omega
              have hq0 : 0 ≤ (((j : Int) + 1) : Int) := by omega
              have hsy : l[(j + 1)]? = some l[(j + 1)] := List.getElem?_eq_getElem hql
              generalize l[(j + 1)] = y at hsy
              obtain ⟨vy, by_, oy, hvy, hRy, hAy, hby, d0, d1, d2, d3, d4, d5, d6, d7⟩ := HRW.out.at_ hsy
              have hy1 := hRy.first
              have hri := right_end (okL_right HOK.out hsy)
              obtain ⟨fy, py, zy, ⟨ny, A1y, my, cay⟩, ⟨ny', A2y, my', cby⟩, swy⟩ := vy
              simp only at d0 hy1
              try simp only [Nat.zero_mul, Nat.add_zero] at d0
              subst hy1
              cases hAy
              have HSY := Lib.hid hsy
              have HV7 := HVW.out
              obtain ⟨k0, k1, k2, k3, k4, k5, k6, k7⟩ := HV7
              simp only at k0 k1 k2 k3 k4 k5 k6 k7
              have K0 := Lib.hid k0
              have K1 := Lib.hid k1
              have K2 := Lib.hid k2
              have K3 := Lib.hid k3
              have K4 := Lib.hid k4
              have K5 := Lib.hid k5
              have K6 := Lib.hid k6
              have K7 := Lib.hid k7
              have L0 := Lib.hid d0
              clear hvy hRy hby d0 d1 d2 d3 d4 d5 d6 d7 k0 k1 k2 k3 k4 k5 k6 k7 hri hsy
              by_cases hov : y.first < endP s
              · have ELAP : Hid (lapP l s = true) := by
                  show _ = _
                  rw [HLAP.out, show nextP l ((j + 1)) s = true from by unfold nextP; rw [HSY.out]; exact decide_eq_true hov]
                  try simp
                have E1 : Hid (addL l s = l) := by show _ = _; rw [E1.out, if_pos ELAP.out]
                have E2 : Hid (addE l s = 4) := by show _ = _; rw [E2.out, if_pos ELAP.out]
                go_wp2
                refine region_up (by kernel_rfl) (by kernel_rfl) ?_
                iterate 6
                  go_big_quiet_want
                  apply Exists.intro
                  refine ⟨fun W hW => ?_, ?_⟩
                  · have g0 := cell_later hW K0.out
                    have g1 := cell_later hW K1.out
                    have g2 := cell_later hW K2.out
                    have g3 := cell_later hW K3.out
                    have g4 := cell_later hW K4.out
                    have g5 := cell_later hW K5.out
                    have g6 := cell_later hW K6.out
                    have g7 := cell_later hW K7.out
                    have g8 := cell_later hW L0.out
                    go_simp
                    all_goals exact rfl
                  simp only [Act.put, List.setIfInBounds_toArray, List.set_cons_succ, List.set_cons_zero]
                  go_big_quiet_on
                go_big_quiet_want
                apply Exists.intro
                refine ⟨fun W hW => ?_, ?_⟩
                · have g0 := cell_later hW K0.out
                  have g1 := cell_later hW K1.out
                  have g2 := cell_later hW K2.out
                  have g3 := cell_later hW K3.out
                  have g4 := cell_later hW K4.out
                  have g5 := cell_later hW K5.out
                  have g6 := cell_later hW K6.out
                  have g7 := cell_later hW K7.out
                  have g8 := cell_later hW L0.out
                  go_simp
                  exact call_up hW (CE.out W)
                simp only [Act.put, List.setIfInBounds_toArray, List.set_cons_succ, List.set_cons_zero]
                go_big_quiet_on
                iterate 8
                  go_big_quiet_want
                  apply Exists.intro
                  refine ⟨fun W hW => ?_, ?_⟩
                  · have g0 := cell_later hW K0.out
                    have g1 := cell_later hW K1.out
                    have g2 := cell_later hW K2.out
                    have g3 := cell_later hW K3.out
                    have g4 := cell_later hW K4.out
                    have g5 := cell_later hW K5.out
                    have g6 := cell_later hW K6.out
                    have g7 := cell_later hW K7.out
                    have g8 := cell_later hW L0.out
                    go_simp
                    all_goals exact rfl
                  simp only [Act.put, List.setIfInBounds_toArray, List.set_cons_succ, List.set_cons_zero]
                  go_big_quiet_on
                refine wpQuiet_nil ?_
                intro W hW
                have HBX := Lib.hid (bthen HBW.out hW)
                have HOX := Lib.hid (HOW.out.below hW)
                clear hW
                go_wp2
                go_ret2
                rw [E2.out]
                exact ⟨_, rfl, by rw [E1.out]; exact HOX.out, HBX.out⟩
              · have ELAP : Hid (lapP l s = false) := by
                  show _ = _
                  rw [HLAP.out]
                  unfold nextP
                  rw [HSY.out]
                  exact decide_eq_false hov
                go_wp2
                refine region_up (by kernel_rfl) (by kernel_rfl) ?_
                iterate 6
                  go_big_quiet_want
                  apply Exists.intro
                  refine ⟨fun W hW => ?_, ?_⟩
                  · have g0 := cell_later hW K0.out
                    have g1 := cell_later hW K1.out
                    have g2 := cell_later hW K2.out
                    have g3 := cell_later hW K3.out
                    have g4 := cell_later hW K4.out
                    have g5 := cell_later hW K5.out
                    have g6 := cell_later hW K6.out
                    have g7 := cell_later hW K7.out
                    have g8 := cell_later hW L0.out
                    go_simp
                    all_goals exact rfl
                  simp only [Act.put, List.setIfInBounds_toArray, List.set_cons_succ, List.set_cons_zero]
                  go_big_quiet_on
                go_big_quiet_want
                apply Exists.intro
                refine ⟨fun W hW => ?_, ?_⟩
                · have g0 := cell_later hW K0.out
                  have g1 := cell_later hW K1.out
                  have g2 := cell_later hW K2.out
                  have g3 := cell_later hW K3.out
                  have g4 := cell_later hW K4.out
                  have g5 := cell_later hW K5.out
                  have g6 := cell_later hW K6.out
                  have g7 := cell_later hW K7.out
                  have g8 := cell_later hW L0.out
                  go_simp
                  exact call_up hW (CE.out W)
                simp only [Act.put, List.setIfInBounds_toArray, List.set_cons_succ, List.set_cons_zero]
                go_big_quiet_on
                iterate 8
                  go_big_quiet_want
                  apply Exists.intro
                  refine ⟨fun W hW => ?_, ?_⟩
                  · have g0 := cell_later hW K0.out
                    have g1 := cell_later hW K1.out
                    have g2 := cell_later hW K2.out
                    have g3 := cell_later hW K3.out
                    have g4 := cell_later hW K4.out
                    have g5 := cell_later hW K5.out
                    have g6 := cell_later hW K6.out
                    have g7 := cell_later hW K7.out
                    have g8 := cell_later hW L0.out
                    go_simp
                    all_goals exact rfl
                  simp only [Act.put, List.setIfInBounds_toArray, List.set_cons_succ, List.set_cons_zero]
                  go_big_quiet_on
                refine wpQuiet_nil ?_
                intro W hW
                have HBX := Lib.hid (bthen HBW.out hW)
                have HOX := Lib.hid (HOW.out.below hW)
                have HVX := Lib.hid (HVW.out.below hW)
                clear hW
                by_cases h256 : l.length = 256
                · have E1 : Hid (addL l s = l) := by show _ = _; rw [E1.out, if_neg (by rw [ELAP.out]; simp), if_pos h256]
                  have E2 : Hid (addE l s = 6) := by show _ = _; rw [E2.out, if_neg (by rw [ELAP.out]; simp), if_pos h256]
                  rw [h256] at HOX ⊢
                  clear h256
                  go_wp2
                  go_ret2
                  rw [E2.out]
                  exact ⟨_, rfl, by rw [E1.out]; exact HOX.out, HBX.out⟩
                · have E1 : Hid (addL l s = insB l ((j + 1)) s) := by show _ = _; rw [E1.out, if_neg (by rw [ELAP.out]; simp), if_neg h256]
                  have E2 : Hid (addE l s = 0) := by show _ = _; rw [E2.out, if_neg (by rw [ELAP.out]; simp), if_neg h256]
                  have h256a : (l.length == 256) = false := by simpa using h256
                  have h256b : (((l.length : Nat) : Int) == 256) = false := by rw [beq_eq_false_iff_ne]; omega
                  clear h256
                  obtain ⟨k0, k1, k2, k3, k4, k5, k6, k7⟩ := HVX.out
                  simp only at k0 k1 k2 k3 k4 k5 k6 k7
                  go_wp2_with (go_at_call 90; refine (CN.out _ HBX.out).mono ?_)
                  rintro e w5 ⟨x, rfl, hx, hb5⟩
                  obtain ⟨us2, ho5, hN5⟩ := HOX.out.below hb5
                  have HN5 := Lib.hid hN5
                  have HX5 := Lib.hid (hx.mono (base' := w.heap.size) HBX.out.size)
                  have HB5 := Lib.hid (bthen HBX.out hb5)
                  have HB6 := Lib.hid (balloc HB5.out (.cells #[.int .i64 x.first, .int .i64 x.pages, .int .i64 x.size, .int .i64 x.al.n, .slice x.al.A x.al.m x.al.c, .int .i64 x.ma.n, .slice x.ma.A x.ma.m x.ma.c, .bool x.sw] 44))
                  have HO6 := Lib.hid (ho5.below (balloc (Below.refl _ _) (.cells #[.int .i64 x.first, .int .i64 x.pages, .int .i64 x.size, .int .i64 x.al.n, .slice x.al.A x.al.m x.al.c, .int .i64 x.ma.n, .slice x.ma.A x.ma.m x.ma.c, .bool x.sw] 44)))
                  have CI := Lib.hid (insert57_any (q := (j + 1)) (x := x) (((j : Int) + 1)) ho5 hN5.1 HLEN.out HPL.out (by omega) HB5.out.size)
                  clear hx hb5 ho5 hN5 k0 k1 k2 k3 k4 k5 k6 k7
                  unfold SpanV.v
                  go_wp2_with (go_at_call 104; refine CI.out.mono ?_)
                  rintro e w7 ⟨v7, rfl, ho7, hg7⟩
                  have HB7 := Lib.hid (bgrown HB6.out hg7 (fun k hk => (HO6.out.lt k hk).1))
                  have HO7 : Hid (OwL w7 w.heap.size v7 (insB l ((j + 1)) s)) := ⟨_, ho7, ((HN5.out.ins HX5.out ((j + 1))).below (balloc (Below.refl _ _) _)).keep HO6.out hg7⟩
                  clear ho7 hg7
                  go_wp2
                  go_ret2
                  rw [E2.out]
                  exact ⟨_, rfl, by rw [E1.out]; exact HO7.out, HB7.out⟩
            · have ELAP : Hid (lapP l s = false) := by
                show _ = _
                rw [HLAP.out]
                unfold nextP
                rw [List.getElem?_eq_none (by omega)]
              have hqe : ¬ (j + 1) < l.length := hql
              have hqi : ¬ (((j : Int) + 1) : Int) < (l.length : Int) := by omega
              have hqd : decide ((((j : Int) + 1) : Int) < (l.length : Int)) = false := decide_eq_false hqi
              have hqz : (l.length : Int) ≤ (((j : Int) + 1) : Int) := by omega
              go_wp2
              refine region_up (by kernel_rfl) (by kernel_rfl) ?_
              iterate 5
                go_big_quiet_want
                apply Exists.intro
                refine ⟨fun W hW => ?_, ?_⟩
                · go_simp
                  all_goals exact rfl
                simp only [Act.put, List.setIfInBounds_toArray, List.set_cons_succ, List.set_cons_zero]
                go_big_quiet_on
              iterate 8 go_big_quiet_skip
              iterate 2
                go_big_quiet_want
                apply Exists.intro
                refine ⟨fun W hW => ?_, ?_⟩
                · go_simp
                  all_goals exact rfl
                simp only [Act.put, List.setIfInBounds_toArray, List.set_cons_succ, List.set_cons_zero]
                go_big_quiet_on
              refine wpQuiet_nil ?_
              intro W hW
              have HBX := Lib.hid (bthen HBW.out hW)
              have HOX := Lib.hid (HOW.out.below hW)
              have HVX := Lib.hid (HVW.out.below hW)
              clear hW
              by_cases h256 : l.length = 256
              · have E1 : Hid (addL l s = l) := by show _ = _; rw [E1.out, if_neg (by rw [ELAP.out]; simp), if_pos h256]
                have E2 : Hid (addE l s = 6) := by show _ = _; rw [E2.out, if_neg (by rw [ELAP.out]; simp), if_pos h256]
                rw [h256] at HOX ⊢
                clear h256
                go_wp2
                go_ret2
                rw [E2.out]
                exact ⟨_, rfl, by rw [E1.out]; exact HOX.out, HBX.out⟩
              · have E1 : Hid (addL l s = insB l ((j + 1)) s) := by show _ = _; rw [E1.out, if_neg (by rw [ELAP.out]; simp), if_neg h256]
                have E2 : Hid (addE l s = 0) := by show _ = _; rw [E2.out, if_neg (by rw [ELAP.out]; simp), if_neg h256]
                have h256a : (l.length == 256) = false := by simpa using h256
                have h256b : (((l.length : Nat) : Int) == 256) = false := by rw [beq_eq_false_iff_ne]; omega
                clear h256
                obtain ⟨k0, k1, k2, k3, k4, k5, k6, k7⟩ := HVX.out
                simp only at k0 k1 k2 k3 k4 k5 k6 k7
                go_wp2_with (go_at_call 90; refine (CN.out _ HBX.out).mono ?_)
                rintro e w5 ⟨x, rfl, hx, hb5⟩
                obtain ⟨us2, ho5, hN5⟩ := HOX.out.below hb5
                have HN5 := Lib.hid hN5
                have HX5 := Lib.hid (hx.mono (base' := w.heap.size) HBX.out.size)
                have HB5 := Lib.hid (bthen HBX.out hb5)
                have HB6 := Lib.hid (balloc HB5.out (.cells #[.int .i64 x.first, .int .i64 x.pages, .int .i64 x.size, .int .i64 x.al.n, .slice x.al.A x.al.m x.al.c, .int .i64 x.ma.n, .slice x.ma.A x.ma.m x.ma.c, .bool x.sw] 44))
                have HO6 := Lib.hid (ho5.below (balloc (Below.refl _ _) (.cells #[.int .i64 x.first, .int .i64 x.pages, .int .i64 x.size, .int .i64 x.al.n, .slice x.al.A x.al.m x.al.c, .int .i64 x.ma.n, .slice x.ma.A x.ma.m x.ma.c, .bool x.sw] 44)))
                have CI := Lib.hid (insert57_any (q := (j + 1)) (x := x) (((j : Int) + 1)) ho5 hN5.1 HLEN.out HPL.out (by omega) HB5.out.size)
                clear hx hb5 ho5 hN5 k0 k1 k2 k3 k4 k5 k6 k7
                unfold SpanV.v
                go_wp2_with (go_at_call 104; refine CI.out.mono ?_)
                rintro e w7 ⟨v7, rfl, ho7, hg7⟩
                have HB7 := Lib.hid (bgrown HB6.out hg7 (fun k hk => (HO6.out.lt k hk).1))
                have HO7 : Hid (OwL w7 w.heap.size v7 (insB l ((j + 1)) s)) := ⟨_, ho7, ((HN5.out.ins HX5.out ((j + 1))).below (balloc (Below.refl _ _) _)).keep HO6.out hg7⟩
                clear ho7 hg7
                go_wp2
                go_ret2
                rw [E2.out]
                exact ⟨_, rfl, by rw [E1.out]; exact HO7.out, HB7.out⟩
      · have ELAP : Hid (lapP l s = true) := by show _ = _; rw [HLAP.out, hfd]; rfl
        have E1 : Hid (addL l s = l) := by show _ = _; rw [E1.out, if_pos ELAP.out]
        have E2 : Hid (addE l s = 4) := by show _ = _; rw [E2.out, if_pos ELAP.out]
        clear hfd
        go_wp2
        go_ret2
        rw [E2.out]
        exact ⟨_, rfl, by rw [E1.out]; exact HO4.out, HB4.out⟩
    · have hr' : rightP s = false := by simpa using hr
      have E1 : Hid (addL l s = []) := by show _ = _; unfold addL; rw [if_neg (fun h => hr h.2)]
      have E2 : Hid (addE l s = 2) := by show _ = _; unfold addE; rw [if_neg (fun h => hr h.2)]
      rw [hr'] at CR
      clear hok hr hr' CN CE CO
      go_enter Tryz.func69, Tryz.ntmps69
      go_wp2_with (go_at_call 66; refine (CC.out _ HB0.out).mono ?_)
      rintro e w1 ⟨rfl, hb1⟩
      have HB1 := Lib.hid (bthen HB0.out hb1)
      obtain ⟨k0, k1, k2, k3, k4, k5, k6, k7⟩ := HV0.out.below hb1
      clear hb1
      simp only at k0 k1 k2 k3 k4 k5 k6 k7
      go_wp2_with (go_at_call 97; refine (CR.out _ HB1.out).mono ?_)
      rintro e w2 ⟨rfl, hb2⟩
      have HB2 := Lib.hid (bthen HB1.out hb2)
      clear hb2
      go_wp2
      go_ret2
      rw [E2.out]
      exact ⟨_, rfl, by rw [E1.out]; exact OwL.nil_ _ _, HB2.out⟩
  · have E1 : Hid (addL l s = []) := by show _ = _; unfold addL; rw [if_neg (fun h => hok h.1)]
    have E2 : Hid (addE l s = 2) := by show _ = _; unfold addE; rw [if_neg (fun h => hok h.1)]
    rw [show chkE l = 2 from by simp [chkE, hok]] at CC
    clear hok CN CE CO
    go_enter Tryz.func69, Tryz.ntmps69
    go_wp2_with (go_at_call 66; refine (CC.out _ HB0.out).mono ?_)
    rintro e w1 ⟨rfl, hb1⟩
    have HB1 := Lib.hid (bthen HB0.out hb1)
    clear hb1
    go_wp2
    go_ret2
    rw [E2.out]
    exact ⟨_, rfl, by rw [E1.out]; exact OwL.nil_ _ _, HB1.out⟩


theorem takeS_succ {l m : List SpanB} {k : Nat} {x y : SpanB} (h : l.take k = m.take k) (hx : l[k]? = some x) (hy : m[k]? = some y) (e : x = y) : l.take (k + 1) = m.take (k + 1) := by
  rw [List.take_add_one, List.take_add_one, h, hx, hy, e]
theorem neS_at {l m : List SpanB} {k : Nat} {x y : SpanB} (hx : l[k]? = some x) (hy : m[k]? = some y) (e : x ≠ y) : l ≠ m := by
  intro h
  rw [h, hy] at hx
  exact e (Option.some.inj hx).symm
set_option maxRecDepth 100000 in
set_option maxHeartbeats 8000000 in
theorem same30 (A B : Option Addr) (c d : Nat) (vs us : List SpanV) (l m : List SpanB) (w : World) (ha : RdL w A vs l) (hb : RdL w B us m) :
    Calls Tryz.prog 23 #[.slice A l.length c, .slice B m.length d] w (Ret (.bool (decide (l = m))) w) := by
  have hl := ha.len
  have hlm := hb.len
  have HA := Lib.hid ha
  have HB := Lib.hid hb
  clear ha hb
  by_cases h : m.length = l.length
  · have HM := Lib.hid h
    rw [h] at hlm ⊢
    clear h hlm
    go_enter Tryz.func23, Tryz.ntmps23
    go_wp2
    obtain ⟨wo, hwo⟩ : ∃ wo : World, wo = w := ⟨w, rfl⟩
    go_loopw [13] (fun i wr => ∃ k : Nat, k ≤ l.length ∧ i = .int .i64 k ∧ Hid (l.take k = m.take k) ∧ Hid (Below w.heap.size w wr)) (fun i _ => l.length - (intOf i).toNat)
    case atStart => exact ⟨0, Nat.zero_le _, rfl, Eq.refl (l.take 0), Below.refl _ _⟩
    case round =>
      obtain ⟨k, hk, rfl, HT, HBr⟩ := hrel
      by_cases hlt : k < l.length
      · have hs : l[k]? = some l[k] := List.getElem?_eq_getElem hlt
        have hmk : k < m.length := by rw [HM.out]; exact hlt
        have ht : m[k]? = some m[k] := List.getElem?_eq_getElem hmk
        generalize l[k] = s at hs
        generalize m[k] = t at ht
        clear hmk
        obtain ⟨v, bv, ov, hvi, hR, hA, hbv, c0, c1, c2, c3, c4, c5, c6, c7⟩ := HA.out.at_ hs
        obtain ⟨u, bu, ou, hvk, hR', hA', hbu, d0, d1, d2, d3, d4, d5, d6, d7⟩ := HB.out.at_ ht
        subst hA
        subst hA'
        have CS : Hid (∀ W, Below w.heap.size w W → Calls Tryz.prog 54 #[v.v, u.v] W (Ret (.bool (sameS s t)) W)) := fun W hW => same18 v u s t W (hR.below hW) (hR'.below hW)
        obtain ⟨f, p, z, ⟨n, A1, m1, ca⟩, ⟨n', A2, m', cb⟩, sw⟩ := v
        obtain ⟨f2, p2, z2, ⟨n2, A12, m12, ca2⟩, ⟨n2', A22, m2', cb2⟩, sw2⟩ := u
        unfold SpanV.v at CS
        simp only at c0 c1 c2 c3 c4 c5 c6 c7 d0 d1 d2 d3 d4 d5 d6 d7 CS
        clear hR hR' hvi hvk
        have HS := Lib.hid hs
        have HTT := Lib.hid ht
        clear hs ht
        have X0 := Lib.hid (cell_later HBr.out c0)
        have X1 := Lib.hid (cell_later HBr.out c1)
        have X2 := Lib.hid (cell_later HBr.out c2)
        have X3 := Lib.hid (cell_later HBr.out c3)
        have X4 := Lib.hid (cell_later HBr.out c4)
        have X5 := Lib.hid (cell_later HBr.out c5)
        have X6 := Lib.hid (cell_later HBr.out c6)
        have X7 := Lib.hid (cell_later HBr.out c7)
        have Y0 := Lib.hid (cell_later HBr.out d0)
        have Y1 := Lib.hid (cell_later HBr.out d1)
        have Y2 := Lib.hid (cell_later HBr.out d2)
        have Y3 := Lib.hid (cell_later HBr.out d3)
        have Y4 := Lib.hid (cell_later HBr.out d4)
        have Y5 := Lib.hid (cell_later HBr.out d5)
        have Y6 := Lib.hid (cell_later HBr.out d6)
        have Y7 := Lib.hid (cell_later HBr.out d7)
        clear c0 c1 c2 c3 c4 c5 c6 c7 d0 d1 d2 d3 d4 d5 d6 d7
        by_cases hst : s = t
        · rw [show sameS s t = true from sameS_iff.2 hst] at CS
          have HST := Lib.hid hst
          clear hst
          go_wp2
          refine region_up (by kernel_rfl) (by kernel_rfl) ?_
          iterate 8
            go_big_quiet_want
            apply Exists.intro
            refine ⟨fun W hW => ?_, ?_⟩
            · have g0 := cell_later hW X0.out
              have g1 := cell_later hW X1.out
              have g2 := cell_later hW X2.out
              have g3 := cell_later hW X3.out
              have g4 := cell_later hW X4.out
              have g5 := cell_later hW X5.out
              have g6 := cell_later hW X6.out
              have g7 := cell_later hW X7.out
              have g8 := cell_later hW Y0.out
              have g9 := cell_later hW Y1.out
              have g10 := cell_later hW Y2.out
              have g11 := cell_later hW Y3.out
              have g12 := cell_later hW Y4.out
              have g13 := cell_later hW Y5.out
              have g14 := cell_later hW Y6.out
              have g15 := cell_later hW Y7.out
              go_simp
              all_goals exact rfl
            simp only [Act.put, List.setIfInBounds_toArray, List.set_cons_succ, List.set_cons_zero]
            go_big_quiet_on
          go_big_quiet_want
          apply Exists.intro
          refine ⟨fun W hW => ?_, ?_⟩
          · have g0 := cell_later hW X0.out
            have g1 := cell_later hW X1.out
            have g2 := cell_later hW X2.out
            have g3 := cell_later hW X3.out
            have g4 := cell_later hW X4.out
            have g5 := cell_later hW X5.out
            have g6 := cell_later hW X6.out
            have g7 := cell_later hW X7.out
            have g8 := cell_later hW Y0.out
            have g9 := cell_later hW Y1.out
            have g10 := cell_later hW Y2.out
            have g11 := cell_later hW Y3.out
            have g12 := cell_later hW Y4.out
            have g13 := cell_later hW Y5.out
            have g14 := cell_later hW Y6.out
            have g15 := cell_later hW Y7.out
            go_simp
            exact call_up hW (CS.out W (bthen HBr.out hW))
          simp only [Act.put, List.setIfInBounds_toArray, List.set_cons_succ, List.set_cons_zero]
          go_big_quiet_on
          go_big_quiet_want
          apply Exists.intro
          refine ⟨fun W hW => ?_, ?_⟩
          · have g0 := cell_later hW X0.out
            have g1 := cell_later hW X1.out
            have g2 := cell_later hW X2.out
            have g3 := cell_later hW X3.out
            have g4 := cell_later hW X4.out
            have g5 := cell_later hW X5.out
            have g6 := cell_later hW X6.out
            have g7 := cell_later hW X7.out
            have g8 := cell_later hW Y0.out
            have g9 := cell_later hW Y1.out
            have g10 := cell_later hW Y2.out
            have g11 := cell_later hW Y3.out
            have g12 := cell_later hW Y4.out
            have g13 := cell_later hW Y5.out
            have g14 := cell_later hW Y6.out
            have g15 := cell_later hW Y7.out
            go_simp
            all_goals exact rfl
          simp only [Act.put, List.setIfInBounds_toArray, List.set_cons_succ, List.set_cons_zero]
          go_big_quiet_on
          refine wpQuiet_nil ?_
          intro W hW
          have HBW := Lib.hid (bthen HBr.out hW)
          clear hW
          go_wp2
          go_roundw
          case rel => exact ⟨k + 1, by omega, by go_num, takeS_succ HT.out HS.out HTT.out HST.out, HBW.out⟩
          case measure => simp [intOf]; omega
        · rw [show sameS s t = false from by rw [← Bool.not_eq_true, sameS_iff]; exact hst] at CS
          have HST := Lib.hid (neS_at HS.out HTT.out hst)
          clear hst
          go_wp2
          refine region_up (by kernel_rfl) (by kernel_rfl) ?_
          iterate 8
            go_big_quiet_want
            apply Exists.intro
            refine ⟨fun W hW => ?_, ?_⟩
            · have g0 := cell_later hW X0.out
              have g1 := cell_later hW X1.out
              have g2 := cell_later hW X2.out
              have g3 := cell_later hW X3.out
              have g4 := cell_later hW X4.out
              have g5 := cell_later hW X5.out
              have g6 := cell_later hW X6.out
              have g7 := cell_later hW X7.out
              have g8 := cell_later hW Y0.out
              have g9 := cell_later hW Y1.out
              have g10 := cell_later hW Y2.out
              have g11 := cell_later hW Y3.out
              have g12 := cell_later hW Y4.out
              have g13 := cell_later hW Y5.out
              have g14 := cell_later hW Y6.out
              have g15 := cell_later hW Y7.out
              go_simp
              all_goals exact rfl
            simp only [Act.put, List.setIfInBounds_toArray, List.set_cons_succ, List.set_cons_zero]
            go_big_quiet_on
          go_big_quiet_want
          apply Exists.intro
          refine ⟨fun W hW => ?_, ?_⟩
          · have g0 := cell_later hW X0.out
            have g1 := cell_later hW X1.out
            have g2 := cell_later hW X2.out
            have g3 := cell_later hW X3.out
            have g4 := cell_later hW X4.out
            have g5 := cell_later hW X5.out
            have g6 := cell_later hW X6.out
            have g7 := cell_later hW X7.out
            have g8 := cell_later hW Y0.out
            have g9 := cell_later hW Y1.out
            have g10 := cell_later hW Y2.out
            have g11 := cell_later hW Y3.out
            have g12 := cell_later hW Y4.out
            have g13 := cell_later hW Y5.out
            have g14 := cell_later hW Y6.out
            have g15 := cell_later hW Y7.out
            go_simp
            exact call_up hW (CS.out W (bthen HBr.out hW))
          simp only [Act.put, List.setIfInBounds_toArray, List.set_cons_succ, List.set_cons_zero]
          go_big_quiet_on
          go_big_quiet_want
          apply Exists.intro
          refine ⟨fun W hW => ?_, ?_⟩
          · have g0 := cell_later hW X0.out
            have g1 := cell_later hW X1.out
            have g2 := cell_later hW X2.out
            have g3 := cell_later hW X3.out
            have g4 := cell_later hW X4.out
            have g5 := cell_later hW X5.out
            have g6 := cell_later hW X6.out
            have g7 := cell_later hW X7.out
            have g8 := cell_later hW Y0.out
            have g9 := cell_later hW Y1.out
            have g10 := cell_later hW Y2.out
            have g11 := cell_later hW Y3.out
            have g12 := cell_later hW Y4.out
            have g13 := cell_later hW Y5.out
            have g14 := cell_later hW Y6.out
            have g15 := cell_later hW Y7.out
            go_simp
            all_goals exact rfl
          simp only [Act.put, List.setIfInBounds_toArray, List.set_cons_succ, List.set_cons_zero]
          go_big_quiet_on
          refine wpQuiet_nil ?_
          intro W hW
          have HBW := Lib.hid (bthen HBr.out hW)
          clear hW
          go_wp2
          go_ret
          rw [decide_eq_false HST.out]
          exact ⟨rfl, HBW.out⟩
      · have hkl : k = l.length := by omega
        subst hkl
        go_wp2
        go_ret
        rw [decide_eq_true (show l = m from by have := HT.out; rwa [List.take_length, ← HM.out, List.take_length] at this)]
        exact ⟨rfl, HBr.out⟩
  · have E : Hid (decide (l = m) = false) := by show _ = _; exact decide_eq_false (fun e => h (by rw [e]))
    have e2 : (l.length != m.length) = true := by rw [bne_iff_ne]; omega
    have e3 : (((l.length : Nat) : Int) != ((m.length : Nat) : Int)) = true := by rw [bne_iff_ne]; omega
    clear h
    go_enter Tryz.func23, Tryz.ntmps23
    go_wp2
    go_ret
    rw [E.out]
    exact ⟨rfl, Below.refl _ _⟩

end Go.Proofs.YtieijfefnedifaaGreatDoor
