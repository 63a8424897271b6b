/- The walk of verify's spans. -/
import Derived.Test.YtieijfefnedifaaGreatDoorMVAVC
namespace Go.Proofs.YtieijfefnedifaaGreatDoor
open Go.RowKit
set_option linter.unusedVariables false
set_option linter.unusedSimpArgs false

def spNew (N : Int) (i : Nat) (en : Int) (x : SpanB) : Int × List Flt := if rightP x = true then (max 1 (x.first + x.pages), if x.first < en ∨ N - x.pages < x.first then [⟨2, i⟩] else []) else (1, [⟨2, i⟩])
def spSt (N : Int) (l : List SpanB) : Nat → Int × List Flt
  | 0 => (1, [])
  | i + 1 => match l[i]? with
    | some x => ((spNew N i (spSt N l i).1 x).1, (spSt N l i).2 ++ (spNew N i (spSt N l i).1 x).2)
    | none => spSt N l i
def spansF (N : Int) (l : List SpanB) : List Flt := if l.length ≤ 256 then (spSt N l l.length).2 else (spSt N l 256).2 ++ [⟨2, 256⟩]
theorem spSt_next {N : Int} {l : List SpanB} {i : Nat} {x : SpanB} (h : l[i]? = some x) : spSt N l (i + 1) = ((spNew N i (spSt N l i).1 x).1, (spSt N l i).2 ++ (spNew N i (spSt N l i).1 x).2) := by
  rw [spSt, h]
theorem spSt_len (N : Int) (l : List SpanB) : ∀ i, (spSt N l i).2.length ≤ i := by
  intro i
  induction i with
  | zero => simp [spSt]
  | succ i ih =>
    rw [spSt]
    split
    · rw [List.length_append]
      have : ∀ x, (spNew N i (spSt N l i).1 x).2.length ≤ 1 := by
        intro x
        unfold spNew
        split
        · split <;> simp
        · simp
      have := this (by assumption)
      omega
    · omega
theorem chk_one (s : SpanB) : chkE [s] = if rightP s = true then 0 else 2 := by
  unfold chkE okL
  have e : okTo [s] [s].length = rightP s := by
    show okTo [s] 1 = _
    rw [okTo_succ]
    simp [okTo, atOk]
  rw [e]
  simp
theorem rd_one {W : World} {B : Nat} {x : SpanV} {s : SpanB} (hv : VarS W B x) (hN : RdN W x s) : RdL W (some ⟨B, 0, none⟩) [x] [s] := by
  refine ⟨⟨by rw [fl_len], by simp, fun _ => ⟨B, 0, rfl, hv.lt, fun j u hu => ?_⟩⟩, rfl, fun i v t h1 h2 => ?_⟩
  · have hu2 : x.cs[j]? = some u := by simpa [fl] using hu
    have hj : j < 8 := (List.getElem?_eq_some_iff.1 hu2).1
    rw [Nat.zero_add]
    have hc : j = 0 ∨ j = 1 ∨ j = 2 ∨ j = 3 ∨ j = 4 ∨ j = 5 ∨ j = 6 ∨ j = 7 := by omega
    rcases hc with rfl | rfl | rfl | rfl | rfl | rfl | rfl | rfl <;> (simp [SpanV.cs] at hu2; subst hu2)
    · exact hv.c0
    · exact hv.c1
    · exact hv.c2
    · exact hv.c3
    · exact hv.c4
    · exact hv.c5
    · exact hv.c6
    · exact hv.c7
  · have hi : i < 1 := (List.getElem?_eq_some_iff.1 h1).1
    obtain rfl : i = 0 := by omega
    simp at h1 h2
    subst h1
    subst h2
    exact hN
theorem Keeps.var {w w1 : World} {b p : Nat} {r : Option Nat} {x : SpanV} (k : Keeps w w1 b r) (h : VarS w p x) (hpb : p ≠ b) (hr : r ≠ some p) : VarS w1 p x := by
  have e := k.block p h.lt hpb hr
  have c : ∀ o, w1.cell? ⟨p, o, none⟩ = w.cell? ⟨p, o, none⟩ := fun o => World.cell?_of_block (w := w) e
  exact ⟨(c _).trans h.c0, (c _).trans h.c1, (c _).trans h.c2, (c _).trans h.c3, (c _).trans h.c4, (c _).trans h.c5, (c _).trans h.c6, (c _).trans h.c7⟩
def SpansP (w0 w : World) (b : Nat) (v : HeapV) (h : HeapB) (os : List VObj) (OA : Option Addr) (oc : Nat) (e : Ending) (w' : World) : Prop :=
  e = .returned (.bool ((spansF h.us.n h.sp).length == 0)) ∧ (∃ FA fc, Sgt w0 w' b v (spansF h.us.n h.sp) FA fc os OA oc) ∧ Below b w w'
set_option maxRecDepth 100000 in
set_option maxHeartbeats 16000000 in
theorem spans38 (w0 w : World) (b fc oc : Nat) (v : HeapV) (h : HeapB) (FA OA : Option Addr) (os : List VObj) (s : Sgt w0 w b v [] FA fc os OA oc) (hr : RdH w0 v h) (hu : 0 ≤ h.us.n ∧ h.us.n ≤ 4096) :
    Calls Tryz.prog 38 #[.pointer (some ⟨b, 0, none⟩)] w (SpansP w0 w b v h os OA oc) := by
  have HS := Lib.hid s
  have HR := Lib.hid hr
  have HU := Lib.hid hu
  have hun := hr.us.n
  have hsn := hr.sn
  have hlen := hr.sp.len
  have s3 := s.st.c3
  have hb := s.lt
  have HB : Hid (Below b w w) := Below.refl _ _
  obtain ⟨aA, aN, aC, ⟨un, uA, um, uc⟩, sA, sN, sC, vs⟩ := v
  simp only at hun hsn s3 HS HR
  subst hun
  subst hsn
  clear s hr hu
  go_enter Tryz.func38, Tryz.ntmps38
  go_wp2
  clear s3
  obtain ⟨wo, hwo⟩ : ∃ wo : World, wo = w := ⟨_, rfl⟩
  go_loopw [3, 12] (fun v3 v12 wr => ∃ (i : Nat) (FA : Option Addr) (fc : Nat), i ≤ h.sp.length ∧ i ≤ 256 ∧ v3 = .int .i64 (spSt h.us.n h.sp i).1 ∧ v12 = .int .i64 i ∧ Hid (Sgt w0 wr b ⟨aA, aN, aC, ⟨h.us.n, uA, um, uc⟩, sA, h.sp.length, sC, vs⟩ (spSt h.us.n h.sp i).2 FA fc os OA oc) ∧ Hid (Below b w wr)) (fun _ v12 _ => h.sp.length - (intOf v12).toNat)
  case atStart => exact ⟨0, FA, fc, Nat.zero_le _, Nat.zero_le _, rfl, rfl, HS.out, HB.out⟩
  case round =>
    obtain ⟨i, FA, fc, hi, hi2, rfl, rfl, HSi, HBi⟩ := hrel
    clear HS HB hwo
    have HFL := Lib.hid (spSt_len h.us.n h.sp i)
    obtain ⟨en, hen⟩ : ∃ en, en = (spSt h.us.n h.sp i).1 := ⟨_, rfl⟩
    rw [← hen]
    obtain ⟨fs, hfs⟩ : ∃ fs, fs = (spSt h.us.n h.sp i).2 := ⟨_, rfl⟩
    rw [← hfs] at HSi HFL
    have HEN := Lib.hid hen
    have HFS := Lib.hid hfs
    clear hen hfs
    by_cases hlt : i < h.sp.length
    · have hs : h.sp[i]? = some h.sp[i] := List.getElem?_eq_getElem hlt
      generalize h.sp[i] = s at hs
      obtain ⟨vv, bk, oo, hv, hRv, hA, hbk, c0, c1, c2, c3, c4, c5, c6, c7⟩ := HR.out.sp.at_ hs
      replace c0 := cell_later HSi.out.lo c0
      replace c1 := cell_later HSi.out.lo c1
      replace c2 := cell_later HSi.out.lo c2
      replace c3 := cell_later HSi.out.lo c3
      replace c4 := cell_later HSi.out.lo c4
      replace c5 := cell_later HSi.out.lo c5
      replace c6 := cell_later HSi.out.lo c6
      replace c7 := cell_later HSi.out.lo c7
      have HRN := Lib.hid hRv
      have HSS := Lib.hid hs
      have e1 := hRv.first
      have e2 := hRv.pages
      obtain ⟨f, pg, z, ⟨n, A1, m, ca⟩, ⟨n', A2, m', cb⟩, sw⟩ := vv
      simp only at hA c0 c1 c2 c3 c4 c5 c6 c7 e1 e2
      subst hA
      subst e1
      subst e2
      have ba := balloc (Below.refl wr.heap.size wr) (.cells #[.int .i64 s.first, .int .i64 s.pages, .int .i64 z, .int .i64 n, .slice A1 m ca, .int .i64 n', .slice A2 m' cb, .bool sw] 44)
      have HSA := Lib.hid (HSi.out.later ba)
      have HVA : Hid (VarS (wr.alloc (.cells #[.int .i64 s.first, .int .i64 s.pages, .int .i64 z, .int .i64 n, .slice A1 m ca, .int .i64 n', .slice A2 m' cb, .bool sw] 44)) wr.heap.size ⟨s.first, s.pages, z, ⟨n, A1, m, ca⟩, ⟨n', A2, m', cb⟩, sw⟩) := VarS.made wr ⟨s.first, s.pages, z, ⟨n, A1, m, ca⟩, ⟨n', A2, m', cb⟩, sw⟩ _ rfl
      have HBA : Hid (Below b w (wr.alloc (.cells #[.int .i64 s.first, .int .i64 s.pages, .int .i64 z, .int .i64 n, .slice A1 m ca, .int .i64 n', .slice A2 m' cb, .bool sw] 44))) := HBi.out.trans (ba.mono (Nat.le_of_lt HSi.out.lt))
      have HPB : Hid (wr.heap.size ≠ b) := by have := HSi.out.lt; show _ ≠ _; omega
      have HPF : Hid ((Value.slice FA fs.length fc).ownBlock ≠ some wr.heap.size) := fun e => by have := (World.ownsRow.lt HSi.out.fo _ e).2; omega
      have hfl1 : fs.length ≤ 1000000 := by have := HFL.out; omega
      clear hs hv hRv hbk ba HSi HBi
      by_cases h256 : i = 256
      · have E : Hid (spansF h.us.n h.sp = fs ++ [⟨2, i⟩]) := by show _ = _; unfold spansF; rw [if_neg (by omega), HFS.out, h256]
        have hq : ((i : Int) == 256) = true := by simp [h256]
        have hw0 : IntKind.u64.wrap (i : Int) = (i : Int) := by rw [u64_wrap_]; omega
        have EF : Hid (((spansF h.us.n h.sp).length == 0) = false) := by show _ = _; rw [E.out]; simp
        have CT := Lib.hid (tell75 w0 _ b fc oc _ fs FA OA os ⟨2, i⟩ HSA.out hfl1)
        clear h256 hfl1
        go_wp2_with (go_at_call 75; refine CT.out.mono ?_)
        rintro e w9 ⟨rfl, g, cap, hs9, -, hk9⟩
        have HS9 := Lib.hid hs9
        have HB9 : Hid (Below b w w9) := HBA.out.trans hk9.be
        have s4 := hs9.st.c4
        rw [List.length_append, List.length_singleton] at s4
        have hfl2 : fs.length ≤ 256 := by have := HFL.out; omega
        have hq1 : ((((fs.length + 1 : Nat)) : Int) == 0) = false := by rw [beq_eq_false_iff_ne]; omega
        generalize fs.length + 1 = fl at s4 hq1
        clear hs9 hk9 CT hfl2
        go_wp2
        go_ret
        exact ⟨by rw [EF.out]; rfl, ⟨_, _, by rw [E.out]; exact HS9.out⟩, HB9.out⟩
      · have hi3 : i < 256 := by omega
        have hq : ((i : Int) == 256) = false := by rw [beq_eq_false_iff_ne]; omega
        have hw0 : IntKind.u64.wrap (i : Int) = (i : Int) := by rw [u64_wrap_]; omega
        have HNX := Lib.hid (spSt_next (N := h.us.n) HSS.out)
        clear h256
        have bb := balloc (Below.refl (wr.alloc (.cells #[.int .i64 s.first, .int .i64 s.pages, .int .i64 z, .int .i64 n, .slice A1 m ca, .int .i64 n', .slice A2 m' cb, .bool sw] 44)).heap.size (wr.alloc (.cells #[.int .i64 s.first, .int .i64 s.pages, .int .i64 z, .int .i64 n, .slice A1 m ca, .int .i64 n', .slice A2 m' cb, .bool sw] 44))) (.cells #[.int .i64 s.first, .int .i64 s.pages, .int .i64 z, .int .i64 n, .slice A1 m ca, .int .i64 n', .slice A2 m' cb, .bool sw] 44)
        have HSB := Lib.hid (HSA.out.later bb)
        have HVB := Lib.hid (HVA.out.below bb)
        have HBB : Hid (Below b w ((wr.alloc (.cells #[.int .i64 s.first, .int .i64 s.pages, .int .i64 z, .int .i64 n, .slice A1 m ca, .int .i64 n', .slice A2 m' cb, .bool sw] 44)).alloc (.cells #[.int .i64 s.first, .int .i64 s.pages, .int .i64 z, .int .i64 n, .slice A1 m ca, .int .i64 n', .slice A2 m' cb, .bool sw] 44))) := HBA.out.trans (bb.mono (Nat.le_of_lt HSA.out.lt))
        have CK : Hid (Calls Tryz.prog 66 #[.slice (some ⟨wr.heap.size + 1, 0, none⟩) 1 1] ((wr.alloc (.cells #[.int .i64 s.first, .int .i64 s.pages, .int .i64 z, .int .i64 n, .slice A1 m ca, .int .i64 n', .slice A2 m' cb, .bool sw] 44)).alloc (.cells #[.int .i64 s.first, .int .i64 s.pages, .int .i64 z, .int .i64 n, .slice A1 m ca, .int .i64 n', .slice A2 m' cb, .bool sw] 44)) (Ret (.int .i64 (if rightP s = true then 0 else 2)) ((wr.alloc (.cells #[.int .i64 s.first, .int .i64 s.pages, .int .i64 z, .int .i64 n, .slice A1 m ca, .int .i64 n', .slice A2 m' cb, .bool sw] 44)).alloc (.cells #[.int .i64 s.first, .int .i64 s.pages, .int .i64 z, .int .i64 n, .slice A1 m ca, .int .i64 n', .slice A2 m' cb, .bool sw] 44)))) := by
          have := check19 (some ⟨wr.heap.size + 1, 0, none⟩) 1 [⟨s.first, s.pages, z, ⟨n, A1, m, ca⟩, ⟨n', A2, m', cb⟩, sw⟩] [s] _ (rd_one (VarS.made _ ⟨s.first, s.pages, z, ⟨n, A1, m, ca⟩, ⟨n', A2, m', cb⟩, sw⟩ (wr.heap.size + 1) (by simp)) (HRN.out.below HSB.out.lo))
          rw [chk_one] at this
          exact this
        clear bb HSA HVA HBA
        by_cases hr : rightP s = true
        · rw [if_pos hr] at CK
          have hre := right_end hr
          have hrl := right_less hr
          unfold endP at hre
          have hep1 : 1 ≤ s.first + s.pages := hre.2.1
          have hep2 : s.first + s.pages ≤ 1024 := hre.2.2
          have hep3 : 0 ≤ s.first := hrl.2
          have hpg := (shapedP_pages (rightP_parts hr).1)
          have HN1 : Hid ((spNew h.us.n i (spSt h.us.n h.sp i).1 s) = (max 1 (s.first + s.pages), if s.first < en ∨ h.us.n - s.pages < s.first then [⟨2, i⟩] else [])) := by show _ = _; unfold spNew; rw [if_pos hr, ← HEN.out]
          have hw1 : IntKind.i64.wrap (h.us.n - s.pages) = h.us.n - s.pages := wrap_in (by have := HU.out; omega)
          clear hre hrl hpg
          by_cases hlo : s.first < en
          · have d0 : decide (s.first < en) = true := decide_eq_true hlo
            rw [if_pos (Or.inl hlo)] at HN1
            clear hlo hr
            go_wp2_with (go_at_call 66; refine CK.out.mono ?_)
            rintro e w3 ⟨rfl, hb3⟩
            have HS3 := Lib.hid (HSB.out.later hb3)
            have HV3 := Lib.hid (HVB.out.below hb3)
            have HB3 : Hid (Below b w w3) := HBB.out.trans (hb3.mono (Nat.le_of_lt HSB.out.lt))
            clear hb3 HSB HVB HBB CK
            generalize hpp : wr.heap.size = p at *
            go_wp2
            have V0 := Lib.hid HV3.out.c0
            have V1 := Lib.hid HV3.out.c1
            have B1 := Lib.hid HS3.out.st.c1
            simp only at V0 V1 B1
            refine region_up (by kernel_rfl) (by kernel_rfl) ?_
            iterate 5
              go_big_quiet_want
              apply Exists.intro
              refine ⟨fun W hW => ?_, ?_⟩
              · have g0 := cell_later hW V0.out
                have g1 := cell_later hW V1.out
                have g2 := cell_later hW B1.out
                go_simp
                all_goals exact rfl
              simp only [Act.put, List.setIfInBounds_toArray, List.set_cons_succ, List.set_cons_zero]
              go_big_quiet_on
            iterate 13 go_big_quiet_skip
            go_big_quiet_want
            apply Exists.intro
            refine ⟨fun W hW => ?_, ?_⟩
            · have g0 := cell_later hW V0.out
              have g1 := cell_later hW V1.out
              have g2 := cell_later hW B1.out
              go_simp
              all_goals exact rfl
            simp only [Act.put, List.setIfInBounds_toArray, List.set_cons_succ, List.set_cons_zero]
            go_big_quiet_on
            refine wpQuiet_nil ?_
            intro W hW
            have HS4 := Lib.hid (HS3.out.later hW)
            have HV4 := Lib.hid (HV3.out.below hW)
            have HB4 : Hid (Below b w W) := HB3.out.trans (hW.mono (Nat.le_of_lt HS3.out.lt))
            have v0 := HV4.out.c0
            have v1 := HV4.out.c1
            simp only at v0 v1
            clear hW HS3 HV3 HB3 V0 V1 B1
            have CT := Lib.hid (tell75 w0 W b fc oc _ fs FA OA os ⟨2, i⟩ HS4.out hfl1)
            go_wp2_with (go_at_call 75; refine CT.out.mono ?_)
            rintro e w9 ⟨rfl, g, cap, hs9, -, hk9⟩
            have HS9 := Lib.hid hs9
            have HB9 : Hid (Below b w w9) := HB4.out.trans hk9.be
            clear v0 v1
            obtain ⟨v0, v1, -, -, -, -, -, -⟩ := hk9.var HV4.out HPB.out HPF.out
            simp only at v0 v1
            clear hs9 hk9 CT
            go_wp2
            go_roundw
            case rel => exact ⟨i + 1, some ⟨g, 0, none⟩, cap, by omega, by omega, by rw [HNX.out, HN1.out], by go_num, by rw [HNX.out, HN1.out, ← HFS.out]; exact HS9.out, HB9.out⟩
            case measure => simp [intOf]; omega
          · have d0 : decide (s.first < en) = false := decide_eq_false hlo
            by_cases hhi : h.us.n - s.pages < s.first
            · have d1 : decide (h.us.n - s.pages < s.first) = true := decide_eq_true hhi
              rw [if_pos (Or.inr hhi)] at HN1
              clear hlo hhi hr
              go_wp2_with (go_at_call 66; refine CK.out.mono ?_)
              rintro e w3 ⟨rfl, hb3⟩
              have HS3 := Lib.hid (HSB.out.later hb3)
              have HV3 := Lib.hid (HVB.out.below hb3)
              have HB3 : Hid (Below b w w3) := HBB.out.trans (hb3.mono (Nat.le_of_lt HSB.out.lt))
              clear hb3 HSB HVB HBB CK
              generalize hpp : wr.heap.size = p at *
              go_wp2
              have V0 := Lib.hid HV3.out.c0
              have V1 := Lib.hid HV3.out.c1
              have B1 := Lib.hid HS3.out.st.c1
              simp only at V0 V1 B1
              refine region_up (by kernel_rfl) (by kernel_rfl) ?_
              iterate 19
                go_big_quiet_want
                apply Exists.intro
                refine ⟨fun W hW => ?_, ?_⟩
                · have g0 := cell_later hW V0.out
                  have g1 := cell_later hW V1.out
                  have g2 := cell_later hW B1.out
                  go_simp
                  all_goals exact rfl
                simp only [Act.put, List.setIfInBounds_toArray, List.set_cons_succ, List.set_cons_zero]
                go_big_quiet_on
              refine wpQuiet_nil ?_
              intro W hW
              have HS4 := Lib.hid (HS3.out.later hW)
              have HV4 := Lib.hid (HV3.out.below hW)
              have HB4 : Hid (Below b w W) := HB3.out.trans (hW.mono (Nat.le_of_lt HS3.out.lt))
              have v0 := HV4.out.c0
              have v1 := HV4.out.c1
              simp only at v0 v1
              clear hW HS3 HV3 HB3 V0 V1 B1
              have CT := Lib.hid (tell75 w0 W b fc oc _ fs FA OA os ⟨2, i⟩ HS4.out hfl1)
              go_wp2_with (go_at_call 75; refine CT.out.mono ?_)
              rintro e w9 ⟨rfl, g, cap, hs9, -, hk9⟩
              have HS9 := Lib.hid hs9
              have HB9 : Hid (Below b w w9) := HB4.out.trans hk9.be
              clear v0 v1
              obtain ⟨v0, v1, -, -, -, -, -, -⟩ := hk9.var HV4.out HPB.out HPF.out
              simp only at v0 v1
              clear hs9 hk9 CT
              go_wp2
              go_roundw
              case rel => exact ⟨i + 1, some ⟨g, 0, none⟩, cap, by omega, by omega, by rw [HNX.out, HN1.out], by go_num, by rw [HNX.out, HN1.out, ← HFS.out]; exact HS9.out, HB9.out⟩
              case measure => simp [intOf]; omega
            · have d1 : decide (h.us.n - s.pages < s.first) = false := decide_eq_false hhi
              rw [if_neg (by omega)] at HN1
              clear hlo hhi hr
              go_wp2_with (go_at_call 66; refine CK.out.mono ?_)
              rintro e w3 ⟨rfl, hb3⟩
              have HS3 := Lib.hid (HSB.out.later hb3)
              have HV3 := Lib.hid (HVB.out.below hb3)
              have HB3 : Hid (Below b w w3) := HBB.out.trans (hb3.mono (Nat.le_of_lt HSB.out.lt))
              clear hb3 HSB HVB HBB CK
              generalize hpp : wr.heap.size = p at *
              go_wp2
              have V0 := Lib.hid HV3.out.c0
              have V1 := Lib.hid HV3.out.c1
              have B1 := Lib.hid HS3.out.st.c1
              simp only at V0 V1 B1
              refine region_up (by kernel_rfl) (by kernel_rfl) ?_
              iterate 19
                go_big_quiet_want
                apply Exists.intro
                refine ⟨fun W hW => ?_, ?_⟩
                · have g0 := cell_later hW V0.out
                  have g1 := cell_later hW V1.out
                  have g2 := cell_later hW B1.out
                  go_simp
                  all_goals exact rfl
                simp only [Act.put, List.setIfInBounds_toArray, List.set_cons_succ, List.set_cons_zero]
                go_big_quiet_on
              refine wpQuiet_nil ?_
              intro W hW
              have HS4 := Lib.hid (HS3.out.later hW)
              have HV4 := Lib.hid (HV3.out.below hW)
              have HB4 : Hid (Below b w W) := HB3.out.trans (hW.mono (Nat.le_of_lt HS3.out.lt))
              have v0 := HV4.out.c0
              have v1 := HV4.out.c1
              simp only at v0 v1
              clear hW HS3 HV3 HB3 V0 V1 B1
              go_wp2
              go_roundw
              case rel => exact ⟨i + 1, FA, fc, by omega, by omega, by rw [HNX.out, HN1.out], by go_num, by rw [HNX.out, HN1.out, ← HFS.out, List.append_nil]; exact HS4.out, HB4.out⟩
              case measure => simp [intOf]; omega
        · rw [if_neg hr] at CK
          have HN1 : Hid ((spNew h.us.n i (spSt h.us.n h.sp i).1 s) = (1, [⟨2, i⟩])) := by show _ = _; unfold spNew; rw [if_neg hr]
          go_wp2_with (go_at_call 66; refine CK.out.mono ?_)
          rintro e w3 ⟨rfl, hb3⟩
          have HS3 := Lib.hid (HSB.out.later hb3)
          have HV3 := Lib.hid (HVB.out.below hb3)
          have HB3 : Hid (Below b w w3) := HBB.out.trans (hb3.mono (Nat.le_of_lt HSB.out.lt))
          clear hb3 HSB HVB HBB CK
          generalize hpp : wr.heap.size = p at *
          have CT := Lib.hid (tell75 w0 w3 b fc oc _ fs FA OA os ⟨2, i⟩ HS3.out hfl1)
          clear hr hfl1
          go_wp2_with (go_at_call 75; refine CT.out.mono ?_)
          rintro e w9 ⟨rfl, g, cap, hs9, -, hk9⟩
          have HS9 := Lib.hid hs9
          have HB9 : Hid (Below b w w9) := HB3.out.trans hk9.be
          clear hs9 hk9 CT
          go_wp2
          go_roundw
          case rel => exact ⟨i + 1, some ⟨g, 0, none⟩, cap, by omega, by omega, by rw [HNX.out, HN1.out], by go_num, by rw [HNX.out, HN1.out, ← HFS.out]; exact HS9.out, HB9.out⟩
          case measure => simp [intOf]; omega
    · obtain rfl : i = h.sp.length := by omega
      have E : Hid (spansF h.us.n h.sp = fs) := by show _ = _; unfold spansF; rw [if_pos hi2, HFS.out]
      have s4 := HSi.out.st.c4
      generalize hfl : fs.length = fl at s4
      have hfl2 : fl ≤ 256 := by have := HFL.out; omega
      have EF : Hid (((spansF h.us.n h.sp).length == 0) = (fl == 0)) := by show _ = _; rw [E.out, hfl]
      clear hfl
      by_cases hz : fl = 0
      · subst hz
        go_wp2
        go_ret
        exact ⟨by rw [EF.out]; rfl, ⟨FA, fc, by rw [E.out]; exact HSi.out⟩, HBi.out⟩
      · have hq : ((fl : Int) == 0) = false := by rw [beq_eq_false_iff_ne]; omega
        have hq2 : (fl == 0) = false := by rw [beq_eq_false_iff_ne]; exact hz
        rw [hq2] at EF
        clear hz hq2
        go_wp2
        go_ret
        exact ⟨by rw [EF.out]; rfl, ⟨FA, fc, by rw [E.out]; exact HSi.out⟩, HBi.out⟩
end Go.Proofs.YtieijfefnedifaaGreatDoor

/- The walk of verify's owned. -/
namespace Go.Proofs.YtieijfefnedifaaGreatDoor
open Go.RowKit
set_option linter.unusedVariables false
set_option linter.unusedSimpArgs false

set_option maxRecDepth 100000 in
set_option maxHeartbeats 16000000 in
theorem owned49 (w0 w : World) (b fc oc : Nat) (v : HeapV) (h : HeapB) (fs : List Flt) (FA OA : Option Addr) (os : List VObj) (s : Sgt w0 w b v fs FA fc os OA oc) (hr : RdH w0 v h) (hu : 0 ≤ h.us.n ∧ h.us.n ≤ 4096) :
    Calls Tryz.prog 49 #[.pointer (some ⟨b, 0, none⟩)] w (RetB (wantTo (want0 h.us.n) h.sp) w) := by
  have HLO := Lib.hid s.lo
  have HR := Lib.hid hr
  have HU := Lib.hid hu
  have hun := hr.us.n
  have hsn := hr.sn
  have hlen := hr.sp.len
  have s1 := s.st.c1
  have G3 := Lib.hid s.st.c3
  have hb := s.lt
  obtain ⟨aA, aN, aC, ⟨un, uA, um, uc⟩, sA, sN, sC, vs⟩ := v
  simp only at hun hsn s1 G3 HR
  subst hun
  subst hsn
  clear s hr hu
  have HB0 : Hid (Below w.heap.size w (w.alloc (.cells #[.int .i64 0, .slice none 0 0] 26))) := balloc (Below.refl _ _) _
  have CM : Hid (∀ W, Calls Tryz.prog 58 #[.int .i64 h.us.n] W (RetBE (makeB h.us.n) 0 W)) := fun W => by
    have := make35 h.us.n W
    rwa [show makeE h.us.n = 0 from by unfold makeE; rw [if_pos (show makeOk h.us.n from by unfold makeOk; have := HU.out; omega)]] at this
  have HMD := Lib.hid (ok_made (n := h.us.n) HU.out.1 HU.out.2)
  have HMW := Lib.hid (ok_want0 (n := h.us.n) HU.out.1 HU.out.2)
  go_enter Tryz.func49, Tryz.ntmps49
  go_wp2_with (go_at_call 58; refine (CM.out _).mono ?_)
  rintro e w5 ⟨⟨n5, A5, m5, c5⟩, rfl, hn5, hm5, hcap5, ho5, hb5⟩
  simp only at hn5 hm5 hcap5 ho5
  obtain ⟨hc5, hf5, hs5⟩ := bcellB (B := w.heap.size + 1) hb5 (by simp)
  have HM5 := Lib.hid (RdB.own (v := ⟨n5, A5, m5, c5⟩) hn5 hm5 hcap5 ho5 HMD.out.1 HMD.out.2.2)
  have HB5 := Lib.hid (bthen HB0.out hb5)
  have qb : b < w5.heap.size := by omega
  have qw : w.heap.size < w5.heap.size := by omega
  have g35 : w5.cell? ⟨b, 3, none⟩ = some (.slice sA h.sp.length sC) := (hc5 _ _ (by omega)).trans (cell_later (balloc (Below.refl _ _) _) G3.out)
  have R0 : Hid (w5.cell? ⟨w.heap.size, 0, none⟩ = some (.int .i64 0) ∧ w5.cell? ⟨w.heap.size, 1, none⟩ = some (.slice none 0 0) ∧ (∀ j, w5.frozen? ⟨w.heap.size, j, none⟩ = false)) :=
    ⟨(hc5 _ _ (by omega)).trans (by go_simp), (hc5 _ _ (by omega)).trans (by go_simp), fun j => (hf5 _ _ (by omega)).trans (by go_simp)⟩
  clear hb5 ho5 hm5 hn5 hcap5 CM s1 hc5 hf5
  unfold BitV.v
  simp only
  have HB6 := Lib.hid (balloc HB5.out (.cells #[.int .i64 n5, .slice A5 m5 c5] 26))
  have C44 := Lib.hid (put44 ⟨n5, A5, m5, c5⟩ (makeB h.us.n) 0 true (w5.alloc (.cells #[.int .i64 n5, .slice A5 m5 c5] 26)) (HM5.out.below (balloc (Below.refl _ _) _)))
  unfold BitV.v at C44
  simp only at C44
  go_wp2_with (go_at_call 50; refine C44.out.mono ?_)
  rintro e w6 ⟨⟨n6, A6, m6, c6⟩, rfl, hn6, hm6, hcap6, ho6, hb6⟩
  simp only at hn6 hm6 hcap6 ho6
  obtain ⟨hc6, hf6, hs6⟩ := bcellB (B := w5.heap.size + 1) hb6 (by simp)
  have HB7 := Lib.hid (bthen HB6.out hb6)
  have q6 : w5.heap.size < w6.heap.size := by omega
  have HO6 : Hid (OwU w6 (w5.heap.size + 1) (.slice A6 m6 c6) (want0 h.us.n).w) := ho6.mono (by simp)
  have HE6 : Hid (n6 = (want0 h.us.n).n ∧ m6 = (want0 h.us.n).w.length ∧ m6 ≤ c6) := ⟨hn6, hm6, hcap6⟩
  have R6 : Hid (w6.cell? ⟨w.heap.size, 0, none⟩ = some (.int .i64 0) ∧ w6.cell? ⟨w.heap.size, 1, none⟩ = some (.slice none 0 0) ∧ (∀ j, w6.frozen? ⟨w.heap.size, j, none⟩ = false)) :=
    ⟨(hc6 _ _ (by omega)).trans (cell_later (balloc (Below.refl _ _) _) R0.out.1), (hc6 _ _ (by omega)).trans (cell_later (balloc (Below.refl _ _) _) R0.out.2.1), fun j => (hf6 _ _ (by omega)).trans (((balloc (Below.refl w5.heap.size w5) _).frozen (p := ⟨w.heap.size, j, none⟩) qw).trans (R0.out.2.2 j))⟩
  clear hb6 ho6 hm6 hn6 hcap6 C44
  unfold BitV.v
  simp only
  go_wp2
  have K0 : w6.cell? ⟨w5.heap.size, 0, none⟩ = some (.int .i64 n5) := (hc6 _ _ (by omega)).trans (by go_simp)
  have K1 : w6.cell? ⟨w5.heap.size, 1, none⟩ = some (.slice A5 m5 c5) := (hc6 _ _ (by omega)).trans (by go_simp)
  obtain ⟨k2, k3, k4⟩ := cell_set2 (x' := .int .i64 n6) (y' := .slice A6 m6 c6) K0 K1
  have f2 : ∀ j, ((w6.setCell ⟨w5.heap.size, 0, none⟩ (.int .i64 n6)).setCell ⟨w5.heap.size, 1, none⟩ (.slice A6 m6 c6)).frozen? ⟨w5.heap.size, j, none⟩ = false := fun j => by rw [World.frozen?_setCell, World.frozen?_setCell, hf6 _ _ (by omega)]; go_simp
  have r7 : ((w6.setCell ⟨w5.heap.size, 0, none⟩ (.int .i64 n6)).setCell ⟨w5.heap.size, 1, none⟩ (.slice A6 m6 c6)).cell? ⟨w.heap.size, 0, none⟩ = some (.int .i64 0) ∧ ((w6.setCell ⟨w5.heap.size, 0, none⟩ (.int .i64 n6)).setCell ⟨w5.heap.size, 1, none⟩ (.slice A6 m6 c6)).cell? ⟨w.heap.size, 1, none⟩ = some (.slice none 0 0) ∧ (∀ j, ((w6.setCell ⟨w5.heap.size, 0, none⟩ (.int .i64 n6)).setCell ⟨w5.heap.size, 1, none⟩ (.slice A6 m6 c6)).frozen? ⟨w.heap.size, j, none⟩ = false) :=
    ⟨(k4 _ _ (by omega)).trans R6.out.1, (k4 _ _ (by omega)).trans R6.out.2.1, fun j => by rw [World.frozen?_setCell, World.frozen?_setCell]; exact R6.out.2.2 j⟩
  have o5 : OwU ((w6.setCell ⟨w5.heap.size, 0, none⟩ (.int .i64 n6)).setCell ⟨w5.heap.size, 1, none⟩ (.slice A6 m6 c6)) (w5.heap.size + 1) (.slice A6 m6 c6) (want0 h.us.n).w := (HO6.out.set_lo (by simp) _).set_lo (by simp) _
  have b5 : Below w.heap.size w ((w6.setCell ⟨w5.heap.size, 0, none⟩ (.int .i64 n6)).setCell ⟨w5.heap.size, 1, none⟩ (.slice A6 m6 c6)) := (HB7.out.setCell (by simp; omega) _).setCell (by simp; omega) _
  have z5 : w5.heap.size < ((w6.setCell ⟨w5.heap.size, 0, none⟩ (.int .i64 n6)).setCell ⟨w5.heap.size, 1, none⟩ (.slice A6 m6 c6)).heap.size := by simp; omega
  generalize (w6.setCell ⟨w5.heap.size, 0, none⟩ (.int .i64 n6)).setCell ⟨w5.heap.size, 1, none⟩ (.slice A6 m6 c6) = W7 at *
  generalize hqq : w5.heap.size = q at *
  have HK2 := Lib.hid k2
  have HK3 := Lib.hid k3
  have HF2 := Lib.hid f2
  have HR7 := Lib.hid r7
  have HO5 := Lib.hid o5
  have HZ5 := Lib.hid z5
  have HBL := Lib.hid b5
  have HWQ : Hid (w.heap.size < q) := qw
  clear k2 k3 k4 f2 r7 o5 b5 z5 K0 K1 hc6 hf6 g35 HO6 HB7 HB6 HB5 HM5 R0 R6 q6 hqq qb qw hs6 hs5
  obtain ⟨wo, hwo⟩ : ∃ wo : World, wo = W7 := ⟨_, rfl⟩
  go_loopw [29] (fun i wr => ∃ (k : Nat) (nK : Int) (AK : Option Addr) (mK cK : Nat), k ≤ h.sp.length ∧ i = .int .i64 k ∧ Hid (nK = (wantTo (want0 h.us.n) (h.sp.take k)).n ∧ mK = (wantTo (want0 h.us.n) (h.sp.take k)).w.length ∧ mK ≤ cK) ∧
    Hid (OwU wr (q + 1) (.slice AK mK cK) (wantTo (want0 h.us.n) (h.sp.take k)).w) ∧ Hid (wr.cell? ⟨q, 0, none⟩ = some (.int .i64 nK)) ∧ Hid (wr.cell? ⟨q, 1, none⟩ = some (.slice AK mK cK)) ∧ Hid (∀ j, wr.frozen? ⟨q, j, none⟩ = false) ∧
    Hid (wr.cell? ⟨w.heap.size, 0, none⟩ = some (.int .i64 0) ∧ wr.cell? ⟨w.heap.size, 1, none⟩ = some (.slice none 0 0) ∧ (∀ j, wr.frozen? ⟨w.heap.size, j, none⟩ = false)) ∧ Hid (q < wr.heap.size) ∧ Hid (Below w.heap.size w wr)) (fun i _ => h.sp.length - (intOf i).toNat)
  case atStart => exact ⟨0, n6, A6, m6, c6, Nat.zero_le _, rfl, HE6.out, HO5.out, HK2.out, HK3.out, HF2.out, HR7.out, HZ5.out, HBL.out⟩
  case round =>
    obtain ⟨k, nK, AK, mK, cK, hk, rfl, HEK, HOK, Q0, Q1, FQ, RR, HZK, HBr⟩ := hrel
    clear HK2 HK3 HF2 HR7 HO5 HZ5 HBL HE6 hwo
    obtain ⟨B, hB⟩ : ∃ B, B = wantTo (want0 h.us.n) (h.sp.take k) := ⟨_, rfl⟩
    have HOKB : Hid (okB B = true ∧ Words B.w) := by
      show _ ∧ _
      rw [hB]
      have := ok_want (h.sp.take k) _ HMW.out.1 HMW.out.2.2
      exact ⟨this.1, this.2.2⟩
    rw [← hB] at HEK HOK
    by_cases hlt : k < h.sp.length
    · have hs : h.sp[k]? = some h.sp[k] := List.getElem?_eq_getElem hlt
      generalize h.sp[k] = s at hs
      have HLR : Hid (Below w0.heap.size w0 wr) := HLO.out.trans (HBr.out.mono HLO.out.size)
      obtain ⟨vv, bk, oo, hv, hRv, hA, hbk, c0, c1, c2, c3, c4, c5, c6, c7⟩ := HR.out.sp.at_ hs
      have e1 := hRv.first
      have e2 := hRv.pages
      obtain ⟨f, pg, z, ⟨n, A1, m, ca⟩, ⟨n', A2, m', cb⟩, sw⟩ := vv
      simp only at hA c0 c1 c2 c3 c4 c5 c6 c7 e1 e2
      subst hA
      subst e1
      subst e2
      replace c0 := cell_later HLR.out c0
      replace c1 := cell_later HLR.out c1
      replace c2 := cell_later HLR.out c2
      replace c3 := cell_later HLR.out c3
      replace c4 := cell_later HLR.out c4
      replace c5 := cell_later HLR.out c5
      replace c6 := cell_later HLR.out c6
      replace c7 := cell_later HLR.out c7
      have HSS := Lib.hid hs
      have HBB := Lib.hid hB
      have hf1 := hRv.f1
      have hp1 := hRv.p1
      clear hs hv hRv hB hbk
      have zk := HZK.out
      have q0 := Q0.out
      have q1 := Q1.out
      have ba := balloc (Below.refl wr.heap.size wr) (.cells #[.int .i64 s.first, .int .i64 s.pages, .int .i64 z, .int .i64 n, .slice A1 m ca, .int .i64 n', .slice A2 m' cb, .bool sw] 44)
      have HBA := Lib.hid (bthen HBr.out ba)
      have HOA := Lib.hid (HOK.out.below ba)
      have HBX := Lib.hid ba
      have CF := Lib.hid (fill80 ⟨nK, AK, mK, cK⟩ B s.first s.pages true (wr.alloc (.cells #[.int .i64 s.first, .int .i64 s.pages, .int .i64 z, .int .i64 n, .slice A1 m ca, .int .i64 n', .slice A2 m' cb, .bool sw] 44)) (RdB.own HEK.out.1 HEK.out.2.1 HEK.out.2.2 HOA.out HOKB.out.1 HOKB.out.2))
      unfold BitV.v at CF
      simp only at CF
      have HWN : Hid (wantTo (want0 h.us.n) (h.sp.take (k + 1)) = fillB B s.first s.pages true) := by show _ = _; rw [take_next HSS.out, wantTo_append, ← HBB.out]; rfl
      generalize fillE B s.first s.pages = ee at CF
      clear ba
      go_wp2_with (go_at_call 80; refine CF.out.mono ?_)
      rintro e w8 ⟨⟨n8, A8, m8, c8⟩, rfl, hn8, hm8, hcap8, ho8, hb8⟩
      simp only at hn8 hm8 hcap8 ho8
      have hh := bthen HBX.out hb8
      have x0 := cell_later hh Q0.out
      have x1 := cell_later hh Q1.out
      have xf : ∀ j, w8.frozen? ⟨q, j, none⟩ = false := fun j => (hh.frozen (p := ⟨q, j, none⟩) zk).trans (FQ.out j)
      have x5 : q < w8.heap.size := by have := hh.size; omega
      have RX : Hid (w8.cell? ⟨w.heap.size, 0, none⟩ = some (.int .i64 0) ∧ w8.cell? ⟨w.heap.size, 1, none⟩ = some (.slice none 0 0) ∧ (∀ j, w8.frozen? ⟨w.heap.size, j, none⟩ = false)) :=
        ⟨cell_later hh RR.out.1, cell_later hh RR.out.2.1, fun j => (hh.frozen (p := ⟨w.heap.size, j, none⟩) (show w.heap.size < _ by have := HWQ.out; omega)).trans (RR.out.2.2 j)⟩
      have HB8 := Lib.hid (bthen HBA.out hb8)
      have HO8 : Hid (OwU w8 (q + 1) (.slice A8 m8 c8) (fillB B s.first s.pages true).w) := ho8.mono (by simp; omega)
      have HE8 : Hid (n8 = (fillB B s.first s.pages true).n ∧ m8 = (fillB B s.first s.pages true).w.length ∧ m8 ≤ c8) := ⟨hn8, hm8, hcap8⟩
      have XF := Lib.hid xf
      have X5 := Lib.hid x5
      obtain ⟨k2, k3, k4⟩ := cell_set2 (x' := .int .i64 n8) (y' := .slice A8 m8 c8) x0 x1
      have K2 := Lib.hid k2
      have K3 := Lib.hid k3
      have K4 := Lib.hid k4
      clear hb8 ho8 hm8 hn8 hcap8 hh k2 k3 k4 CF
      unfold BitV.v
      simp only
      go_wp2
      go_roundw
      case rel =>
        have hwq := HWQ.out
        refine ⟨k + 1, n8, A8, m8, c8, by omega, by go_num, by rw [HWN.out]; exact HE8.out, by rw [HWN.out]; exact (HO8.out.set_lo (by simp) _).set_lo (by simp) _, K2.out, K3.out, ?_, ⟨(K4.out _ _ (by omega)).trans RX.out.1, (K4.out _ _ (by omega)).trans RX.out.2.1, ?_⟩, ?_, ?_⟩
        · intro j
          rw [World.frozen?_setCell, World.frozen?_setCell]; exact XF.out j
        · intro j
          rw [World.frozen?_setCell, World.frozen?_setCell]; exact RX.out.2.2 j
        · show _ < _
          simp
          exact X5.out
        · exact (HB8.out.setCell (by simp; omega) _).setCell (by simp; omega) _
      case measure => simp [intOf]; omega
    · obtain rfl : k = h.sp.length := by omega
      rw [List.take_length] at hB
      have q0 := Q0.out
      have q1 := Q1.out
      have t0 := RR.out.1
      have t1 := RR.out.2.1
      have tf := RR.out.2.2
      have tl : w.heap.size < wr.heap.size := by have := HWQ.out; have := HZK.out; omega
      obtain ⟨k2, k3, -⟩ := cell_set2 (x' := .int .i64 nK) (y' := .slice AK mK cK) t0 t1
      have K2 := Lib.hid k2
      have K3 := Lib.hid k3
      clear k2 k3
      go_wp2
      clear t0 t1 tf
      have k2 := K2.out
      have k3 := K3.out
      refine bodyPost_ret (v := .agg #[.int .i64 nK, .slice AK mK cK]) (by simp [results, Tryz.results49, go_sem, k2, k3]) rfl ?_
      rw [← hB]
      refine ⟨⟨nK, AK, mK, cK⟩, rfl, HEK.out.1, HEK.out.2.1, HEK.out.2.2, ?_, ?_⟩
      · refine OwU.mono (base := q + 1) ?_ (by have := HWQ.out; omega)
        repeat (refine OwU.set_lo ?_ (show w.heap.size < q + 1 by have := HWQ.out; omega) _)
        exact HOK.out
      · repeat (refine Below.setCell ?_ (by simp) _)
        exact HBr.out
end Go.Proofs.YtieijfefnedifaaGreatDoor
