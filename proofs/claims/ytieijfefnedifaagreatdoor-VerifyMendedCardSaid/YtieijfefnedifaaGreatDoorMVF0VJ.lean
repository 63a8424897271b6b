/- What paging finds, plain; what a fault that is told keeps. -/
import Derived.Test.YtieijfefnedifaaGreatDoorMVDVE
import Derived.Test.YtieijfefnedifaaGreatDoorMVAVC
import Derived.Test.YtieijfefnedifaaGreatDoorMC1C6
import Derived.Test.YtieijfefnedifaaGreatDoorMD4H4
import Derived.Test.YtieijfefnedifaaGreatDoorMD1D2
namespace Go.Proofs.YtieijfefnedifaaGreatDoor
open Go.RowKit
set_option linter.unusedVariables false
set_option linter.unusedSimpArgs false

def pgTo (a u : BitB) : Nat → List Flt
  | 0 => []
  | i + 1 => pgTo a u i ++ (if bitP a i = bitP u i then [] else [⟨3, i⟩])
theorem pgTo_len (a u : BitB) : ∀ i, (pgTo a u i).length ≤ i := by
  intro i
  induction i with
  | zero => simp [pgTo]
  | succ i ih =>
    rw [pgTo, List.length_append]
    split <;> simp <;> omega
theorem Keeps.own {w w1 : World} {b base n : Nat} {r : Option Nat} {e : TypeId} {size : Nat} {v : Value} {xs : List Value} (k : Keeps w w1 b r) (h : w.ownsRow base e size v n xs) (hb : b < base) (hr : ∀ q, v.ownBlock = some q → r ≠ some q) : w1.ownsRow base e size v n xs := by
  refine ⟨h.1, ?_⟩
  rcases h.2 with h' | ⟨g, cap, cur, hv, hbg, hh, rest⟩
  · exact Or.inl h'
  · refine Or.inr ⟨g, cap, cur, hv, hbg, ?_, rest⟩
    have hk : v.ownBlock = some g := by rw [hv]; rfl
    rw [k.block g ((Array.getElem?_eq_some_iff.1 hh).1) (by omega) (hr g hk)]
    exact hh
theorem Keeps.cell {w w1 : World} {b p o : Nat} {r : Option Nat} {u : Value} (k : Keeps w w1 b r) (h : w.cell? ⟨p, o, none⟩ = some u) (hpb : p ≠ b) (hr : r ≠ some p) : w1.cell? ⟨p, o, none⟩ = some u := by
  rw [World.cell?_of_block (w := w) (a := ⟨p, o, none⟩) (k.block p (World.block_lt_of_cell? _ _ h) hpb hr)]
  exact h
def MoreP (w0 w : World) (b : Nat) (v : HeapV) (fs : List Flt) (os : List VObj) (OA : Option Addr) (oc : Nat) (e : Ending) (w' : World) : Prop :=
  e = .returned (.tuple #[]) ∧ (∃ FA fc, Sgt w0 w' b v fs FA fc os OA oc) ∧ Below b w w'
end Go.Proofs.YtieijfefnedifaaGreatDoor

/- The walk of verify's paging. -/
namespace Go.Proofs.YtieijfefnedifaaGreatDoor
open Go.RowKit
set_option linter.unusedVariables false
set_option linter.unusedSimpArgs false

set_option maxRecDepth 100000 in
set_option maxHeartbeats 16000000 in
theorem paging39 (w0 w : World) (b fc oc : Nat) (v : HeapV) (h : HeapB) (fs : List Flt) (FA OA : Option Addr) (os : List VObj) (s : Sgt w0 w b v fs FA fc os OA oc) (hr : RdH w0 v h) (hub : okB h.us = true) (hfs : fs.length ≤ 1000) :
    Calls Tryz.prog 39 #[.pointer (some ⟨b, 0, none⟩)] w (MoreP w0 w b v (fs ++ pgTo (wantTo (want0 h.us.n) h.sp) h.us h.us.n.toNat) os OA oc) := by
  have hup := okB_parts hub
  have hw0 := ok_want0 (n := h.us.n) hup.1 hup.2.1
  have hww := ok_want h.sp _ hw0.1 hw0.2.2
  rw [hw0.2.1] at hww
  have CO := Lib.hid (owned49 w0 w b fc oc v h fs FA OA os s hr ⟨hup.1, hup.2.1⟩)
  have HS := Lib.hid s
  have HR := Lib.hid hr
  have HUB := Lib.hid hub
  obtain ⟨N, hN⟩ := Int.eq_ofNat_of_zero_le hup.1
  have HN : Hid (h.us.n = (N : Int) ∧ h.us.n.toNat = N ∧ N ≤ 4096) := ⟨hN, by omega, by omega⟩
  have hb := s.lt
  have hun := hr.us.n
  have hN1 : N ≤ 4096 := HN.out.2.2
  rw [HN.out.2.1]
  generalize hu : h.us = u at *
  generalize wantTo (want0 u.n) h.sp = a at *
  have HA := Lib.hid hww
  obtain ⟨aA, aN, aC, ⟨un, uA, um, uc⟩, sA, sN, sC, vs⟩ := v
  simp only at hun HS HR
  clear s hr hub hup hw0 hww hN
  go_enter Tryz.func39, Tryz.ntmps39
  go_wp2_with (go_at_call 49; refine CO.out.mono ?_)
  rintro e w1 ⟨⟨n2, A2, m2, c2⟩, rfl, hn2, hm2, hk2, ho2, hb1⟩
  simp only at hn2 hm2 hk2 ho2
  have hn3 : n2 = (N : Int) := hn2.trans (HA.out.2.1.trans HN.out.1)
  subst hn3
  have HE : Hid (m2 = a.w.length ∧ m2 ≤ c2) := ⟨hm2, hk2⟩
  have ba := balloc (Below.refl w1.heap.size w1) (.cells #[.int .i64 (N : Int), .slice A2 m2 c2] 26)
  have HSA := Lib.hid ((HS.out.later hb1).later ba)
  have HOA : Hid (OwU (w1.alloc (.cells #[.int .i64 (N : Int), .slice A2 m2 c2] 26)) (b + 1) (.slice A2 m2 c2) a.w) := (ho2.mono hb).below ba
  have HPA : Hid ((w1.alloc (.cells #[.int .i64 (N : Int), .slice A2 m2 c2] 26)).cell? ⟨w1.heap.size, 0, none⟩ = some (.int .i64 (N : Int)) ∧ (w1.alloc (.cells #[.int .i64 (N : Int), .slice A2 m2 c2] 26)).cell? ⟨w1.heap.size, 1, none⟩ = some (.slice A2 m2 c2)) := ⟨by go_simp, by go_simp⟩
  have HGA : Hid (∀ G, (Value.slice FA (fs ++ pgTo a u 0).length fc).ownBlock = some G → G ≠ w1.heap.size) := fun G hG => by
    have hG2 : (Value.slice FA fs.length fc).ownBlock = some G := by rw [pgTo, List.append_nil] at hG; exact hG
    have h1 := (World.ownsRow.lt HS.out.fo G hG2).2
    have h2 := hb1.size
    omega
  have HZA : Hid (w1.heap.size < (w1.alloc (.cells #[.int .i64 (N : Int), .slice A2 m2 c2] 26)).heap.size) := by show _ < _; simp
  have HBA : Hid (Below b w (w1.alloc (.cells #[.int .i64 (N : Int), .slice A2 m2 c2] 26))) := (hb1.mono (Nat.le_of_lt hb)).trans (ba.mono (by have := hb1.size; omega))
  have HPB : Hid (w1.heap.size ≠ b) := by have := hb1.size; show _ ≠ _; omega
  clear hb1 ho2 hk2 hm2 hn2 ba CO HS
  unfold BitV.v
  simp only
  go_wp2
  generalize hWA : w1.alloc (.cells #[.int .i64 (N : Int), .slice A2 m2 c2] 26) = WA at *
  generalize hpp : w1.heap.size = p at *
  clear hWA hpp
  obtain ⟨wo, hwo⟩ : ∃ wo : World, wo = WA := ⟨_, rfl⟩
  go_loopw [8] (fun v8 wr => ∃ (i : Nat) (FA : Option Addr) (fc : Nat), i ≤ N ∧ v8 = .int .i64 i ∧ Hid (Sgt w0 wr b ⟨aA, aN, aC, ⟨un, uA, um, uc⟩, sA, sN, sC, vs⟩ (fs ++ pgTo a u i) FA fc os OA oc) ∧ Hid (OwU wr (b + 1) (.slice A2 m2 c2) a.w) ∧ Hid (wr.cell? ⟨p, 0, none⟩ = some (.int .i64 (N : Int)) ∧ wr.cell? ⟨p, 1, none⟩ = some (.slice A2 m2 c2)) ∧
    Hid (∀ G, (Value.slice FA (fs ++ pgTo a u i).length fc).ownBlock = some G → G ≠ p) ∧ Hid (p < wr.heap.size) ∧ Hid (Below b w wr)) (fun v8 _ => N - (intOf v8).toNat)
  case atStart => exact ⟨0, FA, fc, Nat.zero_le _, rfl, by rw [pgTo, List.append_nil]; exact HSA.out, HOA.out, HPA.out, HGA.out, HZA.out, HBA.out⟩
  case round =>
    obtain ⟨i, FA, fc, hi, rfl, HSi, HOi, HPi, HGi, HZi, HBi⟩ := hrel
    clear HSA HOA HPA HGA HZA HBA hwo
    by_cases hlt : i < N
    · have HFL0 : Hid ((fs ++ pgTo a u i).length ≤ 1000000) := by show _ ≤ _; rw [List.length_append]; have := pgTo_len a u i; omega
      obtain ⟨FS, hFS⟩ : ∃ FS, FS = fs ++ pgTo a u i := ⟨_, rfl⟩
      have HFS := Lib.hid hFS
      have HFL : Hid (FS.length ≤ 1000000) := by rw [hFS]; exact HFL0.out
      rw [← hFS] at HSi HGi
      clear hFS HFL0
      have P0 := Lib.hid HPi.out.1
      have P1 := Lib.hid HPi.out.2
      have B1 := Lib.hid HSi.out.st.c1
      have B2 := Lib.hid HSi.out.st.c2
      simp only at B1 B2
      have hial : i / 64 < a.w.length := by have h1 := okB_parts HA.out.1; have h2 := HA.out.2.1; have h3 := HN.out; omega
      have hiul : i / 64 < u.w.length := by have h1 := okB_parts HUB.out; have h3 := HN.out; omega
      have CW : Hid (∀ W, Below wr.heap.size wr W → Calls Tryz.prog 51 #[.agg #[.int .i64 (N : Int), .slice A2 m2 c2], .int .i64 i] W (Ret (.bool (bitP a i)) W)) := fun W hW =>
        is50 ⟨(N : Int), A2, m2, c2⟩ a i W (RdB.own (HN.out.1.symm.trans HA.out.2.1.symm) HE.out.1 HE.out.2 (HOi.out.below hW) HA.out.1 HA.out.2.2) hial (by omega)
      have CU : Hid (∀ W, Below wr.heap.size wr W → Calls Tryz.prog 51 #[.agg #[.int .i64 un, .slice uA um uc], .int .i64 i] W (Ret (.bool (bitP u i)) W)) := fun W hW => by
        have hrb := HR.out.us.below (bthenB HSi.out.lo HSi.out.lo.size hW)
        rw [hu] at hrb
        exact is50 ⟨un, uA, um, uc⟩ u i W hrb hiul (by omega)
      have hw0 : IntKind.u64.wrap (i : Int) = (i : Int) := by rw [u64_wrap_]; omega
      have HNX : Hid (pgTo a u (i + 1) = pgTo a u i ++ (if bitP a i = bitP u i then [] else [⟨3, i⟩])) := rfl
      clear hial hiul HPi hun
      cases hba : bitP a i <;> cases hbu : bitP u i <;> rw [hba] at CW <;> rw [hbu] at CU <;> rw [hba, hbu] at HNX <;> clear hba hbu
      · rw [if_pos rfl] at HNX
        go_wp2
        refine region_up (by kernel_rfl) (by kernel_rfl) ?_
        iterate 2
          go_big_quiet_want
          apply Exists.intro
          refine ⟨fun W hW => ?_, ?_⟩
          · have g0 := cell_later hW P0.out
            have g1 := cell_later hW P1.out
            have g2 := cell_later hW B1.out
            have g3 := cell_later hW B2.out
            go_simp
            all_goals exact rfl
          simp only [Act.put, List.setIfInBounds_toArray, List.set_cons_succ, List.set_cons_zero]
          go_big_quiet_on
        go_big_quiet_want
        apply Exists.intro
        refine ⟨fun W hW => ?_, ?_⟩
        · have g0 := cell_later hW P0.out
          have g1 := cell_later hW P1.out
          have g2 := cell_later hW B1.out
          have g3 := cell_later hW B2.out
          go_simp
          exact call_up hW (CW.out W hW)
        simp only [Act.put, List.setIfInBounds_toArray, List.set_cons_succ, List.set_cons_zero]
        go_big_quiet_on
        iterate 7
          go_big_quiet_want
          apply Exists.intro
          refine ⟨fun W hW => ?_, ?_⟩
          · have g0 := cell_later hW P0.out
            have g1 := cell_later hW P1.out
            have g2 := cell_later hW B1.out
            have g3 := cell_later hW B2.out
            go_simp
            all_goals exact rfl
          simp only [Act.put, List.setIfInBounds_toArray, List.set_cons_succ, List.set_cons_zero]
          go_big_quiet_on
        go_big_quiet_want
        apply Exists.intro
        refine ⟨fun W hW => ?_, ?_⟩
        · have g0 := cell_later hW P0.out
          have g1 := cell_later hW P1.out
          have g2 := cell_later hW B1.out
          have g3 := cell_later hW B2.out
          go_simp
          exact call_up hW (CU.out W hW)
        simp only [Act.put, List.setIfInBounds_toArray, List.set_cons_succ, List.set_cons_zero]
        go_big_quiet_on
        go_big_quiet_want
        apply Exists.intro
        refine ⟨fun W hW => ?_, ?_⟩
        · have g0 := cell_later hW P0.out
          have g1 := cell_later hW P1.out
          have g2 := cell_later hW B1.out
          have g3 := cell_later hW B2.out
          go_simp
          all_goals exact rfl
        simp only [Act.put, List.setIfInBounds_toArray, List.set_cons_succ, List.set_cons_zero]
        go_big_quiet_on
        refine wpQuiet_nil ?_
        intro W hW
        have HS2 := Lib.hid (HSi.out.later hW)
        have HO2 := Lib.hid (HOi.out.below hW)
        have HP2 : Hid (W.cell? ⟨p, 0, none⟩ = some (.int .i64 (N : Int)) ∧ W.cell? ⟨p, 1, none⟩ = some (.slice A2 m2 c2)) := ⟨cell_later hW P0.out, cell_later hW P1.out⟩
        have HB2 : Hid (Below b w W) := HBi.out.trans (hW.mono (Nat.le_of_lt HSi.out.lt))
        have HZ2 : Hid (p < W.heap.size) := Nat.lt_of_lt_of_le HZi.out hW.size
        clear hW HSi HOi P0 P1 B1 B2 HBi HZi CW CU
        go_wp2
        go_roundw
        case rel => exact ⟨i + 1, FA, fc, by omega, by go_num, by rw [HNX.out, List.append_nil, ← HFS.out]; exact HS2.out, HO2.out, HP2.out, by rw [HNX.out, List.append_nil, ← HFS.out]; exact HGi.out, HZ2.out, HB2.out⟩
        case measure => simp [intOf]; omega
      · rw [if_neg (by decide)] at HNX
        go_wp2
        refine region_up (by kernel_rfl) (by kernel_rfl) ?_
        iterate 2
          go_big_quiet_want
          apply Exists.intro
          refine ⟨fun W hW => ?_, ?_⟩
          · have g0 := cell_later hW P0.out
            have g1 := cell_later hW P1.out
            have g2 := cell_later hW B1.out
            have g3 := cell_later hW B2.out
            go_simp
            all_goals exact rfl
          simp only [Act.put, List.setIfInBounds_toArray, List.set_cons_succ, List.set_cons_zero]
          go_big_quiet_on
        go_big_quiet_want
        apply Exists.intro
        refine ⟨fun W hW => ?_, ?_⟩
        · have g0 := cell_later hW P0.out
          have g1 := cell_later hW P1.out
          have g2 := cell_later hW B1.out
          have g3 := cell_later hW B2.out
          go_simp
          exact call_up hW (CW.out W hW)
        simp only [Act.put, List.setIfInBounds_toArray, List.set_cons_succ, List.set_cons_zero]
        go_big_quiet_on
        iterate 7
          go_big_quiet_want
          apply Exists.intro
          refine ⟨fun W hW => ?_, ?_⟩
          · have g0 := cell_later hW P0.out
            have g1 := cell_later hW P1.out
            have g2 := cell_later hW B1.out
            have g3 := cell_later hW B2.out
            go_simp
            all_goals exact rfl
          simp only [Act.put, List.setIfInBounds_toArray, List.set_cons_succ, List.set_cons_zero]
          go_big_quiet_on
        go_big_quiet_want
        apply Exists.intro
        refine ⟨fun W hW => ?_, ?_⟩
        · have g0 := cell_later hW P0.out
          have g1 := cell_later hW P1.out
          have g2 := cell_later hW B1.out
          have g3 := cell_later hW B2.out
          go_simp
          exact call_up hW (CU.out W hW)
        simp only [Act.put, List.setIfInBounds_toArray, List.set_cons_succ, List.set_cons_zero]
        go_big_quiet_on
        go_big_quiet_want
        apply Exists.intro
        refine ⟨fun W hW => ?_, ?_⟩
        · have g0 := cell_later hW P0.out
          have g1 := cell_later hW P1.out
          have g2 := cell_later hW B1.out
          have g3 := cell_later hW B2.out
          go_simp
          all_goals exact rfl
        simp only [Act.put, List.setIfInBounds_toArray, List.set_cons_succ, List.set_cons_zero]
        go_big_quiet_on
        refine wpQuiet_nil ?_
        intro W hW
        have HS2 := Lib.hid (HSi.out.later hW)
        have HO2 := Lib.hid (HOi.out.below hW)
        have HP2 : Hid (W.cell? ⟨p, 0, none⟩ = some (.int .i64 (N : Int)) ∧ W.cell? ⟨p, 1, none⟩ = some (.slice A2 m2 c2)) := ⟨cell_later hW P0.out, cell_later hW P1.out⟩
        have HB2 : Hid (Below b w W) := HBi.out.trans (hW.mono (Nat.le_of_lt HSi.out.lt))
        have HZ2 : Hid (p < W.heap.size) := Nat.lt_of_lt_of_le HZi.out hW.size
        clear hW HSi HOi P0 P1 B1 B2 HBi HZi CW CU
        have CT := Lib.hid (tell75 w0 W b fc oc _ FS FA OA os ⟨3, i⟩ HS2.out HFL.out)
        go_wp2_with (go_at_call 75; refine CT.out.mono ?_)
        rintro e w9 ⟨rfl, g, cap, hs9, hg9, hk9⟩
        have HS9 := Lib.hid hs9
        have HB9 : Hid (Below b w w9) := HB2.out.trans hk9.be
        have HO9 : Hid (OwU w9 (b + 1) (.slice A2 m2 c2) a.w) := hk9.own HO2.out (by omega) (fun q hq => own_tag HO2.out HS2.out.fo (by decide) hq)
        have HP9 : Hid (w9.cell? ⟨p, 0, none⟩ = some (.int .i64 (N : Int)) ∧ w9.cell? ⟨p, 1, none⟩ = some (.slice A2 m2 c2)) := ⟨hk9.cell HP2.out.1 HPB.out (fun e => HGi.out p e rfl), hk9.cell HP2.out.2 HPB.out (fun e => HGi.out p e rfl)⟩
        have HZ9 : Hid (p < w9.heap.size) := Nat.lt_of_lt_of_le HZ2.out hk9.size
        have HG9 : Hid (∀ G, (Value.slice (some ⟨g, 0, none⟩) (fs ++ pgTo a u (i + 1)).length cap).ownBlock = some G → G ≠ p) := by
          intro G hG
          cases hG
          rcases hg9 with e | e
          · exact HGi.out g e
          · have h1 := HZ2.out
            intro e2
            have e3 : g = p := e2
            omega
        clear hs9 hk9 hg9 CT
        go_wp2
        go_roundw
        case rel => exact ⟨i + 1, some ⟨g, 0, none⟩, cap, by omega, by go_num, by rw [HNX.out, ← List.append_assoc, ← HFS.out]; exact HS9.out, HO9.out, HP9.out, HG9.out, HZ9.out, HB9.out⟩
        case measure => simp [intOf]; omega
      · rw [if_neg (by decide)] at HNX
        go_wp2
        refine region_up (by kernel_rfl) (by kernel_rfl) ?_
        iterate 2
          go_big_quiet_want
          apply Exists.intro
          refine ⟨fun W hW => ?_, ?_⟩
          · have g0 := cell_later hW P0.out
            have g1 := cell_later hW P1.out
            have g2 := cell_later hW B1.out
            have g3 := cell_later hW B2.out
            go_simp
            all_goals exact rfl
          simp only [Act.put, List.setIfInBounds_toArray, List.set_cons_succ, List.set_cons_zero]
          go_big_quiet_on
        go_big_quiet_want
        apply Exists.intro
        refine ⟨fun W hW => ?_, ?_⟩
        · have g0 := cell_later hW P0.out
          have g1 := cell_later hW P1.out
          have g2 := cell_later hW B1.out
          have g3 := cell_later hW B2.out
          go_simp
          exact call_up hW (CW.out W hW)
        simp only [Act.put, List.setIfInBounds_toArray, List.set_cons_succ, List.set_cons_zero]
        go_big_quiet_on
        iterate 7
          go_big_quiet_want
          apply Exists.intro
          refine ⟨fun W hW => ?_, ?_⟩
          · have g0 := cell_later hW P0.out
            have g1 := cell_later hW P1.out
            have g2 := cell_later hW B1.out
            have g3 := cell_later hW B2.out
            go_simp
            all_goals exact rfl
          simp only [Act.put, List.setIfInBounds_toArray, List.set_cons_succ, List.set_cons_zero]
          go_big_quiet_on
        go_big_quiet_want
        apply Exists.intro
        refine ⟨fun W hW => ?_, ?_⟩
        · have g0 := cell_later hW P0.out
          have g1 := cell_later hW P1.out
          have g2 := cell_later hW B1.out
          have g3 := cell_later hW B2.out
          go_simp
          exact call_up hW (CU.out W hW)
        simp only [Act.put, List.setIfInBounds_toArray, List.set_cons_succ, List.set_cons_zero]
        go_big_quiet_on
        go_big_quiet_want
        apply Exists.intro
        refine ⟨fun W hW => ?_, ?_⟩
        · have g0 := cell_later hW P0.out
          have g1 := cell_later hW P1.out
          have g2 := cell_later hW B1.out
          have g3 := cell_later hW B2.out
          go_simp
          all_goals exact rfl
        simp only [Act.put, List.setIfInBounds_toArray, List.set_cons_succ, List.set_cons_zero]
        go_big_quiet_on
        refine wpQuiet_nil ?_
        intro W hW
        have HS2 := Lib.hid (HSi.out.later hW)
        have HO2 := Lib.hid (HOi.out.below hW)
        have HP2 : Hid (W.cell? ⟨p, 0, none⟩ = some (.int .i64 (N : Int)) ∧ W.cell? ⟨p, 1, none⟩ = some (.slice A2 m2 c2)) := ⟨cell_later hW P0.out, cell_later hW P1.out⟩
        have HB2 : Hid (Below b w W) := HBi.out.trans (hW.mono (Nat.le_of_lt HSi.out.lt))
        have HZ2 : Hid (p < W.heap.size) := Nat.lt_of_lt_of_le HZi.out hW.size
        clear hW HSi HOi P0 P1 B1 B2 HBi HZi CW CU
        have CT := Lib.hid (tell75 w0 W b fc oc _ FS FA OA os ⟨3, i⟩ HS2.out HFL.out)
        go_wp2_with (go_at_call 75; refine CT.out.mono ?_)
        rintro e w9 ⟨rfl, g, cap, hs9, hg9, hk9⟩
        have HS9 := Lib.hid hs9
        have HB9 : Hid (Below b w w9) := HB2.out.trans hk9.be
        have HO9 : Hid (OwU w9 (b + 1) (.slice A2 m2 c2) a.w) := hk9.own HO2.out (by omega) (fun q hq => own_tag HO2.out HS2.out.fo (by decide) hq)
        have HP9 : Hid (w9.cell? ⟨p, 0, none⟩ = some (.int .i64 (N : Int)) ∧ w9.cell? ⟨p, 1, none⟩ = some (.slice A2 m2 c2)) := ⟨hk9.cell HP2.out.1 HPB.out (fun e => HGi.out p e rfl), hk9.cell HP2.out.2 HPB.out (fun e => HGi.out p e rfl)⟩
        have HZ9 : Hid (p < w9.heap.size) := Nat.lt_of_lt_of_le HZ2.out hk9.size
        have HG9 : Hid (∀ G, (Value.slice (some ⟨g, 0, none⟩) (fs ++ pgTo a u (i + 1)).length cap).ownBlock = some G → G ≠ p) := by
          intro G hG
          cases hG
          rcases hg9 with e | e
          · exact HGi.out g e
          · have h1 := HZ2.out
            intro e2
            have e3 : g = p := e2
            omega
        clear hs9 hk9 hg9 CT
        go_wp2
        go_roundw
        case rel => exact ⟨i + 1, some ⟨g, 0, none⟩, cap, by omega, by go_num, by rw [HNX.out, ← List.append_assoc, ← HFS.out]; exact HS9.out, HO9.out, HP9.out, HG9.out, HZ9.out, HB9.out⟩
        case measure => simp [intOf]; omega
      · rw [if_pos rfl] at HNX
        go_wp2
        refine region_up (by kernel_rfl) (by kernel_rfl) ?_
        iterate 2
          go_big_quiet_want
          apply Exists.intro
          refine ⟨fun W hW => ?_, ?_⟩
          · have g0 := cell_later hW P0.out
            have g1 := cell_later hW P1.out
            have g2 := cell_later hW B1.out
            have g3 := cell_later hW B2.out
            go_simp
            all_goals exact rfl
          simp only [Act.put, List.setIfInBounds_toArray, List.set_cons_succ, List.set_cons_zero]
          go_big_quiet_on
        go_big_quiet_want
        apply Exists.intro
        refine ⟨fun W hW => ?_, ?_⟩
        · have g0 := cell_later hW P0.out
          have g1 := cell_later hW P1.out
          have g2 := cell_later hW B1.out
          have g3 := cell_later hW B2.out
          go_simp
          exact call_up hW (CW.out W hW)
        simp only [Act.put, List.setIfInBounds_toArray, List.set_cons_succ, List.set_cons_zero]
        go_big_quiet_on
        iterate 7
          go_big_quiet_want
          apply Exists.intro
          refine ⟨fun W hW => ?_, ?_⟩
          · have g0 := cell_later hW P0.out
            have g1 := cell_later hW P1.out
            have g2 := cell_later hW B1.out
            have g3 := cell_later hW B2.out
            go_simp
            all_goals exact rfl
          simp only [Act.put, List.setIfInBounds_toArray, List.set_cons_succ, List.set_cons_zero]
          go_big_quiet_on
        go_big_quiet_want
        apply Exists.intro
        refine ⟨fun W hW => ?_, ?_⟩
        · have g0 := cell_later hW P0.out
          have g1 := cell_later hW P1.out
          have g2 := cell_later hW B1.out
          have g3 := cell_later hW B2.out
          go_simp
          exact call_up hW (CU.out W hW)
        simp only [Act.put, List.setIfInBounds_toArray, List.set_cons_succ, List.set_cons_zero]
        go_big_quiet_on
        go_big_quiet_want
        apply Exists.intro
        refine ⟨fun W hW => ?_, ?_⟩
        · have g0 := cell_later hW P0.out
          have g1 := cell_later hW P1.out
          have g2 := cell_later hW B1.out
          have g3 := cell_later hW B2.out
          go_simp
          all_goals exact rfl
        simp only [Act.put, List.setIfInBounds_toArray, List.set_cons_succ, List.set_cons_zero]
        go_big_quiet_on
        refine wpQuiet_nil ?_
        intro W hW
        have HS2 := Lib.hid (HSi.out.later hW)
        have HO2 := Lib.hid (HOi.out.below hW)
        have HP2 : Hid (W.cell? ⟨p, 0, none⟩ = some (.int .i64 (N : Int)) ∧ W.cell? ⟨p, 1, none⟩ = some (.slice A2 m2 c2)) := ⟨cell_later hW P0.out, cell_later hW P1.out⟩
        have HB2 : Hid (Below b w W) := HBi.out.trans (hW.mono (Nat.le_of_lt HSi.out.lt))
        have HZ2 : Hid (p < W.heap.size) := Nat.lt_of_lt_of_le HZi.out hW.size
        clear hW HSi HOi P0 P1 B1 B2 HBi HZi CW CU
        go_wp2
        go_roundw
        case rel => exact ⟨i + 1, FA, fc, by omega, by go_num, by rw [HNX.out, List.append_nil, ← HFS.out]; exact HS2.out, HO2.out, HP2.out, by rw [HNX.out, List.append_nil, ← HFS.out]; exact HGi.out, HZ2.out, HB2.out⟩
        case measure => simp [intOf]; omega
    · obtain rfl : i = N := by omega
      go_wp2
      go_end0
      exact ⟨rfl, ⟨FA, fc, HSi.out⟩, HBi.out⟩
end Go.Proofs.YtieijfefnedifaaGreatDoor

/- The walks of BinarySearchFunc on verify's objects, and of fits. -/
namespace Go.Proofs.YtieijfefnedifaaGreatDoor
open Go.RowKit
set_option linter.unusedVariables false
set_option linter.unusedSimpArgs false

theorem RdQ.len {w : World} {A : Option Addr} {l : List VObj} (h : RdQ w A l) : l.length ≤ 9223372036854775807 := h.2.1
theorem RdQ.at_ {w : World} {A : Option Addr} {l : List VObj} (h : RdQ w A l) {i : Nat} {s : VObj} (hs : l[i]? = some s) : ∃ b o, A = some ⟨b, o, none⟩ ∧ b < w.heap.size ∧
    w.cell? ⟨b, o + i * 8, none⟩ = some (.int .i64 s.i) ∧ w.cell? ⟨b, o + i * 8 + 1, none⟩ = some (.int .i64 s.k) ∧ w.cell? ⟨b, o + i * 8 + 2, none⟩ = some (.int .u64 s.a) ∧ w.cell? ⟨b, o + i * 8 + 3, none⟩ = some (.int .u64 s.r) ∧
    w.cell? ⟨b, o + i * 8 + 4, none⟩ = some (.int .i64 s.n) ∧ w.cell? ⟨b, o + i * 8 + 5, none⟩ = some (.int .u64 s.m) ∧ w.cell? ⟨b, o + i * 8 + 6, none⟩ = some (.bool s.cur) ∧ w.cell? ⟨b, o + i * 8 + 7, none⟩ = some (.bool s.ok) := by
  have hi : i < l.length := (List.getElem?_eq_some_iff.1 hs).1
  obtain ⟨b, o, e, hb, hc⟩ := h.2.2 (by omega)
  refine ⟨b, o, e, hb, ?_, ?_, ?_, ?_, ?_, ?_, ?_, ?_⟩
  · exact hc (i * 8 + 0) _ (by rw [flQ_get l i 0 (by omega), hs]; rfl)
  · exact hc (i * 8 + 1) _ (by rw [flQ_get l i 1 (by omega), hs]; rfl)
  · exact hc (i * 8 + 2) _ (by rw [flQ_get l i 2 (by omega), hs]; rfl)
  · exact hc (i * 8 + 3) _ (by rw [flQ_get l i 3 (by omega), hs]; rfl)
  · exact hc (i * 8 + 4) _ (by rw [flQ_get l i 4 (by omega), hs]; rfl)
  · exact hc (i * 8 + 5) _ (by rw [flQ_get l i 5 (by omega), hs]; rfl)
  · exact hc (i * 8 + 6) _ (by rw [flQ_get l i 6 (by omega), hs]; rfl)
  · exact hc (i * 8 + 7) _ (by rw [flQ_get l i 7 (by omega), hs]; rfl)
def keysQ (os : List VObj) : List Int := os.map (fun o => (o.a : Int))
theorem keysQ_at {os : List VObj} {m : Nat} {o : VObj} (h : os[m]? = some o) : (keysQ os)[m]? = some (o.a : Int) := by simp [keysQ, h]
theorem fits77 (n : Nat) (m : Int) (x : SpanV) (w : World) (h : n ≤ 48) : Calls Tryz.prog 77 #[.agg #[.int .i64 (n : Int), .int .u64 m], x.v] w (Ret (.bool ((sizeP n == x.size) && (pageP n == x.pages))) w) := by
  have HO := Lib.hid (fun W => clsOf n W h)
  have HP := Lib.hid (fun W => clsPages n W h)
  obtain ⟨e1, e2, e3⟩ := sizeP_of n h
  generalize (if 15 < n then (-1 : Int) else max 0 ((lenN n : Int) - 1)) = c at HO e1 e2 e3
  have HS := Lib.hid (fun W => clsSize c W ⟨e2, e3⟩)
  rw [e1] at HS
  have hn48 : (n : Int) ≤ 48 := by omega
  obtain ⟨xf, xp, xz, ⟨xn, xA, xm, xc⟩, ⟨yn, yA, ym, yc⟩, xw⟩ := x
  unfold SpanV.v
  simp only
  generalize sizeP n = Z1 at *
  generalize pageP n = Z2 at *
  have HB0 : Hid (Below w.heap.size w ((w.alloc (.cells #[.int .i64 (n : Int), .int .u64 m] 56)).alloc (.cells #[.int .i64 xf, .int .i64 xp, .int .i64 xz, .int .i64 xn, .slice xA xm xc, .int .i64 yn, .slice yA ym yc, .bool xw] 44))) := balloc (balloc (Below.refl _ _) _) _
  clear e1 e2 e3 h
  have hz : (Z1 = xz ∧ ((Z1 == xz) = true)) ∨ (Z1 ≠ xz ∧ (Z1 == xz) = false) := by
    by_cases e : Z1 = xz
    · exact Or.inl ⟨e, by simpa using e⟩
    · exact Or.inr ⟨e, by simpa using e⟩
  have hy : ((Z2 == xp) = true) ∨ ((Z2 == xp) = false) := by cases (Z2 == xp) <;> simp
  rcases hz with ⟨-, d1⟩ | ⟨-, d1⟩ <;> rcases hy with d2 | d2 <;> rw [d1] <;> (try rw [d2])
  all_goals
    go_enter Tryz.func77, Tryz.ntmps77
    go_wp2_with (go_at_call 63; refine (HO.out _).mono ?_)
    rintro e w1 ⟨rfl, hb1⟩
    obtain ⟨hc1, hf1, hs1⟩ := bcellB (B := w.heap.size + 2) hb1 (by simp)
    have HB1 := Lib.hid (bthen HB0.out hb1)
    clear hb1
    go_wp2_with (go_at_call 64; refine (HS.out _).mono ?_)
    rintro e w2 ⟨rfl, hb2⟩
    obtain ⟨hc2, hf2, hs2⟩ := bcellB (B := w.heap.size + 2) hb2 hs1
    have HB2 := Lib.hid (bthen HB1.out hb2)
    clear hb2
    go_wp2_with (go_at_call 65; refine (HP.out _).mono ?_)
    rintro e w3 ⟨rfl, hb3⟩
    obtain ⟨hc3, hf3, hs3⟩ := bcellB (B := w.heap.size + 2) hb3 hs2
    have HB3 := Lib.hid (bthen HB2.out hb3)
    clear hb3
    go_wp2
    go_ret
    exact ⟨rfl, HB3.out⟩
theorem cmpQ (o : VObj) (t : Int) (w : World) : Calls Tryz.prog 106 #[o.v, .int .u64 t] w (Ret (.int .i64 (cmpI o.a t)) w) := by
  have HC : Hid (∀ W, Calls Tryz.prog 107 #[.int .u64 (o.a : Int), .int .u64 t] W (Ret (.int .i64 (cmpI o.a t)) W)) := fun W => cmp49 o.a t W
  unfold VObj.v
  generalize cmpI o.a t = cc at *
  have HB0 : Hid (Below w.heap.size w (w.alloc (.cells #[.int .i64 o.i, .int .i64 o.k, .int .u64 o.a, .int .u64 o.r, .int .i64 o.n, .int .u64 o.m, .bool o.cur, .bool o.ok] 124))) := balloc (Below.refl _ _) _
  go_enter Tryz.func106, Tryz.ntmps106
  go_wp2_with (go_at_call 107; refine (HC.out _).mono ?_)
  rintro e w1 ⟨rfl, hb1⟩
  have HB1 := Lib.hid (bthen HB0.out hb1)
  clear hb1
  go_wp2
  go_ret
  exact ⟨rfl, HB1.out⟩
theorem entersQ : Enters 106 := fun args w => by kernel_rfl
set_option maxRecDepth 100000 in
set_option maxHeartbeats 8000000 in
theorem searchQ (l : List VObj) (A : Option Addr) (c : Nat) (g : Nat) (caps : Array Value) (t : Int) (w : World) (h : RdQ w A l) (hn : l.length ≤ 100000) (hg : Enters g) (hso : SortedK (keysQ l))
    (hf : ∀ (i : Nat) s, l[i]? = some s → ∀ w', Below w.heap.size w w' → Calls Tryz.prog g (#[s.v, .int .u64 t] ++ caps) w' (Ret (.int .i64 (cmpI s.a t)) w')) :
    Calls Tryz.prog 105 #[.slice A l.length c, .int .u64 t, .func (.func g) #[] caps] w (Ret (.tuple #[.int .i64 (posK (keysQ l) t), .bool (foundK (keysQ l) t)]) w) := by
  unfold Enters at hg
  have H := Lib.hid h
  have HSO := Lib.hid hso
  have HF := Lib.hid hf
  have HKL : Hid ((keysQ l).length = l.length) := by show _ = _; simp [keysQ]
  clear h hso hf
  go_enter Tryz.func105, Tryz.ntmps105
  go_wp2
  obtain ⟨wo, hwo⟩ : ∃ wo : World, wo = w := ⟨w, rfl⟩
  go_loopw [9, 10] (fun v9 v10 wr => ∃ i j : Nat, i ≤ j ∧ j ≤ l.length ∧ v9 = .int .i64 i ∧ v10 = .int .i64 j ∧ Hid (∀ a, a < i → ∀ s, (keysQ l)[a]? = some s → s < t) ∧ Hid (∀ a, j ≤ a → ∀ s, (keysQ l)[a]? = some s → t ≤ s) ∧ Hid (Below w.heap.size w wr)) (fun v9 v10 _ => (intOf v10).toNat - (intOf v9).toNat)
  case atStart => exact ⟨0, l.length, Nat.zero_le _, Nat.le_refl _, rfl, rfl, fun a ha => by omega, fun a ha s hs => by have := (List.getElem?_eq_some_iff.1 hs).1; have := HKL.out; omega, Below.refl _ _⟩
  case round =>
    obtain ⟨i, j, hij, hj, rfl, rfl, HLo, HHi, HBr⟩ := hrel
    by_cases hlt : i < j
    · obtain ⟨m, hm⟩ : ∃ m : Nat, m = (i + j) / 2 := ⟨_, rfl⟩
      have hmi : i ≤ m := by omega
      have hmj : m < j := by omega
      have hq : ((i : Int) + (j : Int)) / 2 = (m : Int) := by omega
      have hml : m < l.length := by omega
      have hs : l[m]? = some l[m] := List.getElem?_eq_getElem hml
      generalize l[m] = s at hs
      obtain ⟨bk, o, hA, hbk, c0, c1, c2, c3, c4, c5, c6, c7⟩ := H.out.at_ hs
      replace c0 := cell_later HBr.out c0
      replace c1 := cell_later HBr.out c1
      replace c2 := cell_later HBr.out c2
      replace c3 := cell_later HBr.out c3
      replace c4 := cell_later HBr.out c4
      replace c5 := cell_later HBr.out c5
      replace c6 := cell_later HBr.out c6
      replace c7 := cell_later HBr.out c7
      have HC := Lib.hid (HF.out m s hs wr HBr.out)
      subst hA
      unfold VObj.v at HC
      try simp only [List.append_toArray, Array.append, List.cons_append, List.nil_append] at HC
      have HSS := Lib.hid (keysQ_at hs)
      clear hs hm
      by_cases hk : (s.a : Int) < t
      · have EC : Hid (cmpI s.a t = -1) := by show _ = _; unfold cmpI; rw [if_pos hk]
        have HK := Lib.hid hk
        rw [EC.out] at HC
        clear hk
        go_wp2_with fail
        refine HC.out.mono ?_
        rintro e w1 ⟨rfl, hb1⟩
        have HB1 := Lib.hid (bthen HBr.out hb1)
        clear hb1
        go_wp2
        go_roundw
        case rel => exact ⟨m + 1, j, by omega, hj, by go_num, rfl, belowK HSO.out HSS.out HK.out, HHi.out, HB1.out⟩
        case measure => simp [intOf]; omega
      · have HK : Hid (t ≤ (s.a : Int)) := by show _ ≤ _; omega
        have hc : cmpI s.a t = 0 ∨ cmpI s.a t = 1 := by unfold cmpI; rw [if_neg hk]; split <;> simp
        clear hk
        rcases hc with hc | hc
        all_goals
          rw [hc] at HC
          clear hc
          go_wp2_with fail
          refine HC.out.mono ?_
          rintro e w1 ⟨rfl, hb1⟩
          have HB1 := Lib.hid (bthen HBr.out hb1)
          clear hb1
          go_wp2
          go_roundw
          case rel => exact ⟨i, m, hmi, by omega, rfl, rfl, HLo.out, aboveK HSO.out HSS.out HK.out, HB1.out⟩
          case measure => simp [intOf]; omega
    · obtain rfl : i = j := by omega
      have EP : Hid (posK (keysQ l) t = i) := posK_of (by rw [HKL.out]; exact hj) HLo.out (fun s hs => HHi.out i (Nat.le_refl _) s hs)
      by_cases hil : i < l.length
      · have hs : l[i]? = some l[i] := List.getElem?_eq_getElem hil
        generalize l[i] = s at hs
        obtain ⟨bk, o, hA, hbk, c0, c1, c2, c3, c4, c5, c6, c7⟩ := H.out.at_ hs
        replace c0 := cell_later HBr.out c0
        replace c1 := cell_later HBr.out c1
        replace c2 := cell_later HBr.out c2
        replace c3 := cell_later HBr.out c3
        replace c4 := cell_later HBr.out c4
        replace c5 := cell_later HBr.out c5
        replace c6 := cell_later HBr.out c6
        replace c7 := cell_later HBr.out c7
        have HC := Lib.hid (HF.out i s hs wr HBr.out)
        subst hA
        unfold VObj.v at HC
        try simp only [List.append_toArray, Array.append, List.cons_append, List.nil_append] at HC
        have EF : Hid (foundK (keysQ l) t = ((s.a : Int) == t)) := by show _ = _; unfold foundK; rw [EP.out, keysQ_at hs]
        have hk : ¬ (s.a : Int) < t := by have := HHi.out i (Nat.le_refl _) _ (keysQ_at hs); omega
        clear hs
        by_cases hk2 : t < (s.a : Int)
        · have EF : Hid (foundK (keysQ l) t = false) := by show _ = _; rw [EF.out, beq_eq_false_iff_ne]; omega
          rw [show cmpI s.a t = 1 from by unfold cmpI; rw [if_neg hk, if_pos hk2]] at HC
          clear hk hk2
          go_wp2_with fail
          refine HC.out.mono ?_
          rintro e w1 ⟨rfl, hb1⟩
          have HB1 := Lib.hid (bthen HBr.out hb1)
          clear hb1
          go_wp2
          go_ret2
          rw [EP.out, EF.out]
          exact ⟨rfl, HB1.out⟩
        · have EF : Hid (foundK (keysQ l) t = true) := by show _ = _; rw [EF.out, beq_iff_eq]; omega
          rw [show cmpI s.a t = 0 from by unfold cmpI; rw [if_neg hk, if_neg hk2]] at HC
          clear hk hk2
          go_wp2_with fail
          refine HC.out.mono ?_
          rintro e w1 ⟨rfl, hb1⟩
          have HB1 := Lib.hid (bthen HBr.out hb1)
          clear hb1
          go_wp2
          go_ret2
          rw [EP.out, EF.out]
          exact ⟨rfl, HB1.out⟩
      · have EF : Hid (foundK (keysQ l) t = false) := by show _ = _; unfold foundK; rw [EP.out, List.getElem?_eq_none (by have := HKL.out; omega)]
        go_wp2
        go_ret2
        rw [EP.out, EF.out]
        exact ⟨rfl, HBr.out⟩
end Go.Proofs.YtieijfefnedifaaGreatDoor

/- The walk of verify's leads. -/
namespace Go.Proofs.YtieijfefnedifaaGreatDoor
open Go.RowKit
set_option linter.unusedVariables false
set_option linter.unusedSimpArgs false

def hitQ (os : List VObj) (t : Int) : Option VObj := os.find? (fun o => (o.a : Int) == t)
def leadsQ (os : List VObj) (t : Int) : Bool := (t == 0) || (match hitQ os t with | some o => o.cur && o.ok | none => false)
theorem find_foundQ {os : List VObj} {t : Int} (h : foundK (keysQ os) t = true) : ∃ o, os[posK (keysQ os) t]? = some o ∧ hitQ os t = some o := by
  obtain ⟨h1, h2, h3⟩ := posK_parts (keysQ os) t
  unfold foundK at h
  split at h
  · rename_i x hx
    have hlt : posK (keysQ os) t < os.length := by have := (List.getElem?_eq_some_iff.1 hx).1; simpa [keysQ] using this
    have ho : os[posK (keysQ os) t]? = some os[posK (keysQ os) t] := List.getElem?_eq_getElem hlt
    generalize os[posK (keysQ os) t] = o at ho
    have hxo := keysQ_at ho
    rw [hx] at hxo
    have hxt : (o.a : Int) = t := by
      have e := Option.some.inj hxo
      rw [← e]
      simpa using h
    refine ⟨o, ho, ?_⟩
    have e : os.find? (fun o => (o.a : Int) == t) = some o := by
      rw [List.find?_eq_some_iff_getElem]
      refine ⟨by simpa using hxt, posK (keysQ os) t, hlt, (List.getElem?_eq_some_iff.1 ho).2, fun j hj => ?_⟩
      have := h2 j hj _ (keysQ_at (List.getElem?_eq_getElem (by omega)))
      simp
      omega
    exact e
  · cases h
theorem find_missingQ {os : List VObj} {t : Int} (hs : SortedK (keysQ os)) (h : foundK (keysQ os) t = false) : hitQ os t = none := by
  obtain ⟨h1, h2, h3⟩ := posK_parts (keysQ os) t
  have e : os.find? (fun o => (o.a : Int) == t) = none := by
    rw [List.find?_eq_none]
    intro o ho
    obtain ⟨m, hm, rfl⟩ := List.getElem_of_mem ho
    have hk := keysQ_at (List.getElem?_eq_getElem hm)
    intro hc
    have hc : ((os[m]).a : Int) = t := by simpa using hc
    rw [hc] at hk
    by_cases hmp : m < posK (keysQ os) t
    · have := h2 m hmp _ hk
      omega
    · have hlt : posK (keysQ os) t < (keysQ os).length := by have := (List.getElem?_eq_some_iff.1 hk).1; omega
      have hx := List.getElem?_eq_getElem hlt
      have h4 := h3 _ hx
      have h5 := hs _ _ _ _ (by omega) hx hk
      unfold foundK at h
      rw [hx] at h
      simp at h
      omega
  exact e
set_option maxRecDepth 100000 in
set_option maxHeartbeats 8000000 in
theorem leads79 (b oc : Nat) (os : List VObj) (OA : Option Addr) (t : Int) (w : World) (s5 : w.cell? ⟨b, 5, none⟩ = some (.slice OA os.length oc)) (hb : b < w.heap.size) (hrd : RdQ w OA os) (hfew : os.length ≤ 100000) (hso : SortedK (keysQ os)) :
    Calls Tryz.prog 79 #[.pointer (some ⟨b, 0, none⟩), .int .u64 t] w (Ret (.bool (leadsQ os t)) w) := by
  have CS : Hid (Calls Tryz.prog 105 #[.slice OA os.length oc, .int .u64 t, .func (.func 106) #[] #[]] w (Ret (.tuple #[.int .i64 (posK (keysQ os) t), .bool (foundK (keysQ os) t)]) w)) :=
    searchQ os OA oc 106 #[] t w hrd hfew entersQ hso (fun i s hi W hW => by simpa using cmpQ s t W)
  by_cases ht : t = 0
  · have E : Hid (leadsQ os t = true) := by show _ = _; unfold leadsQ; simp [ht]
    have hq : (t == 0) = true := by simpa using ht
    generalize posK (keysQ os) t = p at *
    generalize foundK (keysQ os) t = fd at *
    clear hso hrd ht
    go_enter Tryz.func79, Tryz.ntmps79
    go_wp2_with (go_at_call 105; refine CS.out.mono ?_)
    rintro e w1 ⟨rfl, hb1⟩
    obtain ⟨hc1, hf1, hs1⟩ := bcellB (B := w.heap.size) hb1 (Nat.le_refl _)
    have HB1 := Lib.hid hb1
    clear hb1 CS
    go_wp2
    go_ret
    rw [E.out]
    exact ⟨rfl, HB1.out⟩
  · have hq : (t == 0) = false := by simpa using ht
    have EL : Hid (leadsQ os t = (match hitQ os t with | some o => o.cur && o.ok | none => false)) := by show _ = _; unfold leadsQ; rw [hq, Bool.false_or]
    clear ht
    cases hf : foundK (keysQ os) t
    · have E : Hid (leadsQ os t = false) := by show _ = _; rw [EL.out, find_missingQ hso hf]
      rw [hf] at CS
      generalize posK (keysQ os) t = p at *
      clear hso hrd hf EL
      go_enter Tryz.func79, Tryz.ntmps79
      go_wp2_with (go_at_call 105; refine CS.out.mono ?_)
      rintro e w1 ⟨rfl, hb1⟩
      obtain ⟨hc1, hf1, hs1⟩ := bcellB (B := w.heap.size) hb1 (Nat.le_refl _)
      have HB1 := Lib.hid hb1
      clear hb1 CS
      go_wp2
      go_ret
      rw [E.out]
      exact ⟨rfl, HB1.out⟩
    · obtain ⟨o, ho, ef⟩ := find_foundQ hf
      have E : Hid (leadsQ os t = (o.cur && o.ok)) := by show _ = _; rw [EL.out, ef]
      rw [hf] at CS
      obtain ⟨bk, oo, hA, hbk, c0, c1, c2, c3, c4, c5, c6, c7⟩ := hrd.at_ ho
      have hlt := (List.getElem?_eq_some_iff.1 ho).1
      generalize posK (keysQ os) t = p at *
      have hpl : (p : Int) < (os.length : Int) := by omega
      subst hA
      clear hso hrd hf ho ef EL c0 c1 c2 c3 c4 c5
      cases hcu : o.cur <;> cases hok : o.ok <;> rw [hcu] at c6 <;> rw [hok] at c7 <;> rw [hcu, hok] at E <;> clear hcu hok
      all_goals
        go_enter Tryz.func79, Tryz.ntmps79
        go_wp2_with (go_at_call 105; refine CS.out.mono ?_)
        rintro e w1 ⟨rfl, hb1⟩
        obtain ⟨hc1, hf1, hs1⟩ := bcellB (B := w.heap.size) hb1 (Nat.le_refl _)
        have HB1 := Lib.hid hb1
        clear hb1 CS
        go_wp2
        go_ret
        rw [E.out]
        exact ⟨rfl, HB1.out⟩
end Go.Proofs.YtieijfefnedifaaGreatDoor

/- The walks of slices.Index and Contains on kinds of faults. -/
namespace Go.Proofs.YtieijfefnedifaaGreatDoor
open Go.RowKit
set_option linter.unusedVariables false
set_option linter.unusedSimpArgs false

def kcs (l : List Nat) : List Value := l.map (fun k : Nat => Value.int .u8 (k : Int))
def RdK (w : World) (A : Option Addr) (l : List Nat) : Prop := Rd w 1 A l.length (kcs l)
theorem RdK.below {w w1 : World} {A : Option Addr} {l : List Nat} (h : RdK w A l) (hb : Below w.heap.size w w1) : RdK w1 A l := Rd.below h hb
theorem RdK.len {w : World} {A : Option Addr} {l : List Nat} (h : RdK w A l) : l.length ≤ 9223372036854775807 := h.2.1
theorem RdK.at_ {w : World} {A : Option Addr} {l : List Nat} (h : RdK w A l) {i : Nat} {x : Nat} (hs : l[i]? = some x) : ∃ b o, A = some ⟨b, o, none⟩ ∧ b < w.heap.size ∧ w.cell? ⟨b, o + i, none⟩ = some (.int .u8 (x : Int)) := by
  have hi : i < l.length := (List.getElem?_eq_some_iff.1 hs).1
  obtain ⟨b, o, e, hb, hc⟩ := h.2.2 (by omega)
  exact ⟨b, o, e, hb, hc i _ (by simp [kcs, hs])⟩
def idxK (l : List Nat) (k : Nat) : Int := match l.findIdx? (fun x => x == k) with | some i => (i : Int) | none => -1
theorem idxK_some {l : List Nat} {k i : Nat} (hs : l[i]? = some k) (hno : ∀ j, j < i → ∀ x, l[j]? = some x → x ≠ k) : idxK l k = (i : Int) := by
  unfold idxK
  obtain ⟨h1, h2⟩ := List.getElem?_eq_some_iff.1 hs
  have e : l.findIdx? (fun x => x == k) = some i := by
    rw [List.findIdx?_eq_some_iff_getElem]
    refine ⟨h1, by rw [h2]; simp, fun j hj => ?_⟩
    have := hno j hj _ (List.getElem?_eq_getElem (by omega))
    simpa using this
  rw [e]
theorem idxK_none {l : List Nat} {k : Nat} (hno : ∀ j, j < l.length → ∀ x, l[j]? = some x → x ≠ k) : idxK l k = -1 := by
  unfold idxK
  have e : l.findIdx? (fun x => x == k) = none := by
    rw [List.findIdx?_eq_none_iff]
    intro x hx
    obtain ⟨j, hj, rfl⟩ := List.getElem_of_mem hx
    have := hno j hj _ (List.getElem?_eq_getElem hj)
    simpa using this
  rw [e]
theorem idxK_has (l : List Nat) (k : Nat) : decide (0 ≤ idxK l k) = l.contains k := by
  unfold idxK
  cases h : l.findIdx? (fun x => x == k) with
  | none =>
    rw [List.findIdx?_eq_none_iff] at h
    have : ¬ k ∈ l := fun hk => by have := h k hk; simp at this
    have e : l.contains k = false := by simpa using this
    rw [e]
    decide
  | some i =>
    rw [List.findIdx?_eq_some_iff_getElem] at h
    obtain ⟨h1, h2, _⟩ := h
    have : k ∈ l := by have e : l[i] = k := by simpa using h2
                       rw [← e]
                       exact List.getElem_mem h1
    have e : l.contains k = true := by simpa using this
    rw [e]
    simp
set_option maxRecDepth 100000 in
set_option maxHeartbeats 8000000 in
theorem index55 (l : List Nat) (A : Option Addr) (c k : Nat) (w : World) (h : RdK w A l) : Calls Tryz.prog 55 #[.slice A l.length c, .int .u8 (k : Int)] w (Ret (.int .i64 (idxK l k)) w) := by
  have hl := h.len
  have H := Lib.hid h
  clear h
  go_enter Tryz.func55, Tryz.ntmps55
  go_wp2
  obtain ⟨wo, hwo⟩ : ∃ wo : World, wo = w := ⟨w, rfl⟩
  go_loopw [8] (fun i wr => ∃ n : Nat, n ≤ l.length ∧ i = .int .i64 n ∧ Hid (∀ j, j < n → ∀ x, l[j]? = some x → x ≠ k) ∧ Hid (Below w.heap.size w wr)) (fun i _ => l.length - (intOf i).toNat)
  case atStart => exact ⟨0, Nat.zero_le _, rfl, fun j hj => by omega, Below.refl _ _⟩
  case round =>
    obtain ⟨n, hn, rfl, HNO, HBr⟩ := hrel
    by_cases hlt : n < l.length
    · have hs : l[n]? = some l[n] := List.getElem?_eq_getElem hlt
      generalize l[n] = x at hs
      obtain ⟨b, o, hA, hb, hc⟩ := (H.out.below HBr.out).at_ hs
      subst hA
      have HSS := Lib.hid hs
      clear hs
      by_cases hz : x = k
      · have E : Hid (idxK l k = (n : Int)) := idxK_some (by rw [HSS.out, hz]) HNO.out
        have hq : ((k : Int) == (x : Int)) = true := by simp [hz]
        clear hz
        go_wp2
        go_ret
        rw [E.out]
        exact ⟨rfl, HBr.out⟩
      · have hq : ((k : Int) == (x : Int)) = false := by rw [beq_eq_false_iff_ne]; omega
        have HN1 : Hid (∀ j, j < n + 1 → ∀ x, l[j]? = some x → x ≠ k) := by
          intro j hj y hy
          by_cases e : j = n
          · subst e
            rw [HSS.out] at hy
            cases hy
            exact hz
          · exact HNO.out j (by omega) y hy
        clear hz
        go_wp2
        go_roundw
        case rel => exact ⟨n + 1, by omega, by go_num, HN1.out, HBr.out⟩
        case measure => simp [intOf]; omega
    · obtain rfl : n = l.length := by omega
      have E : Hid (idxK l k = -1) := idxK_none HNO.out
      go_wp2
      go_ret
      rw [E.out]
      exact ⟨rfl, HBr.out⟩
theorem contains24 (l : List Nat) (A : Option Addr) (c k : Nat) (w : World) (h : RdK w A l) : Calls Tryz.prog 24 #[.slice A l.length c, .int .u8 (k : Int)] w (Ret (.bool (l.contains k)) w) := by
  have HC := Lib.hid (index55 l A c k w h)
  rw [← idxK_has]
  have hk : idxK l k < 0 ∨ 0 ≤ idxK l k := by omega
  generalize idxK l k = z at *
  clear h
  go_enter Tryz.func24, Tryz.ntmps24
  go_wp2_with (go_at_call 55; refine HC.out.mono ?_)
  rintro e w1 ⟨rfl, hb1⟩
  rcases hk with hk | hk
  · rw [decide_eq_false (show ¬ 0 ≤ z by omega)]
    go_wp2
    go_ret
    exact ⟨by simp <;> omega, hb1⟩
  · rw [decide_eq_true hk]
    go_wp2
    go_ret
    exact ⟨by simp <;> omega, hb1⟩
end Go.Proofs.YtieijfefnedifaaGreatDoor

/- Variables that hold an object of verify's; an object is appended; what collect tells. -/
namespace Go.Proofs.YtieijfefnedifaaGreatDoor
open Go.RowKit
set_option linter.unusedVariables false
set_option linter.unusedSimpArgs false

structure VarQ (W : World) (b : Nat) (o : VObj) : Prop where
  c0 : W.cell? ⟨b, 0, none⟩ = some (.int .i64 o.i)
  c1 : W.cell? ⟨b, 1, none⟩ = some (.int .i64 o.k)
  c2 : W.cell? ⟨b, 2, none⟩ = some (.int .u64 o.a)
  c3 : W.cell? ⟨b, 3, none⟩ = some (.int .u64 o.r)
  c4 : W.cell? ⟨b, 4, none⟩ = some (.int .i64 o.n)
  c5 : W.cell? ⟨b, 5, none⟩ = some (.int .u64 o.m)
  c6 : W.cell? ⟨b, 6, none⟩ = some (.bool o.cur)
  c7 : W.cell? ⟨b, 7, none⟩ = some (.bool o.ok)
  fr : ∀ j, j < 8 → W.frozen? ⟨b, j, none⟩ = false
theorem VarQ.lt {w : World} {b : Nat} {o : VObj} (h : VarQ w b o) : b < w.heap.size := World.block_lt_of_cell? w _ h.c0
theorem VarQ.below {w w1 : World} {b : Nat} {o : VObj} (h : VarQ w b o) (hb : Below w.heap.size w w1) : VarQ w1 b o :=
  ⟨cell_later hb h.c0, cell_later hb h.c1, cell_later hb h.c2, cell_later hb h.c3, cell_later hb h.c4, cell_later hb h.c5, cell_later hb h.c6, cell_later hb h.c7, fun j hj => (hb.frozen (p := ⟨b, j, none⟩) h.lt).trans (h.fr j hj)⟩
theorem VarQ.made (W : World) (o : VObj) (b : Nat) (hb : b = W.heap.size) : VarQ (W.alloc (.cells #[.int .i64 o.i, .int .i64 o.k, .int .u64 o.a, .int .u64 o.r, .int .i64 o.n, .int .u64 o.m, .bool o.cur, .bool o.ok] 124)) b o := by
  subst hb
  constructor
  case fr => intro j hj; go_simp
  all_goals (show _ = _; go_simp)
theorem VarQ.set_ne {w : World} {b : Nat} {o : VObj} (h : VarQ w b o) {p : Addr} (hne : p.block ≠ b) (u : Value) : VarQ (w.setCell p u) b o := by
  have hp : ∀ j, p ≠ (⟨b, j, none⟩ : Addr) := fun j e => hne (by rw [e])
  exact ⟨(World.cell?_setCell_other (h := hp 0) ..).trans h.c0, (World.cell?_setCell_other (h := hp 1) ..).trans h.c1, (World.cell?_setCell_other (h := hp 2) ..).trans h.c2, (World.cell?_setCell_other (h := hp 3) ..).trans h.c3,
    (World.cell?_setCell_other (h := hp 4) ..).trans h.c4, (World.cell?_setCell_other (h := hp 5) ..).trans h.c5, (World.cell?_setCell_other (h := hp 6) ..).trans h.c6, (World.cell?_setCell_other (h := hp 7) ..).trans h.c7, fun j hj => (World.frozen?_setCell _ _ _ _).trans (h.fr j hj)⟩
theorem VarQ.grown {w w1 : World} {p : Nat} {x : VObj} {r : Option Nat} (h : VarQ w p x) (hg : w.grownBy w1 r) (hne : some p ≠ r) : VarQ w1 p x :=
  ⟨hg.cell h.c0 hne, hg.cell h.c1 hne, hg.cell h.c2 hne, hg.cell h.c3 hne, hg.cell h.c4 hne, hg.cell h.c5 hne, hg.cell h.c6 hne, hg.cell h.c7 hne, fun j hj => (gfrozen hg (a := ⟨p, j, none⟩) h.lt hne).trans (h.fr j hj)⟩
theorem Keeps.varQ {w w1 : World} {b p : Nat} {r : Option Nat} {x : VObj} (k : Keeps w w1 b r) (h : VarQ w p x) (hpb : p ≠ b) (hr : r ≠ some p) : w1.cell? ⟨p, 2, none⟩ = some (.int .u64 x.a) := k.cell h.c2 hpb hr
/-- A variable made behind a world, and what came ahead is as it was. -/
structure QC (W0 w : World) (q : Nat) (o : VObj) : Prop where
  lo : W0.heap.size ≤ q
  v : VarQ w q o
  be : Below W0.heap.size W0 w
theorem QC.later {W0 w w1 : World} {q : Nat} {o : VObj} (h : QC W0 w q o) (hb : Below w.heap.size w w1) : QC W0 w1 q o := ⟨h.lo, h.v.below hb, bthen h.be hb⟩
theorem QC.al {W0 w : World} (hb : Below W0.heap.size W0 w) (o : VObj) : QC W0 (w.alloc (.cells #[.int .i64 o.i, .int .i64 o.k, .int .u64 o.a, .int .u64 o.r, .int .i64 o.n, .int .u64 o.m, .bool o.cur, .bool o.ok] 124)) w.heap.size o :=
  ⟨hb.size, VarQ.made w o _ rfl, balloc hb _⟩
def putQ (w : World) (b : Nat) (o : VObj) : World := (((((((w.setCell ⟨b, 0, none⟩ (.int .i64 o.i)).setCell ⟨b, 1, none⟩ (.int .i64 o.k)).setCell ⟨b, 2, none⟩ (.int .u64 o.a)).setCell ⟨b, 3, none⟩ (.int .u64 o.r)).setCell ⟨b, 4, none⟩ (.int .i64 o.n)).setCell ⟨b, 5, none⟩ (.int .u64 o.m)).setCell ⟨b, 6, none⟩ (.bool o.cur)).setCell ⟨b, 7, none⟩ (.bool o.ok)
theorem VarQ.put {w : World} {b : Nat} {y : VObj} (h : VarQ w b y) (o : VObj) : VarQ (putQ w b o) b o := by
  obtain ⟨h0, h1, h2, h3, h4, h5, h6, h7, hf⟩ := h
  unfold putQ
  constructor
  case fr => intro j hj; simp only [World.frozen?_setCell]; exact hf j hj
  all_goals (show _ = _; go_simp)
theorem QC.put {W0 w : World} {q : Nat} {y : VObj} (h : QC W0 w q y) (o : VObj) : QC W0 (putQ w q o) q o := by
  refine ⟨h.lo, h.v.put o, ?_⟩
  have e := h.lo
  unfold putQ
  exact (((((((h.be.setCell e _).setCell e _).setCell e _).setCell e _).setCell e _).setCell e _).setCell e _).setCell e _
theorem QC.room {W0 w : World} {q : Nat} {o : VObj} (h : QC W0 w q o) (r : Nat) : QC W0 (w.setCell ⟨q, 3, none⟩ (.int .u64 r)) q { o with r := r } := by
  obtain ⟨h0, h1, h2, h3, h4, h5, h6, h7, hf⟩ := h.v
  refine ⟨h.lo, ?_, h.be.setCell (p := ⟨q, 3, none⟩) h.lo _⟩
  constructor
  case fr => intro j hj; simp only [World.frozen?_setCell]; exact hf j hj
  all_goals (show _ = _; go_simp)
theorem QC.good {W0 w : World} {q : Nat} {o : VObj} (h : QC W0 w q o) (n m : Int) (g : Bool) : QC W0 (((w.setCell ⟨q, 4, none⟩ (.int .i64 n)).setCell ⟨q, 5, none⟩ (.int .u64 m)).setCell ⟨q, 7, none⟩ (.bool g)) q { o with n := n, m := m, ok := g } := by
  obtain ⟨h0, h1, h2, h3, h4, h5, h6, h7, hf⟩ := h.v
  refine ⟨h.lo, ?_, ((h.be.setCell (p := ⟨q, 4, none⟩) h.lo _).setCell (p := ⟨q, 5, none⟩) h.lo _).setCell (p := ⟨q, 7, none⟩) h.lo _⟩
  constructor
  case fr => intro j hj; simp only [World.frozen?_setCell]; exact hf j hj
  all_goals (show _ = _; go_simp)
theorem QC.cur {W0 w : World} {q : Nat} {o : VObj} (h : QC W0 w q o) (c : Bool) : QC W0 (w.setCell ⟨q, 6, none⟩ (.bool c)) q { o with cur := c } := by
  obtain ⟨h0, h1, h2, h3, h4, h5, h6, h7, hf⟩ := h.v
  refine ⟨h.lo, ?_, h.be.setCell (p := ⟨q, 6, none⟩) h.lo _⟩
  constructor
  case fr => intro j hj; simp only [World.frozen?_setCell]; exact hf j hj
  all_goals (show _ = _; go_simp)
/-! ### An object more -/
theorem step_appQ1 {ops : Array Oper} {o : Oper} {act : Act} {w : World} {K : Act → World → Prop} {Q : Exit → Act → World → Prop} {E : Prop}
    (hg : o.guard = none) (s x : Operand) (hop : o.op = Op.call { callee := Callee.builtin Builtin.append, args := #[s, x], argTypes := #[57, 57] })
    (base : Nat) (v : Value) (l0 : List VObj) (a : VObj) (B : Nat) (hs : act.eval s = v) (hx : act.eval x = .slice (some ⟨B, 0, none⟩) 1 1)
    (hown : OwQ w base v l0) (hr : ∀ j u, a.cs[j]? = some u → w.cell? ⟨B, j, none⟩ = some u) (hlen : l0.length ≤ 100000) (hbase : base ≤ w.heap.size)
    (h : ∀ g cap w', OwQ w' base (.slice (some ⟨g, 0, none⟩) (l0.length + 1) cap) (l0 ++ [a]) → w.grownBy w' v.ownBlock → (v.ownBlock = some g ∨ g = w.heap.size) → K (act.put o.dst (.slice (some ⟨g, 0, none⟩) (l0.length + 1) cap)) w') :
    if Region.wanted o (yielded ops act.tmps) = true then Oper.wp Tryz.prog o act w K Q else E := by
  obtain ⟨i, hi, hz0, hz1, hz2⟩ := info_parts infoQ
  refine step_append_lies (P := Tryz.prog) w hg s x 57 hop base 124 i _ 8 56 Tryz.underlying57 hi hz0 hz1 hz2 rfl (by omega) v l0.length (flQ l0) hs hown ⟨B, 0, none⟩ 1 1 (flQ [a]) hx rfl (fun j u hu => ?_) (flQ_one _) (by omega) (by simp only [maxLen]; omega) (by omega) hbase _ rfl
    (fun g cap w' h1 h2 h3 _ => h g cap w' (by unfold OwQ; rw [List.length_append, flQ_append]; exact h1) h2 h3)
  have hu2 : a.cs[j]? = some u := by simpa [flQ] using hu
  rw [addOff, Nat.zero_add, hr j u hu2]
theorem objq_cells (W : World) (o : VObj) : ∀ j u, o.cs[j]? = some u → (W.alloc (.cells #[.int .i64 o.i, .int .i64 o.k, .int .u64 o.a, .int .u64 o.r, .int .i64 o.n, .int .u64 o.m, .bool o.cur, .bool o.ok] 124)).cell? ⟨W.heap.size, j, none⟩ = some u := by
  intro j u hu
  have hj : j < 8 := (List.getElem?_eq_some_iff.1 hu).1
  have hc : j = 0 ∨ j = 1 ∨ j = 2 ∨ j = 3 ∨ j = 4 ∨ j = 5 ∨ j = 6 ∨ j = 7 := by omega
  rcases hc with rfl | rfl | rfl | rfl | rfl | rfl | rfl | rfl <;> (simp [VObj.cs] at hu; subst hu; go_simp)
theorem Sgt.appQ {w0 w w1 : World} {b fc oc g cap : Nat} {v : HeapV} {fs : List Flt} {FA OA : Option Addr} {os : List VObj} {o : VObj} (s : Sgt w0 w b v fs FA fc os OA oc) (hg : w.grownBy w1 (Value.slice OA os.length oc).ownBlock)
    (ho : OwQ w1 (b + 1) (.slice (some ⟨g, 0, none⟩) (os.length + 1) cap) (os ++ [o])) : Sgt w0 (w1.setCell ⟨b, 5, none⟩ (.slice (some ⟨g, 0, none⟩) (os.length + 1) cap)) b v fs FA fc (os ++ [o]) (some ⟨g, 0, none⟩) cap := by
  have hlo : ∀ r, (Value.slice OA os.length oc).ownBlock = some r → b + 1 ≤ r := fun r hr => (World.ownsRow.lt s.oo r hr).1
  have hne : some b ≠ (Value.slice OA os.length oc).ownBlock := by
    intro e
    have := hlo b e.symm
    omega
  have hlt := s.lt
  have n5 : ∀ i : Nat, i ≠ 5 → (⟨b, 5, none⟩ : Addr) ≠ ⟨b, i, none⟩ := fun i h e => h (congrArg Addr.off e).symm
  obtain ⟨c0, c1, c2, c3, c4, c5⟩ := s.st
  refine ⟨⟨?_, ?_, ?_, ?_, ?_, ?_⟩, ?_, ?_, ?_, ?_, ?_, s.hb⟩
  · exact (World.cell?_setCell_other (h := n5 0 (by omega)) ..).trans (hg.cell c0 hne)
  · exact (World.cell?_setCell_other (h := n5 1 (by omega)) ..).trans (hg.cell c1 hne)
  · exact (World.cell?_setCell_other (h := n5 2 (by omega)) ..).trans (hg.cell c2 hne)
  · exact (World.cell?_setCell_other (h := n5 3 (by omega)) ..).trans (hg.cell c3 hne)
  · exact (World.cell?_setCell_other (h := n5 4 (by omega)) ..).trans (hg.cell c4 hne)
  · rw [List.length_append]
    exact World.cell?_setCell_same _ _ _ (hg.cell c5 hne)
  · refine OwF.set_lo ?_ (by simp) _
    exact own_grown s.fo hg (fun k hk => own_tag s.fo s.oo (by decide) hk)
  · rw [List.length_append]
    exact ho.set_lo (by simp) _
  · intro j
    rw [World.frozen?_setCell]
    exact (gfrozen hg (a := ⟨b, j, none⟩) hlt hne).trans (s.fr j)
  · exact (s.lo.grown hg s.lo.size (fun r hr => by have := hlo r hr; have := s.hb; omega)).setCell (p := ⟨b, 5, none⟩) s.hb _
  · have := hg.size
    simp
    omega
/-! ### collect's state -/
structure ColS (w0 w wx : World) (b : Nat) (v : HeapV) (fs : List Flt) (FA : Option Addr) (fc : Nat) (os : List VObj) (OA : Option Addr) (oc p : Nat) (V : SpanV) : Prop where
  s : Sgt w0 wx b v fs FA fc os OA oc
  vp : VarS wx p V
  be : Below b w wx
  bp : b < p
  gf : (Value.slice FA fs.length fc).ownBlock ≠ some p
  go : (Value.slice OA os.length oc).ownBlock ≠ some p
theorem ColS.later {w0 w wx w1 : World} {b fc oc p : Nat} {v : HeapV} {fs : List Flt} {FA OA : Option Addr} {os : List VObj} {V : SpanV} (h : ColS w0 w wx b v fs FA fc os OA oc p V) (hb : Below wx.heap.size wx w1) : ColS w0 w w1 b v fs FA fc os OA oc p V :=
  ⟨h.s.later hb, h.vp.below hb, h.be.trans (hb.mono (Nat.le_of_lt h.s.lt)), h.bp, h.gf, h.go⟩
theorem ColS.app {w0 w wx w1 : World} {b fc oc p q g cap : Nat} {v : HeapV} {fs : List Flt} {FA OA : Option Addr} {os : List VObj} {V : SpanV} {o : VObj} (h : ColS w0 w wx b v fs FA fc os OA oc p V) (hq : VarQ wx q o) (hqb : q ≠ b) (hqo : (Value.slice OA os.length oc).ownBlock ≠ some q)
    (hg : wx.grownBy w1 (Value.slice OA os.length oc).ownBlock) (ho : OwQ w1 (b + 1) (.slice (some ⟨g, 0, none⟩) (os.length + 1) cap) (os ++ [o])) (hat : (Value.slice OA os.length oc).ownBlock = some g ∨ g = wx.heap.size) :
    ColS w0 w (w1.setCell ⟨b, 5, none⟩ (.slice (some ⟨g, 0, none⟩) (os.length + 1) cap)) b v fs FA fc (os ++ [o]) (some ⟨g, 0, none⟩) cap p V ∧ VarQ (w1.setCell ⟨b, 5, none⟩ (.slice (some ⟨g, 0, none⟩) (os.length + 1) cap)) q o := by
  have hlo : ∀ r, (Value.slice OA os.length oc).ownBlock = some r → b + 1 ≤ r := fun r hr => (World.ownsRow.lt h.s.oo r hr).1
  have hp := h.bp
  refine ⟨⟨h.s.appQ hg ho, (h.vp.grown hg (fun e => h.go e.symm)).set_ne (p := ⟨b, 5, none⟩) (by simp; omega) _, ?_, h.bp, h.gf, ?_⟩, (hq.grown hg (fun e => hqo e.symm)).set_ne (p := ⟨b, 5, none⟩) (by simp; omega) _⟩
  · exact (h.be.grown hg (Nat.le_of_lt h.s.lt) (fun r hr => by have := hlo r hr; omega)).setCell (p := ⟨b, 5, none⟩) (Nat.le_refl _) _
  · intro e
    have e2 : g = p := Option.some.inj e
    subst e2
    rcases hat with e | e
    · exact h.go e
    · have := h.vp.lt
      omega
theorem ColS.told {w0 w wx w1 : World} {b fc oc p g cap : Nat} {v : HeapV} {fs fs1 : List Flt} {FA OA : Option Addr} {os : List VObj} {V : SpanV} (h : ColS w0 w wx b v fs FA fc os OA oc p V) (s : Sgt w0 w1 b v fs1 (some ⟨g, 0, none⟩) cap os OA oc)
    (hg : (Value.slice FA fs.length fc).ownBlock = some g ∨ wx.heap.size ≤ g) (k : Keeps wx w1 b (Value.slice FA fs.length fc).ownBlock) : ColS w0 w w1 b v fs1 (some ⟨g, 0, none⟩) cap os OA oc p V := by
  have hp := h.bp
  refine ⟨s, k.var h.vp (by omega) h.gf, h.be.trans k.be, h.bp, fun e => ?_, h.go⟩
  have e2 : g = p := Option.some.inj e
  subst e2
  rcases hg with e | e
  · exact h.gf e
  · have := h.vp.lt
    omega
/-! ### What is collected -/
def Cand.vobj (ar : List Int) (c : Cand) : VObj := ⟨c.i, c.k, c.a, c.room, unpN (wd ar c.a), unpM (wd ar c.a), c.cur, c.good ar⟩
def vobjs (h : HeapB) : List VObj := (cands h.sp).map (Cand.vobj h.ar)
def headTo (ar : List Int) (cs : List Cand) : List Flt := (cs.filter (fun c => !c.good ar)).map (fun c => ⟨4, c.a⟩)
def headF (h : HeapB) : List Flt := headTo h.ar (cands h.sp)
theorem headTo_len (ar : List Int) (cs : List Cand) : (headTo ar cs).length ≤ cs.length := by
  unfold headTo
  rw [List.length_map]
  exact List.length_filter_le _ _
theorem headTo_app (ar : List Int) (cs ds : List Cand) : headTo ar (cs ++ ds) = headTo ar cs ++ headTo ar ds := by simp [headTo]
def GeoP (h : HeapB) : Prop := h.ar.length ≤ 16384 ∧ okB h.us = true ∧ okL h.sp = true ∧ 1 ≤ h.us.n ∧ (h.ar.length : Int) = h.us.n * 16 ∧ ∀ s ∈ h.sp, 1 ≤ s.first ∧ s.first + s.pages ≤ h.us.n
def CollP (w0 w : World) (b : Nat) (v : HeapV) (h : HeapB) (fs : List Flt) (e : Ending) (w' : World) : Prop :=
  e = .returned (.tuple #[]) ∧ (∃ FA fc OA oc, Sgt w0 w' b v (fs ++ headF h) FA fc (vobjs h) OA oc) ∧ Below b w w'
end Go.Proofs.YtieijfefnedifaaGreatDoor
