/- The walk of bits.Put. -/
import Derived.Test.YtchbbldanmmpjaaDoorSQ
namespace Go.Proofs.YtchbbldanmmpjaaDoor
open Go.RowKit
set_option linter.unusedVariables false
set_option linter.unusedSimpArgs false

def putIn (b : BitB) (i : Int) : Prop := 0 ≤ i ∧ i < b.n
instance (b : BitB) (i : Int) : Decidable (putIn b i) := by unfold putIn; infer_instance
def setW (l : List Int) (i : Nat) (t : Bool) : List Int := match l[i / 64]? with | some x => l.set (i / 64) (putW x (i % 64) t) | none => l
def putB (b : BitB) (i : Int) (t : Bool) : BitB := if okB b = true then (if putIn b i then ⟨b.n, setW b.w i.toNat t⟩ else b) else ⟨0, []⟩
def putE (b : BitB) (i : Int) : Int := if okB b = true then (if putIn b i then 0 else 1) else 2
theorem setW_len (l : List Int) (i : Nat) (t : Bool) : (setW l i t).length = l.length := by
  unfold setW
  split <;> simp
theorem gcellB {W w1 : World} {B g : Nat} (hg : W.grownBy w1 (some g)) (hB : B ≤ W.heap.size) (h : B ≤ g) : (∀ b o, b < B → w1.cell? ⟨b, o, none⟩ = W.cell? ⟨b, o, none⟩) ∧ (∀ b o, b < B → w1.frozen? ⟨b, o, none⟩ = W.frozen? ⟨b, o, none⟩) ∧ B ≤ w1.heap.size := by
  refine ⟨fun b o hb => ?_, fun b o hb => gfrozen hg (show b < _ by omega) (by simp; omega), by have := hg.size; omega⟩
  exact World.cell?_of_block (hg.block b (by omega) (by simp; omega))

set_option maxRecDepth 100000 in
set_option maxHeartbeats 8000000 in
theorem put44 (v : BitV) (b : BitB) (i : Int) (t : Bool) (w : World) (h : RdB w v b) : Calls Tryd.prog 44 #[v.v, .int .i64 i, .bool t] w (RetBE (putB b i t) (putE b i) w) := by
  have CC : Hid (∀ W, Below w.heap.size w W → Calls Tryd.prog 62 #[v.v] W (Ret (.int .i64 (okE b)) W)) := fun W hW => check62 v b W (h.below hW)
  have CO : Hid (okB b = true → ∀ W, Below w.heap.size w W → Calls Tryd.prog 37 #[v.v] W (RetB b W)) := fun hk W hW => own37 v b W (h.below hW) (by have := okB_parts hk; omega)
  have hbn := h.n
  obtain ⟨n, A, m, ca⟩ := v
  simp only at hbn
  subst hbn
  unfold BitV.v at CC CO ⊢
  simp only at CC CO ⊢
  clear h
  have HB0 : Hid (Below w.heap.size w ((w.alloc (.cells #[.int .i64 b.n, .slice A m ca] 24)).alloc (.cells #[.int .i64 0, .slice none 0 0] 24))) := balloc (balloc (Below.refl _ _) _) _
  by_cases hok : okB b = true
  · have CO := Lib.hid (CO.out hok)
    rw [okE_0 hok] at CC
    have hparts := okB_parts hok
    by_cases hin : putIn b i
    · have E2 : Hid (putE b i = 0) := by show _ = _; unfold putE; rw [if_pos hok, if_pos hin]
      have hin' := hin
      obtain ⟨q0, q1⟩ := hin'
      obtain ⟨k, rfl⟩ := Int.eq_ofNat_of_zero_le q0
      have E1 : Hid (putB b k t = ⟨b.n, setW b.w k t⟩) := by show _ = _; unfold putB; rw [if_pos hok, if_pos hin]; rfl
      have hkl : k / 64 < b.w.length := by omega
      have hx : b.w[k / 64]? = some b.w[k / 64] := List.getElem?_eq_getElem hkl
      generalize b.w[k / 64] = x at hx
      have ES : Hid (setW b.w k t = b.w.set (k / 64) (putW x (k % 64) t)) := by show _ = _; unfold setW; rw [hx]
      have HX := Lib.hid hx
      have HK : Hid (k ≤ 1000000) := by show _ ≤ _; omega
      have HL0 : Hid (0 < b.w.length) := by show 0 < _; omega
      have q2 : ¬ (k : Int) < 0 := by omega
      have q3 : ¬ b.n ≤ (k : Int) := by omega
      clear hin hok hx hparts hkl
      go_enter Tryd.func44, Tryd.ntmps44
      go_wp2_with (go_at_call 62; refine (CC.out _ HB0.out).mono ?_)
      rintro e w1 ⟨rfl, hb1⟩
      obtain ⟨hc1, hf1, hs1⟩ := bcellB (B := w.heap.size + 2) hb1 (by simp)
      have HB1 := Lib.hid (bthen HB0.out hb1)
      clear hb1 CC
      go_wp2_with (go_at_call 37; refine (CO.out _ HB1.out).mono ?_)
      rintro e w2 ⟨⟨n2, A2, m2, c2⟩, rfl, hn2, hm2, hcap2, ho2, hb2⟩
      simp only at hn2 hm2 hcap2 ho2
      obtain ⟨hc2, hf2, hs2⟩ := bcellB hb2 hs1
      have HB2 := Lib.hid (bthen HB1.out hb2)
      subst hn2
      have HM2 := Lib.hid hm2
      have HC2 := Lib.hid hcap2
      obtain ⟨g, eg⟩ := own_form ho2 HL0.out
      subst eg
      have hg1 := (ho2.lt g rfl)
      have HO2 : Hid (OwU w2 (w.heap.size + 2) (.slice (some ⟨g, 0, none⟩) m2 c2) b.w) := ho2.mono hs1
      have HG : Hid (w.heap.size + 2 ≤ g ∧ g < w2.heap.size) := ⟨Nat.le_trans hs1 hg1.1, hg1.2⟩
      have z0 : w.heap.size < w2.heap.size := by omega
      have z1 : w.heap.size + 1 < w2.heap.size := by omega
      clear hb2 hm2 hcap2 ho2 hg1 CO
      unfold BitV.v
      simp only
      have HO3 := Lib.hid (HO2.out.al (.cells #[.int .i64 b.n, .slice (some ⟨g, 0, none⟩) m2 c2] 88))
      have HB3 := Lib.hid (balloc HB2.out (.cells #[.int .i64 b.n, .slice (some ⟨g, 0, none⟩) m2 c2] 88))
      have K0 : Hid ((w2.alloc (.cells #[.int .i64 b.n, .slice (some ⟨g, 0, none⟩) m2 c2] 88)).cell? ⟨w2.heap.size, 0, none⟩ = some (.int .i64 b.n)) := by show _ = _; go_simp
      have K1 : Hid ((w2.alloc (.cells #[.int .i64 b.n, .slice (some ⟨g, 0, none⟩) m2 c2] 88)).cell? ⟨w2.heap.size, 1, none⟩ = some (.slice (some ⟨g, 0, none⟩) m2 c2)) := by show _ = _; go_simp
      have HS3 : Hid (w.heap.size + 2 ≤ (w2.alloc (.cells #[.int .i64 b.n, .slice (some ⟨g, 0, none⟩) m2 c2] 88)).heap.size) := by show _ ≤ _; simp; omega
      go_wp2_with (go_at_call 68; refine (put68 w2.heap.size (w.heap.size + 2) g m2 c2 k b.w x t _ K1.out HO3.out HM2.out.symm HX.out HK.out).mono ?_)
      rintro e w4 ⟨rfl, ho4, hg4⟩
      obtain ⟨hc4, hf4, hs4⟩ := gcellB hg4 HS3.out HG.out.1
      have k0 := gcell hg4 K0.out (by have := HG.out.2; simp; omega)
      have k1 := gcell hg4 K1.out (by have := HG.out.2; simp; omega)
      have HB4 := Lib.hid (bgrown HB3.out hg4 (fun k' hk' => by cases hk'; have := HG.out.1; omega))
      have HO4 := Lib.hid ho4
      clear ho4 hg4 K0 K1
      go_wp2
      refine bodyPost_ret (v := .tuple #[.agg #[.int .i64 b.n, .slice (some ⟨g, 0, none⟩) m2 c2], .int .i64 0]) (by simp [results, Tryd.results44, go_sem, hc4, hc2, hc1, z0, z1]) rfl ?_
      rw [E1.out, E2.out]
      rw [ES.out]
      refine ⟨⟨b.n, some ⟨g, 0, none⟩, m2, c2⟩, rfl, rfl, ?_, HC2.out, ?_, ?_⟩
      · show m2 = (List.set _ _ _).length
        rw [List.length_set]
        exact HM2.out
      · refine OwU.mono (base := w.heap.size + 2) ?_ (by omega)
        repeat (refine OwU.set_lo ?_ (by simp) _)
        exact HO4.out
      · repeat (refine Below.setCell ?_ (by first | (simp; done) | (simp; omega)) _)
        exact HB4.out
    · have E2 : Hid (putE b i = 1) := by show _ = _; unfold putE; rw [if_pos hok, if_neg hin]
      have E1 : Hid (putB b i t = b) := by show _ = _; unfold putB; rw [if_pos hok, if_neg hin]
      have hi' : i < 0 ∨ (¬ i < 0 ∧ b.n ≤ i) := by unfold putIn at hin; omega
      clear hin hok
      rcases hi' with h | ⟨h0, h⟩
      all_goals
        go_enter Tryd.func44, Tryd.ntmps44
        go_wp2_with (go_at_call 62; refine (CC.out _ HB0.out).mono ?_)
        rintro e w1 ⟨rfl, hb1⟩
        obtain ⟨hc1, hf1, hs1⟩ := bcellB (B := w.heap.size + 2) hb1 (by simp)
        have HB1 := Lib.hid (bthen HB0.out hb1)
        clear hb1 CC
        go_wp2_with (go_at_call 37; refine (CO.out _ HB1.out).mono ?_)
        rintro e w2 ⟨⟨n2, A2, m2, c2⟩, rfl, hn2, hm2, hcap2, ho2, hb2⟩
        simp only at hn2 hm2 hcap2 ho2
        obtain ⟨hc2, hf2, hs2⟩ := bcellB hb2 hs1
        have HB2 := Lib.hid (bthen HB1.out hb2)
        subst hn2
        have HM2 := Lib.hid hm2
        have HC2 := Lib.hid hcap2
        have HO2 : Hid (OwU w2 (w.heap.size + 2) (.slice A2 m2 c2) b.w) := ho2.mono hs1
        have z0 : w.heap.size < w2.heap.size := by omega
        have z1 : w.heap.size + 1 < w2.heap.size := by omega
        have HB3 := Lib.hid (balloc HB2.out (.cells #[.int .i64 b.n, .slice A2 m2 c2] 88))
        have HO3 := Lib.hid (HO2.out.al (.cells #[.int .i64 b.n, .slice A2 m2 c2] 88))
        clear hb2 hm2 hcap2 ho2 CO
        unfold BitV.v
        simp only
        go_wp2
        refine bodyPost_ret (v := .tuple #[.agg #[.int .i64 b.n, .slice A2 m2 c2], .int .i64 1]) (by simp [results, Tryd.results44, go_sem, hc2, hc1, z0, z1]) rfl ?_
        rw [E1.out, E2.out]
        refine ⟨⟨b.n, A2, m2, c2⟩, rfl, rfl, HM2.out, HC2.out, ?_, ?_⟩
        · refine OwU.mono (base := w.heap.size + 2) ?_ (by omega)
          refine OwU.al ?_ _
          repeat (refine OwU.set_lo ?_ (by simp) _)
          exact HO2.out
        · refine balloc ?_ _
          repeat (refine Below.setCell ?_ (by first | (simp; done) | (simp; omega)) _)
          exact HB2.out
  · have hok' : okB b = false := by simpa using hok
    have E2 : Hid (putE b i = 2) := by show _ = _; unfold putE; rw [if_neg hok]
    have E1 : Hid (putB b i t = ⟨0, []⟩) := by show _ = _; unfold putB; rw [if_neg hok]
    rw [okE_2 hok'] at CC
    clear hok hok' CO
    go_enter Tryd.func44, Tryd.ntmps44
    go_wp2_with (go_at_call 62; refine (CC.out _ HB0.out).mono ?_)
    rintro e w1 ⟨rfl, hb1⟩
    obtain ⟨hc1, hf1, hs1⟩ := bcellB (B := w.heap.size + 2) hb1 (by simp)
    have HB1 := Lib.hid (bthen HB0.out hb1)
    clear hb1 CC
    go_wp2
    refine bodyPost_ret (v := .tuple #[.agg #[.int .i64 0, .slice none 0 0], .int .i64 2]) (by simp [results, Tryd.results44, go_sem, hc1]) rfl ?_
    rw [E1.out, E2.out]
    refine ⟨⟨0, none, 0, 0⟩, rfl, rfl, rfl, Nat.le_refl _, OwU.nil_ _ _, ?_⟩
    repeat (refine Below.setCell ?_ (by first | (simp; done) | (simp; omega)) _)
    exact HB1.out
end Go.Proofs.YtchbbldanmmpjaaDoor
