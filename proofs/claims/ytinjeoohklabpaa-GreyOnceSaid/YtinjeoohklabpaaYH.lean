/- The walk of grey's Pop. -/
import Derived.Test.YtinjeoohklabpaaYG
namespace Go.Proofs.Ytinjeoohklabpaa
open Go.RowKit
set_option linter.unusedVariables false
set_option linter.unusedSimpArgs false

set_option maxRecDepth 100000 in
set_option maxHeartbeats 16000000 in
theorem popG (A : Option Addr) (c : Nat) (vs : List QV) (l : List (List Int)) (k : Int) (w : World) (ha : RdQ w A vs l) (hw : WdQ l) :
    Calls Try.prog 12 #[.agg #[.slice A l.length c], .int .i64 k] w (RetPop (popP l k) w) := by
  have hl := ha.len
  have HB0 := Lib.hid (balloc (balloc (Below.refl w.heap.size w) (.cells #[.slice A l.length c] 24)) (.cells #[.slice none 0 0] 24))
  have F0 : Hid (((w.alloc (.cells #[.slice A l.length c] 24)).alloc (.cells #[.slice none 0 0] 24)).cell? ⟨w.heap.size, 0, none⟩ = some (.slice A l.length c)) := by show _ = _; go_simp
  have F1 : Hid (((w.alloc (.cells #[.slice A l.length c] 24)).alloc (.cells #[.slice none 0 0] 24)).cell? ⟨w.heap.size + 1, 0, none⟩ = some (.slice none 0 0)) := by show _ = _; go_simp
  have Z1 : Hid (((w.alloc (.cells #[.slice A l.length c] 24)).alloc (.cells #[.slice none 0 0] 24)).frozen? ⟨w.heap.size + 1, 0, none⟩ = false) := by show _ = _; go_simp
  have HS0 : Hid (((w.alloc (.cells #[.slice A l.length c] 24)).alloc (.cells #[.slice none 0 0] 24)).heap.size = w.heap.size + 2) := by show _ = _; simp
  have CC : Hid (∀ W, Below w.heap.size w W → Calls Try.prog 20 #[.agg #[.slice A l.length c]] W (Ret (.int .i64 (chkE l)) W)) := fun W hW => checkG A c vs l W (ha.below hW) hw
  by_cases hok : okQ l
  · have CP : Hid (∀ W, Below w.heap.size w W → Calls Try.prog 23 #[.agg #[.slice A l.length c]] W (RetG l W)) := fun W hW => ownG A c vs l W (ha.below hW) (small_of hok.1)
    have HOK := Lib.hid hok
    have E2 := Lib.hid (chkE_ok hok)
    rw [E2.out] at CC
    clear hok ha hw
    go_enter Try.func12, Try.ntmps12
    go_wp2_with (go_at_call 20; refine (CC.out _ HB0.out).mono ?_)
    rintro e w1 ⟨rfl, hb1⟩
    have f1 := cell_later hb1 F0.out
    have r1 := cell_later hb1 F1.out
    have z1 := (hb1.frozen (p := ⟨w.heap.size + 1, 0, none⟩) (by rw [HS0.out]; show _ < _; simp)).trans Z1.out
    have hs1 : w.heap.size + 2 ≤ w1.heap.size := by have := hb1.size; rw [HS0.out] at this; exact this
    have HB1 := Lib.hid (bthen HB0.out hb1)
    clear hb1 F0 F1 Z1 HS0 CC HB0
    go_wp2_with (go_at_call 23; refine (CP.out _ HB1.out).mono ?_)
    rintro e w2 ⟨v2, rfl, ⟨vs2, hq2⟩, hb2⟩
    obtain ⟨A2, c2, rfl, _, _⟩ := hq2.shape
    have hb3 : Below w1.heap.size w1 (w2.alloc (.cells #[.slice A2 l.length c2] 48)) := balloc hb2 _
    have hq3 := ((hq2.below (balloc (Below.refl _ _) (.cells #[.slice A2 l.length c2] 48))).mono hs1)
    have hs2 := hb2.size
    have HST : Hid (StP w (w2.alloc (.cells #[.slice A2 l.length c2] 48)) 48 w2.heap.size A l.length c A2 c2 vs2 l) :=
      ⟨hq3, rfl, HOK.out.1.2.2, heap_alloc_new w2 _, bthen HB1.out hb3, by have := hb3.size; omega, cell_later hb3 f1, cell_later hb3 r1, (hb3.frozen (p := ⟨w.heap.size + 1, 0, none⟩) (World.block_lt_of_cell? _ _ r1)).trans z1⟩
    have kb := HST.out.box.var
    unfold VarG at kb
    have k1 := HST.out.src
    have k2 := HST.out.res
    have k3 := HST.out.rfr
    have HNBR : Hid (w.heap.size + 1 ≠ w2.heap.size) := by show _ ≠ _; omega
    clear hb2 hq2 hq3 hb3 hs1 hs2 f1 r1 z1
    go_upto_region 5 with fail
    generalize (w2.alloc (.cells #[.slice A2 l.length c2] 48)) = w3 at *
    generalize w2.heap.size = b at *
    have hlt2 := World.block_lt_of_cell? _ _ k1
    have hlt3 := World.block_lt_of_cell? _ _ k2
    have hlt4 := World.block_lt_of_cell? _ _ kb
    have HGE : Hid (∀ b o, A2 = some ⟨b, o, none⟩ → 0 < vs2.length → w.heap.size + 2 ≤ b) := fun b o e hn => by
      obtain ⟨g, e'⟩ := own_form HST.out.own.row hn
      have h := (HST.out.own.row.lt g (by rw [e']; rfl)).1
      rw [e] at e'
      injection e' with e'
      injection e' with e1 _
      omega
    have e5 := World.cell?_setCell_same _ _ (.slice A2 l.length c2) k2
    by_cases hkr : 0 ≤ k ∧ k < (l.length : Int)
    · obtain ⟨k, rfl⟩ := Int.eq_ofNat_of_zero_le hkr.1
      have hkl : k < l.length := by omega
      have hk1 : (k : Int) < (l.length : Int) := by omega
      have hk0 : ¬ (k : Int) < 0 := by omega
      have HEQ0 : Hid (popP l k = popIn l k) := by show _ = _; unfold popP; rw [if_pos HOK.out, if_pos hkr]; rfl
      clear hkr
      have hs : l[k]? = some l[k] := List.getElem?_eq_getElem hkl
      generalize l[k] = s at hs
      have hv : vs2[k]? = some (vs2[k]'(by rw [HST.out.own.len]; exact hkl)) := List.getElem?_eq_getElem _
      generalize (vs2[k]'_) = v at hv
      obtain ⟨G, eG⟩ := own_form HST.out.own.row (by rw [HST.out.own.len]; omega)
      subst eG
      have hE := HST.out.own.each k v s hv hs
      obtain ⟨d1, d2⟩ := own_cell (u := .slice v.A v.n v.c) (k := k) (HST.out.own.len ▸ HST.out.own.row : w3.ownsRow _ _ 1 (.slice (some ⟨G, 0, none⟩) vs2.length c2) vs2.length (sl vs2)) (by rw [sl_get _ _ _ hv])
      have hGl := World.block_lt_of_cell? _ _ d1
      have hGb : b ≠ G := fun e => HST.out.box.far HST.out.own.row (by decide) (by rw [e]; rfl)
      obtain ⟨v1, v2, v3⟩ := v
      have hvn := hE.n
      simp only at hvn d1
      subst hvn
      have HV := Lib.hid hv
      have HS := Lib.hid hs
      have HE := Lib.hid hE
      have hsl : s.length ≤ 16384 := by
        have h1 := manyN_succ hs
        have h2 := manyN_take l (k + 1)
        have := HST.out.many
        omega
      clear hv hs hE
      by_cases h0 : s.length = 0
      · have EP0 : Hid (popP l k = popOther l (bestTo l l.length)) := HEQ0.out.trans (by unfold popIn; rw [HS.out]; simp [h0])
        have CL := Lib.hid (longestC (some ⟨G, 0, none⟩) b c2 vs2 l w3 HST.out.rd HST.out.box.var)
        have hbl := bestTo_lt l l.length
        have hbi : bestTo l l.length < l.length := by
          have h1 : ∀ k, k ≤ l.length → 0 < l.length → bestTo l k < l.length := by
            intro k
            induction k with
            | zero => intro _ h; exact h
            | succ k ih => intro h h'; simp only [bestTo]; split
                           · omega
                           · exact ih (by omega) h'
          exact h1 l.length (Nat.le_refl _) (by omega)
        generalize bestTo l l.length = bi at *
        have hi0 : ¬ (0 : Int) < (s.length : Int) := by omega
        clear hbl e5
        go_wp2_with (go_at_call 26; refine CL.out.mono ?_)
        rintro e w4 ⟨rfl, hb4⟩
        have HST4 := Lib.hid (HST.out.later hb4)
        clear hb4 kb k1 k2 k3 hlt2 hlt3 hlt4 d1 d2 hGl CL
        have ht : l[bi]? = some l[bi] := List.getElem?_eq_getElem hbi
        generalize l[bi] = t at ht
        have hu : vs2[bi]? = some (vs2[bi]'(by rw [HST4.out.own.len]; exact hbi)) := List.getElem?_eq_getElem _
        generalize (vs2[bi]'_) = u at hu
        have hE2 := HST4.out.own.each bi u t hu ht
        obtain ⟨d1, d2⟩ := own_cell (u := .slice u.A u.n u.c) (k := bi) (HST4.out.own.len ▸ HST4.out.own.row : w4.ownsRow _ _ 1 (.slice (some ⟨G, 0, none⟩) vs2.length c2) vs2.length (sl vs2)) (by rw [sl_get _ _ _ hu])
        have hGl := World.block_lt_of_cell? _ _ d1
        obtain ⟨u1, u2, u3⟩ := u
        have hun := hE2.n
        simp only at hun d1
        subst hun
        have HV2 := Lib.hid hu
        have HS2 := Lib.hid ht
        have HE2 := Lib.hid hE2
        have htl : t.length ≤ 16384 := by
          have h1 := manyN_succ ht
          have h2 := manyN_take l (bi + 1)
          have := HST4.out.many
          omega
        have kb4 := HST4.out.box.var
        unfold VarG at kb4
        have k24 := HST4.out.res
        have k34 := HST4.out.rfr
        have hlt5 := World.block_lt_of_cell? _ _ kb4
        have hlt6 := World.block_lt_of_cell? _ _ k24
        have hbi1 : (bi : Int) < (l.length : Int) := by omega
        clear hu ht hE2
        cases t with
        | nil =>
          have EP : Hid (popP l k = ⟨l, 0, false, 3⟩) := EP0.out.trans (by unfold popOther; rw [HS2.out])
          have e5 := World.cell?_setCell_same _ _ (.slice (some ⟨G, 0, none⟩) l.length c2) k24
          simp only [List.length_nil] at d1 htl
          go_wp2
          refine bodyPost_ret (v := .tuple #[.agg #[.slice (some ⟨G, 0, none⟩) l.length c2], .int .u64 0, .bool false, .int .i64 3]) (by simp [results, Try.results12, go_sem, e5]) rfl ?_
          rw [EP.out]
          exact ⟨some ⟨G, 0, none⟩, c2, vs2, rfl, ((HST4.out.own.frq).set_lo (by simp) (fun b o e hn => HGE.out b o e hn) _).mono (by omega), HST4.out.below.setCell (by simp) _⟩
        | cons x r =>
          have EP : Hid (popP l k = ⟨l.set bi r, x, true, 0⟩) := EP0.out.trans (by unfold popOther; rw [HS2.out])
          obtain ⟨g, eg⟩ := own_form HE2.out.row (by simp)
          simp only at eg
          subst eg
          have hEr : OwU w4 (w.heap.size + 2) (.slice (some ⟨g, 0, none⟩) (x :: r).length u3) (x :: r) := HE2.out.row
          obtain ⟨c1, c2'⟩ := own_cell hEr (us_get (x :: r) 0 x rfl)
          have hgl := World.block_lt_of_cell? _ _ c1
          have hgG : G ≠ g := fun e => own_tag HST4.out.own.row hEr (by decide) (k := G) rfl (by rw [e]; rfl)
          have hcap : (x :: r).length ≤ u3 := by obtain ⟨A', c', e, h, _⟩ := hEr.shape; injection e with _ _ e3; omega
          have hcap2 : u3 ≤ 9223372036854775807 := by obtain ⟨A', c', e, _, h⟩ := own_shape hEr; injection e with _ _ e3; unfold maxLen at h; omega
          have HGB := Lib.hid (HST4.out.own.row.lt G rfl).1
          have HGg := Lib.hid (hEr.lt g rfl).1
          have hrd : RdU w4 (some ⟨g, 0, none⟩) (x :: r) := own_rd hEr
          have hfz : ∀ j, j < (x :: r).length → w4.frozen? ⟨g, j, none⟩ = false := fun j hj => (own_cell hEr (us_get (x :: r) j _ (List.getElem?_eq_getElem hj))).2
          have n1 : (⟨G, bi, none⟩ : Addr) ≠ ⟨b, 0, none⟩ := fun e => hGb (by injection e with e; exact e.symm)
          have n2 : (⟨G, bi, none⟩ : Addr) ≠ ⟨g, 0, none⟩ := fun e => hgG (by injection e)
          have n3 : (⟨G, bi, none⟩ : Addr) ≠ ⟨w.heap.size + 1, 0, none⟩ := fun e => by injection e with e; have := HGB.out; omega
          have n4 : (⟨w.heap.size + 1, 0, none⟩ : Addr) ≠ ⟨g, 0, none⟩ := fun e => by injection e with e; have := HGg.out; omega
          have n5 : (⟨w.heap.size + 1, 0, none⟩ : Addr) ≠ ⟨b, 0, none⟩ := fun e => by injection e with e; exact HNBR.out e
          simp only [List.length_cons] at hcap htl d1 hfz
          have HRD := Lib.hid hrd
          have HFZ := Lib.hid hfz
          clear hEr hrd hfz
          have hx1 : (0 : Int) < (r.length : Int) + 1 := by omega
          have hx2 : (1 : Int) ≤ (r.length : Int) + 1 := by omega
          have hx3 : ((r.length : Int) + 1 == 0) = false := by rw [beq_eq_false_iff_ne]; omega
          have hx4 : (1 : Int) ≤ (u3 : Int) := by omega
          have hx5 : (r.length : Int) + 1 ≤ (u3 : Int) := by omega
          have hx6 : 1 ≤ u3 := by omega
          by_cases hc1 : u3 = 1
          · obtain rfl : r = [] := List.eq_nil_of_length_eq_zero (by omega)
            subst hc1
            have HCUT : Hid (FrQ (w4.setCell ⟨G, bi, none⟩ (.slice (some ⟨g, 0, none⟩) 0 0)) (w.heap.size + 2) (some ⟨G, 0, none⟩) (vs2.set bi ⟨some ⟨g, 0, none⟩, 0, 0⟩) (l.set bi [])) :=
              HST4.out.own.cut (x := ⟨some ⟨g, 0, none⟩, 0, 0⟩) rfl HV2.out HS2.out rfl (RdU.nil_ _ _) (fun h => absurd h (by simp)) (fun b o e => by injection e with e; injection e with e1 _; subst e1; rfl)
            have q1 : (w4.setCell ⟨G, bi, none⟩ (.slice (some ⟨g, 0, none⟩) 0 0)).cell? ⟨b, 0, none⟩ = some (.slice (some ⟨G, 0, none⟩) l.length c2) := (World.cell?_setCell_other (h := n1) ..).trans kb4
            have q2 : (w4.setCell ⟨G, bi, none⟩ (.slice (some ⟨g, 0, none⟩) 0 0)).cell? ⟨g, 0, none⟩ = some (.int .u64 x) := (World.cell?_setCell_other (h := n2) ..).trans c1
            have q3 : (w4.setCell ⟨G, bi, none⟩ (.slice (some ⟨g, 0, none⟩) 0 0)).cell? ⟨w.heap.size + 1, 0, none⟩ = some (.slice none 0 0) := (World.cell?_setCell_other (h := n3) ..).trans k24
            have q4 : (w4.setCell ⟨G, bi, none⟩ (.slice (some ⟨g, 0, none⟩) 0 0)).frozen? ⟨w.heap.size + 1, 0, none⟩ = false := (World.frozen?_setCell _ _ _ _).trans k34
            have HCB : Hid (Below w.heap.size w (w4.setCell ⟨G, bi, none⟩ (.slice (some ⟨g, 0, none⟩) 0 0))) := HST4.out.below.setCell (by have := HGB.out; show _ ≤ G; omega) _
            have HGE2 : Hid (∀ b o, (some ⟨G, 0, none⟩ : Option Addr) = some ⟨b, o, none⟩ → 0 < (vs2.set bi ⟨some ⟨g, 0, none⟩, 0, 0⟩).length → w.heap.size + 2 ≤ b) := fun b o e _ => by injection e with e; injection e with e1 _; rw [← e1]; exact HGB.out
            go_upto_region 16 with fail
            go_region
            all_goals
              generalize (w4.setCell ⟨G, bi, none⟩ (.slice (some ⟨g, 0, none⟩) 0 0)) = w5 at *
              have m1 := World.block_lt_of_cell? _ _ q1
              have m2 := World.block_lt_of_cell? _ _ q2
              have m3 := World.block_lt_of_cell? _ _ q3
              have e5 := World.cell?_setCell_same _ _ (.slice (some ⟨G, 0, none⟩) l.length c2) q3
              have e6 : (w5.setCell ⟨w.heap.size + 1, 0, none⟩ (.slice (some ⟨G, 0, none⟩) l.length c2)).cell? ⟨g, 0, none⟩ = some (.int .u64 x) := (World.cell?_setCell_other (h := n4) ..).trans q2
              go_wp2
              go_region
              all_goals
                go_wp2
                refine bodyPost_ret (v := .tuple #[.agg #[.slice (some ⟨G, 0, none⟩) l.length c2], .int .u64 x, .bool true, .int .i64 0]) (by simp [results, Try.results12, go_sem, e5]) rfl ?_
                rw [EP.out]
                refine ⟨some ⟨G, 0, none⟩, c2, vs2.set bi ⟨some ⟨g, 0, none⟩, 0, 0⟩, by rw [List.length_set], ?_, ?_⟩
                · exact (((HCUT.out.set_lo (p := ⟨w.heap.size + 1, 0, none⟩) (by simp) (fun b o e hn => HGE2.out b o e hn) _).mono (by omega)).below (Below.refl _ _).drew).below (Below.refl _ _).drew
                · exact (HCB.out.setCell (p := ⟨w.heap.size + 1, 0, none⟩) (by simp) _).drew.drew
          · have hc2 : ¬ 1 = u3 := fun e => hc1 e.symm
            have HCUT : Hid (FrQ (w4.setCell ⟨G, bi, none⟩ (.slice (some ⟨g, 1, none⟩) r.length (u3 - 1))) (w.heap.size + 2) (some ⟨G, 0, none⟩) (vs2.set bi ⟨some ⟨g, 1, none⟩, r.length, (u3 - 1)⟩) (l.set bi r)) :=
              HST4.out.own.cut (x := ⟨some ⟨g, 1, none⟩, r.length, (u3 - 1)⟩) rfl HV2.out HS2.out rfl (HRD.out.drop_) (fun h => ⟨g, 1, rfl, HGg.out, fun j hj => HFZ.out (1 + j) (by omega)⟩) (fun b o e => by injection e with e; injection e with e1 _; subst e1; rfl)
            have q1 : (w4.setCell ⟨G, bi, none⟩ (.slice (some ⟨g, 1, none⟩) r.length (u3 - 1))).cell? ⟨b, 0, none⟩ = some (.slice (some ⟨G, 0, none⟩) l.length c2) := (World.cell?_setCell_other (h := n1) ..).trans kb4
            have q2 : (w4.setCell ⟨G, bi, none⟩ (.slice (some ⟨g, 1, none⟩) r.length (u3 - 1))).cell? ⟨g, 0, none⟩ = some (.int .u64 x) := (World.cell?_setCell_other (h := n2) ..).trans c1
            have q3 : (w4.setCell ⟨G, bi, none⟩ (.slice (some ⟨g, 1, none⟩) r.length (u3 - 1))).cell? ⟨w.heap.size + 1, 0, none⟩ = some (.slice none 0 0) := (World.cell?_setCell_other (h := n3) ..).trans k24
            have q4 : (w4.setCell ⟨G, bi, none⟩ (.slice (some ⟨g, 1, none⟩) r.length (u3 - 1))).frozen? ⟨w.heap.size + 1, 0, none⟩ = false := (World.frozen?_setCell _ _ _ _).trans k34
            have HCB : Hid (Below w.heap.size w (w4.setCell ⟨G, bi, none⟩ (.slice (some ⟨g, 1, none⟩) r.length (u3 - 1)))) := HST4.out.below.setCell (by have := HGB.out; show _ ≤ G; omega) _
            have HGE2 : Hid (∀ b o, (some ⟨G, 0, none⟩ : Option Addr) = some ⟨b, o, none⟩ → 0 < (vs2.set bi ⟨some ⟨g, 1, none⟩, r.length, (u3 - 1)⟩).length → w.heap.size + 2 ≤ b) := fun b o e _ => by injection e with e; injection e with e1 _; rw [← e1]; exact HGB.out
            go_upto_region 16 with fail
            go_region
            all_goals
              generalize (w4.setCell ⟨G, bi, none⟩ (.slice (some ⟨g, 1, none⟩) r.length (u3 - 1))) = w5 at *
              have m1 := World.block_lt_of_cell? _ _ q1
              have m2 := World.block_lt_of_cell? _ _ q2
              have m3 := World.block_lt_of_cell? _ _ q3
              have e5 := World.cell?_setCell_same _ _ (.slice (some ⟨G, 0, none⟩) l.length c2) q3
              have e6 : (w5.setCell ⟨w.heap.size + 1, 0, none⟩ (.slice (some ⟨G, 0, none⟩) l.length c2)).cell? ⟨g, 0, none⟩ = some (.int .u64 x) := (World.cell?_setCell_other (h := n4) ..).trans q2
              go_wp2
              go_region
              all_goals
                go_wp2
                refine bodyPost_ret (v := .tuple #[.agg #[.slice (some ⟨G, 0, none⟩) l.length c2], .int .u64 x, .bool true, .int .i64 0]) (by simp [results, Try.results12, go_sem, e5]) rfl ?_
                rw [EP.out]
                refine ⟨some ⟨G, 0, none⟩, c2, vs2.set bi ⟨some ⟨g, 1, none⟩, r.length, (u3 - 1)⟩, by rw [List.length_set], ?_, ?_⟩
                · exact (((HCUT.out.set_lo (p := ⟨w.heap.size + 1, 0, none⟩) (by simp) (fun b o e hn => HGE2.out b o e hn) _).mono (by omega)).below (Below.refl _ _).drew).below (Below.refl _ _).drew
                · exact (HCB.out.setCell (p := ⟨w.heap.size + 1, 0, none⟩) (by simp) _).drew.drew
      · have EP : Hid (popP l k = popOwn l k s) := HEQ0.out.trans (by unfold popIn; rw [HS.out]; simp [h0])
        obtain ⟨n, hn⟩ : ∃ n, s.length = n + 1 := ⟨s.length - 1, by omega⟩
        have hx : s[n]? = some (s[n]'(by omega)) := List.getElem?_eq_getElem _
        generalize (s[n]'_) = x at hx
        obtain ⟨g, eg⟩ := own_form HE.out.row (by omega)
        simp only at eg
        subst eg
        have hEr : OwU w3 (w.heap.size + 2) (.slice (some ⟨g, 0, none⟩) s.length v3) s := HE.out.row
        obtain ⟨c1, c2'⟩ := own_cell hEr (us_get s n x hx)
        have hgl := World.block_lt_of_cell? _ _ c1
        have hgG : G ≠ g := fun e => own_tag HST.out.own.row hEr (by decide) (k := G) rfl (by rw [e]; rfl)
        have hgb : b ≠ g := fun e => HST.out.box.far hEr (by decide) (by rw [e]; rfl)
        have hcap : s.length ≤ v3 := by obtain ⟨A', c', e, h, _⟩ := hEr.shape; injection e with _ _ e3; omega
        have hcap2 : v3 ≤ 9223372036854775807 := by obtain ⟨A', c', e, _, h⟩ := own_shape hEr; injection e with _ _ e3; unfold maxLen at h; omega
        have HCUT : Hid (FrQ (w3.setCell ⟨G, k, none⟩ (.slice (some ⟨g, 0, none⟩) n n)) (w.heap.size + 2) (some ⟨G, 0, none⟩) (vs2.set k ⟨some ⟨g, 0, none⟩, n, n⟩) (l.set k s.dropLast)) :=
          HST.out.own.cut (x := ⟨some ⟨g, 0, none⟩, n, n⟩) rfl HV.out HS.out (by simp [hn]) (by
            have := RdU.take_ (l := s) (own_rd hEr) n (by omega)
            rw [show s.dropLast = s.take n from by rw [List.dropLast_eq_take, hn]; rfl]
            exact this) (fun h => ⟨g, 0, rfl, (hEr.lt g rfl).1, fun j hj => by
              have hj' : j < s.length := by simp at hj; omega
              rw [Nat.zero_add]
              exact (own_cell hEr (us_get s j s[j] (List.getElem?_eq_getElem hj'))).2⟩) (fun b o e => by injection e with e; injection e with e1 _; subst e1; rfl)
        have HLAST : Hid (s.getLast?.getD 0 = x) := by
          show _ = _
          rw [List.getLast?_eq_getElem?, hn, Nat.add_sub_cancel, hx]
          rfl
        have HGB := Lib.hid (HST.out.own.row.lt G rfl).1
        have hn1 : (s.length : Int) - 1 = (n : Int) := by omega
        have hn2 : (0 : Int) < (s.length : Int) := by omega
        have HN := Lib.hid hn
        have n1 : (⟨G, k, none⟩ : Addr) ≠ ⟨b, 0, none⟩ := fun e => hGb (by injection e with e; exact e.symm)
        have n2 : (⟨G, k, none⟩ : Addr) ≠ ⟨g, n, none⟩ := fun e => hgG (by injection e)
        have n3 : (⟨G, k, none⟩ : Addr) ≠ ⟨w.heap.size + 1, 0, none⟩ := fun e => by injection e with e; have := HGB.out; omega
        have hnc : n < v3 := by omega
        have hns : n < s.length := by omega
        have hn5 : (n : Int) < (s.length : Int) := by omega
        have hn6 : (n : Int) ≤ (v3 : Int) := by omega
        have hn7 : n ≤ v3 := by omega
        have hn8 : n ≤ 16384 := by omega
        clear hx hn hEr
        go_upto_region 10 with fail
        have q1 : (w3.setCell ⟨G, k, none⟩ (.slice (some ⟨g, 0, none⟩) n n)).cell? ⟨b, 0, none⟩ = some (.slice (some ⟨G, 0, none⟩) l.length c2) := (World.cell?_setCell_other (h := n1) ..).trans kb
        have q2 : (w3.setCell ⟨G, k, none⟩ (.slice (some ⟨g, 0, none⟩) n n)).cell? ⟨g, n, none⟩ = some (.int .u64 x) := (World.cell?_setCell_other (h := n2) ..).trans c1
        have q3 : (w3.setCell ⟨G, k, none⟩ (.slice (some ⟨g, 0, none⟩) n n)).cell? ⟨w.heap.size + 1, 0, none⟩ = some (.slice none 0 0) := (World.cell?_setCell_other (h := n3) ..).trans k2
        have q4 : (w3.setCell ⟨G, k, none⟩ (.slice (some ⟨g, 0, none⟩) n n)).frozen? ⟨w.heap.size + 1, 0, none⟩ = false := (World.frozen?_setCell _ _ _ _).trans k3
        have n4 : (⟨w.heap.size + 1, 0, none⟩ : Addr) ≠ ⟨g, n, none⟩ := fun e => by injection e with e; have := (HE.out.row.lt g rfl).1; omega
        have n5 : (⟨w.heap.size + 1, 0, none⟩ : Addr) ≠ ⟨b, 0, none⟩ := fun e => by injection e with e; exact HNBR.out e
        have HCB : Hid (Below w.heap.size w (w3.setCell ⟨G, k, none⟩ (.slice (some ⟨g, 0, none⟩) n n))) := HST.out.below.setCell (by have := HGB.out; show _ ≤ G; omega) _
        have HGE2 : Hid (∀ b o, (some ⟨G, 0, none⟩ : Option Addr) = some ⟨b, o, none⟩ → 0 < (vs2.set k ⟨some ⟨g, 0, none⟩, n, n⟩).length → w.heap.size + 2 ≤ b) := fun b o e _ => by injection e with e; injection e with e1 _; rw [← e1]; exact HGB.out
        clear e5
        go_region
        all_goals
          generalize (w3.setCell ⟨G, k, none⟩ (.slice (some ⟨g, 0, none⟩) n n)) = w4 at *
          have m1 := World.block_lt_of_cell? _ _ q1
          have m2 := World.block_lt_of_cell? _ _ q2
          have m3 := World.block_lt_of_cell? _ _ q3
          have e5 := World.cell?_setCell_same _ _ (.slice (some ⟨G, 0, none⟩) l.length c2) q3
          have e6 : (w4.setCell ⟨w.heap.size + 1, 0, none⟩ (.slice (some ⟨G, 0, none⟩) l.length c2)).cell? ⟨g, n, none⟩ = some (.int .u64 x) := (World.cell?_setCell_other (h := n4) ..).trans q2
          go_wp2
          go_region
          all_goals
            go_wp2
            refine bodyPost_ret (v := .tuple #[.agg #[.slice (some ⟨G, 0, none⟩) l.length c2], .int .u64 x, .bool false, .int .i64 0]) (by simp [results, Try.results12, go_sem, e5]) rfl ?_
            rw [EP.out]
            refine ⟨some ⟨G, 0, none⟩, c2, vs2.set k ⟨some ⟨g, 0, none⟩, n, n⟩, by unfold popOwn; rw [HLAST.out, List.length_set], ?_, ?_⟩
            · exact (((HCUT.out.set_lo (p := ⟨w.heap.size + 1, 0, none⟩) (by simp) (fun b o e hn => HGE2.out b o e hn) _).mono (by omega)).below (Below.refl _ _).drew).below (Below.refl _ _).drew
            · exact (HCB.out.setCell (p := ⟨w.heap.size + 1, 0, none⟩) (by simp) _).drew.drew
    · have EP : Hid (popP l k = ⟨l, 0, false, 11⟩) := by show _ = _; unfold popP; rw [if_pos HOK.out, if_neg hkr]
      have hk2 : k < 0 ∨ (¬ k < 0 ∧ (l.length : Int) ≤ k) := by omega
      clear hkr
      rcases hk2 with hk2 | ⟨hk2, hk3⟩
      all_goals
        go_wp2
        refine bodyPost_ret (v := .tuple #[.agg #[.slice A2 l.length c2], .int .u64 0, .bool false, .int .i64 11]) (by simp [results, Try.results12, go_sem, e5]) rfl ?_
        rw [EP.out]
        exact ⟨A2, c2, vs2, rfl, ((HST.out.own.frq).set_lo (by simp) (fun b o e hn => HGE.out b o e hn) _).mono (by omega), HST.out.below.setCell (by simp) _⟩
  · have E2 := Lib.hid (chkE_no hok)
    have EP : Hid (popP l k = ⟨[], 0, false, 2⟩) := if_neg hok
    rw [E2.out] at CC
    clear hok ha
    go_enter Try.func12, Try.ntmps12
    go_wp2_with (go_at_call 20; refine (CC.out _ HB0.out).mono ?_)
    rintro e w1 ⟨rfl, hb1⟩
    have r1 := cell_later hb1 F1.out
    have z1 := (hb1.frozen (p := ⟨w.heap.size + 1, 0, none⟩) (by rw [HS0.out]; show _ < _; simp)).trans Z1.out
    have hlt1 := World.block_lt_of_cell? _ _ r1
    have HB1 := Lib.hid (bthen HB0.out hb1)
    clear hb1 CC
    go_wp2
    have e5 := World.cell?_setCell_same _ _ (.slice none 0 0) r1
    refine bodyPost_ret (v := .tuple #[.agg #[.slice none 0 0], .int .u64 0, .bool false, .int .i64 2]) (by simp [results, Try.results12, go_sem, e5, r1]) rfl ?_
    rw [EP.out]
    exact ⟨none, 0, [], rfl, (OwQs.nil_ _ _).frq, by first | exact HB1.out.setCell (by simp) _ | exact HB1.out⟩
end Go.Proofs.Ytinjeoohklabpaa
