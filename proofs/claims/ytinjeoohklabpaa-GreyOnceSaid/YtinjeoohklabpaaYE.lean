/- The walk of the reference's Push. -/
import Derived.Test.YtinjeoohklabpaaYM
import Derived.Deep.RegionHeld3
namespace Go.Proofs.Ytinjeoohklabpaa
open Go.RowKit
set_option linter.unusedVariables false
set_option linter.unusedSimpArgs false

set_option maxRecDepth 100000 in
set_option maxHeartbeats 16000000 in
theorem pushR (A : Option Addr) (c : Nat) (vs : List QV) (l : List (List Int)) (k : Int) (B : Option Addr) (d : Nat) (ds : List Int) (w : World) (ha : RdQ w A vs l) (hd : RdU w B ds) :
    Calls Try.prog 11 #[.agg #[.slice A l.length c], .int .i64 k, .slice B ds.length d] w (RetGE (pushP l k ds).1 (pushP l k ds).2 w) := by
  have hl := ha.len
  have hdl := hd.len
  have HB0 := Lib.hid (balloc (balloc (Below.refl w.heap.size w) (.cells #[.slice A l.length c] 24)) (.cells #[.slice none 0 0] 24))
  have F0 : Hid (((w.alloc (.cells #[.slice A l.length c] 24)).alloc (.cells #[.slice none 0 0] 24)).cell? ⟨w.heap.size, 0, none⟩ = some (.slice A l.length c)) := by show _ = _; go_simp
  have F1 : Hid (((w.alloc (.cells #[.slice A l.length c] 24)).alloc (.cells #[.slice none 0 0] 24)).cell? ⟨w.heap.size + 1, 0, none⟩ = some (.slice none 0 0)) := by show _ = _; go_simp
  have Z1 : Hid (((w.alloc (.cells #[.slice A l.length c] 24)).alloc (.cells #[.slice none 0 0] 24)).frozen? ⟨w.heap.size + 1, 0, none⟩ = false) := by show _ = _; go_simp
  have HS0 : Hid (((w.alloc (.cells #[.slice A l.length c] 24)).alloc (.cells #[.slice none 0 0] 24)).heap.size = w.heap.size + 2) := by show _ = _; simp
  have CC : Hid (∀ W, Below w.heap.size w W → Calls Try.prog 21 #[.agg #[.slice A l.length c]] W (Ret (.int .i64 (chkE l)) W)) := fun W hW => checkR A c vs l W (ha.below hW)
  have HD := Lib.hid hd
  by_cases hok : okQ l
  · have CP : Hid (∀ W, Below w.heap.size w W → Calls Try.prog 9 #[.agg #[.slice A l.length c]] W (RetG l W)) := fun W hW => copyQ A c vs l W (ha.below hW) (small_of hok.1)
    have HOK := Lib.hid hok
    have E2 := Lib.hid (chkE_ok hok)
    rw [E2.out] at CC
    clear hok ha hd
    go_enter Try.func11, Try.ntmps11
    go_wp2_with (go_at_call 21; refine (CC.out _ HB0.out).mono ?_)
    rintro e w1 ⟨rfl, hb1⟩
    have f1 := cell_later hb1 F0.out
    have r1 := cell_later hb1 F1.out
    have z1 := (hb1.frozen (p := ⟨w.heap.size + 1, 0, none⟩) (by rw [HS0.out]; show _ < _; simp)).trans Z1.out
    have hs1 : w.heap.size + 2 ≤ w1.heap.size := by have := hb1.size; rw [HS0.out] at this; exact this
    have HB1 := Lib.hid (bthen HB0.out hb1)
    clear hb1 F0 F1 Z1 HS0 CC HB0
    go_wp2_with (go_at_call 9; refine (CP.out _ HB1.out).mono ?_)
    rintro e w2 ⟨v2, rfl, ⟨vs2, hq2⟩, hb2⟩
    obtain ⟨A2, c2, rfl, _, _⟩ := hq2.shape
    have hb3 : Below w1.heap.size w1 (w2.alloc (.cells #[.slice A2 l.length c2] 24)) := balloc hb2 _
    have hq3 := ((hq2.below (balloc (Below.refl _ _) (.cells #[.slice A2 l.length c2] 24))).mono hs1)
    have hs2 := hb2.size
    have HST : Hid (StP w (w2.alloc (.cells #[.slice A2 l.length c2] 24)) 24 w2.heap.size A l.length c A2 c2 vs2 l) :=
      ⟨hq3, rfl, HOK.out.1.2.2, heap_alloc_new w2 _, bthen HB1.out hb3, by have := hb3.size; omega, cell_later hb3 f1, cell_later hb3 r1, (hb3.frozen (p := ⟨w.heap.size + 1, 0, none⟩) (World.block_lt_of_cell? _ _ r1)).trans z1⟩
    have HBGE : Hid (w.heap.size + 2 ≤ w2.heap.size) := Nat.le_trans hs1 hs2
    have kb := HST.out.box.var
    unfold VarG at kb
    have k1 := HST.out.src
    have k2 := HST.out.res
    have k3 := HST.out.rfr
    have f2 := cell_later hb2 f1
    have r2 := cell_later hb2 r1
    have hlt2 := World.block_lt_of_cell? _ _ f2
    have hlt3 := World.block_lt_of_cell? _ _ r2
    clear hb2 hq2 hq3 hb3 hs1 hs2 f1 r1 z1
    go_upto_region 4 with fail
    clear f2 r2 hlt2 hlt3
    generalize (w2.alloc (.cells #[.slice A2 l.length c2] 24)) = w3 at *
    generalize w2.heap.size = b at *
    have hlt2 := World.block_lt_of_cell? _ _ k1
    have hlt3 := World.block_lt_of_cell? _ _ k2
    have hlt4 := World.block_lt_of_cell? _ _ kb
    by_cases hkr : 0 ≤ k ∧ k < (l.length : Int)
    · obtain ⟨k, rfl⟩ := Int.eq_ofNat_of_zero_le hkr.1
      have hkl : k < l.length := by omega
      have hk1 : (k : Int) < (l.length : Int) := by omega
      have hk0 : ¬ (k : Int) < 0 := by omega
      have HEQ0 : Hid (pushP l k ds = pushGo l l k (ds.drop 0)) := by show _ = _; unfold pushP; rw [if_pos HOK.out, if_pos hkr]; rfl
      clear hkr
      go_wp2
      clear kb k1 k2 k3 hlt2 hlt3 hlt4
      go_loopw [30] (fun i wr => ∃ (i' : Nat) (us : List QV) (cur : List (List Int)), i = .int .i64 i' ∧ i' ≤ ds.length ∧ Hid (StP w wr 24 b A l.length c A2 c2 us cur) ∧ Hid (pushP l k ds = pushGo l cur k (ds.drop i'))) (fun i _ => ds.length - (intOf i).toNat)
      case atStart => exact ⟨0, vs2, l, rfl, Nat.zero_le _, HST.out, HEQ0.out⟩
      case round =>
        clear HST HEQ0
        obtain ⟨i, us, cur, rfl, hi, HST, HEQ⟩ := hrel
        by_cases hlt : i < ds.length
        · have hx : ds[i]? = some ds[i] := List.getElem?_eq_getElem hlt
          generalize ds[i] = x at hx
          obtain ⟨b9, o9, e9, _, d0⟩ := HD.out.at_ hx
          subst e9
          have d0 := cell_later HST.out.below d0
          have HX := Lib.hid hx
          have kb := HST.out.box.var
          unfold VarG at kb
          have hblt := World.block_lt_of_cell? _ _ kb
          have hcl := HST.out.len
          have CH : Hid (∀ W, Below wr.heap.size wr W → Calls Try.prog 22 #[.agg #[.slice A2 l.length c2], .int .u64 x] W (Ret (.int .i64 (hasN cur x : Nat)) W)) := fun W hW => by
            have := hasQ A2 c2 us cur x W (HST.out.rd.below hW) (by have := HST.out.many; omega)
            rwa [hcl] at this
          have CM : Hid (∀ W, Below wr.heap.size wr W → Calls Try.prog 25 #[.agg #[.slice A2 l.length c2]] W (Ret (.int .i64 (manyN cur : Nat)) W)) := fun W hW => by
            have := manyR A2 c2 us cur W (HST.out.rd.below hW) (by have := HST.out.many; omega)
            rwa [hcl] at this
          have HCL := Lib.hid hcl
          clear hx hcl
          rcases putE_cases cur x with ⟨hx0, he⟩ | ⟨hx0, hin, he⟩ | ⟨hx0, hin, hm, he⟩ | ⟨hx0, hin, hm, he⟩
          · have HE := Lib.hid he
            have e0 : (x == 0) = true := by simp [hx0]
            clear he hx0
            have EP : Hid (pushP l k ds = (l, 7)) := HEQ.out.trans ((pushGo_stop HX.out (by rw [HE.out]; decide)).trans (by rw [HE.out]))
            have t1 := HST.out.src
            have t2 := HST.out.res
            have t3 := HST.out.rfr
            have t4 := World.block_lt_of_cell? _ _ t1
            have t5 := World.block_lt_of_cell? _ _ t2
            have CPX := Lib.hid (CP.out _ HST.out.below)
            go_wp2_with (go_at_call 9; refine CPX.out.mono ?_)
            rintro e w5 ⟨v5, rfl, ⟨vs5, hq5⟩, hb5⟩
            obtain ⟨A5, c5, rfl, _, _⟩ := hq5.shape
            have HQ5 := Lib.hid (OwQs.mono (base' := w.heap.size + 2) hq5 HST.out.sz)
            have HB5 := Lib.hid (bthen HST.out.below hb5)
            have r5 := cell_later hb5 t2
            have z5 := (hb5.frozen (p := ⟨w.heap.size + 1, 0, none⟩) t5).trans t3
            have hlt5 := World.block_lt_of_cell? _ _ r5
            clear hb5 hq5 t1 t2 t3 t4 t5
            have e5 := World.cell?_setCell_same _ _ (.slice A5 l.length c5) r5
            go_wp2
            refine bodyPost_ret (v := .tuple #[.agg #[.slice A5 l.length c5], .int .i64 7]) (by simp [results, Try.results11, go_sem, e5]) rfl ?_
            rw [EP.out]
            exact ⟨_, rfl, ⟨vs5, (HQ5.out.set_lo (by simp) _).mono (by omega)⟩, HB5.out.setCell (by simp) _⟩
          · have HE := Lib.hid he
            have e0 : (x == 0) = false := by simp [hx0]
            rw [inQ_has] at hin
            have hin2 : 0 < hasN cur x := of_decide_eq_true hin
            clear he hx0 hin
            go_wp2_with (go_at_call 22; refine (CH.out _ (Below.refl _ _)).mono ?_)
            rintro e w4 ⟨rfl, hb4⟩
            have HS4 := Lib.hid (HST.out.later hb4)
            have d4 := cell_later hb4 d0
            clear hb4 d0 kb hblt
            have EP : Hid (pushP l k ds = (l, 4)) := HEQ.out.trans ((pushGo_stop HX.out (by rw [HE.out]; decide)).trans (by rw [HE.out]))
            have t1 := HS4.out.src
            have t2 := HS4.out.res
            have t3 := HS4.out.rfr
            have t4 := World.block_lt_of_cell? _ _ t1
            have t5 := World.block_lt_of_cell? _ _ t2
            have CPX := Lib.hid (CP.out _ HS4.out.below)
            go_wp2_with (go_at_call 9; refine CPX.out.mono ?_)
            rintro e w5 ⟨v5, rfl, ⟨vs5, hq5⟩, hb5⟩
            obtain ⟨A5, c5, rfl, _, _⟩ := hq5.shape
            have HQ5 := Lib.hid (OwQs.mono (base' := w.heap.size + 2) hq5 HS4.out.sz)
            have HB5 := Lib.hid (bthen HS4.out.below hb5)
            have r5 := cell_later hb5 t2
            have z5 := (hb5.frozen (p := ⟨w.heap.size + 1, 0, none⟩) t5).trans t3
            have hlt5 := World.block_lt_of_cell? _ _ r5
            clear hb5 hq5 t1 t2 t3 t4 t5
            have e5 := World.cell?_setCell_same _ _ (.slice A5 l.length c5) r5
            go_wp2
            refine bodyPost_ret (v := .tuple #[.agg #[.slice A5 l.length c5], .int .i64 4]) (by simp [results, Try.results11, go_sem, e5]) rfl ?_
            rw [EP.out]
            exact ⟨_, rfl, ⟨vs5, (HQ5.out.set_lo (by simp) _).mono (by omega)⟩, HB5.out.setCell (by simp) _⟩
          · have HE := Lib.hid he
            have e0 : (x == 0) = false := by simp [hx0]
            rw [inQ_has] at hin
            have hin2 : ¬ 0 < hasN cur x := of_decide_eq_false hin
            have hin3 : hasN cur x = 0 := by omega
            have HM := Lib.hid hm
            clear he hx0 hin hm
            rw [hin3] at CH
            go_wp2_with (go_at_call 22; refine (CH.out _ (Below.refl _ _)).mono ?_)
            rintro e w4 ⟨rfl, hb4⟩
            have HS4 := Lib.hid (HST.out.later hb4)
            have CM4 := Lib.hid (CM.out _ hb4)
            have d4 := cell_later hb4 d0
            have kb4 := HS4.out.box.var
            unfold VarG at kb4
            have hblt4 := World.block_lt_of_cell? _ _ kb4
            clear hb4 d0 kb hblt
            rw [HM.out] at CM4
            go_wp2_with (go_at_call 25; refine CM4.out.mono ?_)
            rintro e w6 ⟨rfl, hb6⟩
            have HS6 := Lib.hid (HS4.out.later hb6)
            clear hb6 d4 kb4 hblt4
            have hf1 : ((16384 : Nat) : Int) = 16384 := rfl
            have EP : Hid (pushP l k ds = (l, 6)) := HEQ.out.trans ((pushGo_stop HX.out (by rw [HE.out]; decide)).trans (by rw [HE.out]))
            have t1 := HS6.out.src
            have t2 := HS6.out.res
            have t3 := HS6.out.rfr
            have t4 := World.block_lt_of_cell? _ _ t1
            have t5 := World.block_lt_of_cell? _ _ t2
            have CPX := Lib.hid (CP.out _ HS6.out.below)
            go_wp2_with (go_at_call 9; refine CPX.out.mono ?_)
            rintro e w5 ⟨v5, rfl, ⟨vs5, hq5⟩, hb5⟩
            obtain ⟨A5, c5, rfl, _, _⟩ := hq5.shape
            have HQ5 := Lib.hid (OwQs.mono (base' := w.heap.size + 2) hq5 HS6.out.sz)
            have HB5 := Lib.hid (bthen HS6.out.below hb5)
            have r5 := cell_later hb5 t2
            have z5 := (hb5.frozen (p := ⟨w.heap.size + 1, 0, none⟩) t5).trans t3
            have hlt5 := World.block_lt_of_cell? _ _ r5
            clear hb5 hq5 t1 t2 t3 t4 t5
            have e5 := World.cell?_setCell_same _ _ (.slice A5 l.length c5) r5
            go_wp2
            refine bodyPost_ret (v := .tuple #[.agg #[.slice A5 l.length c5], .int .i64 6]) (by simp [results, Try.results11, go_sem, e5]) rfl ?_
            rw [EP.out]
            exact ⟨_, rfl, ⟨vs5, (HQ5.out.set_lo (by simp) _).mono (by omega)⟩, HB5.out.setCell (by simp) _⟩
          · have HE := Lib.hid he
            have e0 : (x == 0) = false := by simp [hx0]
            rw [inQ_has] at hin
            have hin2 : ¬ 0 < hasN cur x := of_decide_eq_false hin
            have hin3 : hasN cur x = 0 := by omega
            have hf1 : ((manyN cur : Int) == 16384) = false := by rw [beq_eq_false_iff_ne]; omega
            have hf2 : (manyN cur == 16384) = false := by rw [beq_eq_false_iff_ne]; omega
            have hf3 : manyN cur ≠ 16384 := hm
            clear he hx0 hin hm
            rw [hin3] at CH
            go_wp2_with (go_at_call 22; refine (CH.out _ (Below.refl _ _)).mono ?_)
            rintro e w4 ⟨rfl, hb4⟩
            have HS4 := Lib.hid (HST.out.later hb4)
            have CM4 := Lib.hid (CM.out _ hb4)
            have d4 := cell_later hb4 d0
            have kb4 := HS4.out.box.var
            unfold VarG at kb4
            have hblt4 := World.block_lt_of_cell? _ _ kb4
            clear hb4 d0 kb hblt
            go_wp2_with (go_at_call 25; refine CM4.out.mono ?_)
            rintro e w3 ⟨rfl, hb6⟩
            have HS6 := Lib.hid (HS4.out.later hb6)
            clear hb6 d4 kb4 hblt4 CH CM CM4
            have hkc : k < cur.length := by have := HCL.out; omega
            have hs : cur[k]? = some cur[k] := List.getElem?_eq_getElem hkc
            generalize cur[k] = s at hs
            have hkv : k < us.length := by rw [HS6.out.own.len]; exact hkc
            have hv : us[k]? = some us[k] := List.getElem?_eq_getElem hkv
            generalize us[k] = v at hv
            obtain ⟨G, eG⟩ := own_form HS6.out.own.row (by omega)
            subst eG
            have hE := HS6.out.own.each k v s hv hs
            have hul : us.length = l.length := by rw [HS6.out.own.len]; exact HCL.out
            obtain ⟨d1, d2⟩ := own_cell (u := .slice v.A v.n v.c) (k := k) (hul ▸ HS6.out.own.row : w3.ownsRow _ _ 1 (.slice (some ⟨G, 0, none⟩) us.length c2) us.length (sl us)) (by rw [sl_get _ _ _ hv])
            have kb2 := HS6.out.box.var
            unfold VarG at kb2
            have hGl := World.block_lt_of_cell? _ _ d1
            have hbl := World.block_lt_of_cell? _ _ kb2
            have HNB : Hid (some b ≠ v.v.ownBlock) := HS6.out.box.far hE.row (by decide)
            have HNG : Hid (some G ≠ v.v.ownBlock) := fun e => own_tag HS6.out.own.row hE.row (by decide) (k := G) rfl e.symm
            have hGb : b ≠ G := fun e => HS6.out.box.far HS6.out.own.row (by decide) (by rw [e]; rfl)
            have HGB := Lib.hid (HS6.out.own.row.lt G rfl).1
            have hX : Below w3.heap.size w3 (w3.alloc (.cells #[.int .u64 x] 30)).drew := (balloc (Below.refl _ _) _).drew
            have HX3 := Lib.hid hX
            have hEX := hE.below hX
            have hsl : s.length ≤ 16384 := by
              have h1 := manyN_succ hs
              have h2 := manyN_take cur (k + 1)
              have := HS6.out.many
              omega
            have hvn := hE.n
            have HOX : Hid (OwU (w3.alloc (.cells #[.int .u64 x] 30)).drew (w.heap.size + 2) v.v s) := hEX.row
            have HRX : Hid ((w3.alloc (.cells #[.int .u64 x] 30)).drew.cell? ⟨w3.heap.size, 0, none⟩ = some (.int .u64 x)) := by show _ = _; go_simp
            have HSX : Hid (s.length ≤ 100000) := by show _ ≤ _; omega
            have HBSX : Hid (w.heap.size + 2 ≤ (w3.alloc (.cells #[.int .u64 x] 30)).drew.heap.size) := Nat.le_trans HS6.out.sz hX.size
            have HLX : Hid (∀ k, v.v.ownBlock = some k → w.heap.size + 2 ≤ k) := fun k hk => (hE.row.lt k hk).1
            have HV := Lib.hid hv
            have HSS := Lib.hid hs
            have K1 := Lib.hid (cell_later hX kb2)
            have D1 := Lib.hid (cell_later hX d1)
            have D2 : Hid ((w3.alloc (.cells #[.int .u64 x] 30)).drew.frozen? ⟨G, k, none⟩ = false) := (hX.frozen (p := ⟨G, k, none⟩) hGl).trans d2
            have HXS := Lib.hid hX.size
            obtain ⟨v1, v2, v3⟩ := v
            simp only at hvn d1
            subst hvn
            simp only [QV.v] at HOX HNB HNG HLX
            have HLL : Hid (manyN cur ≤ 16383) := putE_many HE.out HS6.out.many
            have HAP := Lib.hid (appAt_eq x hs)
            have HMA := Lib.hid (many_appAt hkc x)
            clear hE hEX hv hs hkv hX hul hkc
            go_wp2
            have hk00 : (0 : Int) ≤ (k : Int) := Int.natCast_nonneg _
            have n1 : (⟨G, k, none⟩ : Addr) ≠ ⟨b, 0, none⟩ := fun e => hGb (by injection e with e; exact e.symm)
            refine wp_region_held_drew (S := fun w' => w'.cell? ⟨b, 0, none⟩ = some (.slice (some ⟨G, 0, none⟩) l.length c2) ∧ True) (by kernel_rfl) ⟨kb2, trivial⟩ (fun hHeld => ?_)
            refine wpAnyH_take (i := 0) (oi := _) (v := ?_) rfl (by kernel_rfl) (by kernel_rfl) (by kernel_rfl) (fun _ _ _ h => h) (Or.inl ⟨by rfl, ?_⟩) (by assumption) ?_
            rotate_left
            · intro w hSw
              try dsimp only at hSw
              obtain ⟨hS1, hS2⟩ := hSw
              go_simp
              all_goals with_reducible rfl
            try simp only [Act.put, List.setIfInBounds_toArray, List.set_cons_zero, List.set_cons_succ]
            refine wpAnyH_take (i := 1) (oi := _) (v := ?_) rfl (by kernel_rfl) (by kernel_rfl) (by kernel_rfl) (fun _ _ _ h => h) (Or.inl ⟨by rfl, ?_⟩) (by assumption) ?_
            rotate_left
            · intro w hSw
              try dsimp only at hSw
              obtain ⟨hS1, hS2⟩ := hSw
              go_simp
              all_goals with_reducible rfl
            try simp only [Act.put, List.setIfInBounds_toArray, List.set_cons_zero, List.set_cons_succ]
            refine wpAnyH_take (i := 2) (oi := _) (v := ?_) rfl (by kernel_rfl) (by kernel_rfl) (by kernel_rfl) (fun _ _ _ h => h) (Or.inl ⟨by rfl, ?_⟩) (by assumption) ?_
            rotate_left
            · intro w hSw
              try dsimp only at hSw
              obtain ⟨hS1, hS2⟩ := hSw
              go_simp
              all_goals with_reducible rfl
            try simp only [Act.put, List.setIfInBounds_toArray, List.set_cons_zero, List.set_cons_succ]
            refine wpAnyH_take (i := 3) (oi := _) (v := ?_) rfl (by kernel_rfl) (by kernel_rfl) (by kernel_rfl) (fun _ _ _ h => h) (Or.inl ⟨by rfl, ?_⟩) (by assumption) ?_
            rotate_left
            · intro w hSw
              try dsimp only at hSw
              obtain ⟨hS1, hS2⟩ := hSw
              go_simp
              all_goals with_reducible rfl
            try simp only [Act.put, List.setIfInBounds_toArray, List.set_cons_zero, List.set_cons_succ]
            refine wpAnyH_take (i := 4) (oi := _) (v := ?_) rfl (by kernel_rfl) (by kernel_rfl) (by kernel_rfl) (fun _ _ _ h => h) (Or.inl ⟨by rfl, ?_⟩) (by assumption) ?_
            rotate_left
            · intro w hSw
              try dsimp only at hSw
              obtain ⟨hS1, hS2⟩ := hSw
              go_simp
              all_goals with_reducible rfl
            try simp only [Act.put, List.setIfInBounds_toArray, List.set_cons_zero, List.set_cons_succ]
            refine wpAnyH_take (i := 5) (oi := _) (v := ?_) rfl (by kernel_rfl) (by kernel_rfl) (by kernel_rfl) (fun _ _ _ h => h) (Or.inl ⟨by rfl, ?_⟩) (by assumption) ?_
            rotate_left
            · intro w hSw
              try dsimp only at hSw
              obtain ⟨hS1, hS2⟩ := hSw
              go_simp
              all_goals with_reducible rfl
            try simp only [Act.put, List.setIfInBounds_toArray, List.set_cons_zero, List.set_cons_succ]
            refine wpAnyH_take (i := 6) (oi := _) (v := ?_) rfl (by kernel_rfl) (by kernel_rfl) (by kernel_rfl) (fun _ _ _ h => h) (Or.inl ⟨by rfl, ?_⟩) (by assumption) ?_
            rotate_left
            · intro w hSw
              try dsimp only at hSw
              obtain ⟨hS1, hS2⟩ := hSw
              go_simp
              all_goals with_reducible rfl
            try simp only [Act.put, List.setIfInBounds_toArray, List.set_cons_zero, List.set_cons_succ]
            refine wpAnyH_take (i := 8) (oi := _) (v := ?_) rfl (by kernel_rfl) (by kernel_rfl) (by kernel_rfl) (fun _ _ _ h => h) (Or.inl ⟨by rfl, ?_⟩) (by assumption) ?_
            rotate_left
            · intro w hSw
              try dsimp only at hSw
              obtain ⟨hS1, hS2⟩ := hSw
              go_simp
              all_goals with_reducible rfl
            try simp only [Act.put, List.setIfInBounds_toArray, List.set_cons_zero, List.set_cons_succ]
            refine wpAnyH_ready (rs := [7, 9]) (by kernel_rfl) (by simp) ?_
            refine AllReadyH.cons (o := _) rfl (fun K hK => ?_) (AllReadyH.cons (o := _) rfl (fun K hK => ?_) AllReadyH.nil)
            · go_simp
              refine hK.out _ _ ⟨kb2, trivial⟩ (fun hHeld => ?_)
              clear hK K
              try simp only [Act.put, List.setIfInBounds_toArray, List.set_cons_zero, List.set_cons_succ]
              refine wpAnyH_ready (rs := [9]) (by kernel_rfl) (by simp) ?_
              refine AllReadyH.cons (o := _) rfl (fun K hK => ?_) AllReadyH.nil
              go_simp
              refine hK.out _ _ ⟨K1.out, trivial⟩ (fun hHeld => ?_)
              clear hK K
              try simp only [Act.put, List.setIfInBounds_toArray, List.set_cons_zero, List.set_cons_succ]
              refine wpAnyH_ready (rs := [10]) (by kernel_rfl) (by simp) ?_
              refine AllReadyH.cons (o := _) rfl (fun K hK => ?_) AllReadyH.nil
              (refine step_appU1 (by rfl) (.tmp 58) (.tmp 60) (by rfl) (w.heap.size + 2) (.slice v1 s.length v3) s x w3.heap.size (by rfl) (by rfl) HOX.out HRX.out HSX.out HBSX.out ?_; intro g cap w4 ho hg hat; have f1 := hg.cell K1.out HNB.out; have f2 := hg.cell D1.out HNG.out; have f3 := (hg.frozen_far ⟨G, k, none⟩ (Nat.lt_of_lt_of_le hGl HXS.out) HNG.out).trans D2.out; have hgl4 := World.block_lt_of_cell? _ _ f2; have hbl4 := World.block_lt_of_cell? _ _ f1; have HBX4 := Lib.hid ((HS6.out.box.below HX3.out).grown hg HNB.out); have HQ4 := Lib.hid (HS6.out.own.app (v := ⟨v1, s.length, v3⟩) HCL.out HV.out HSS.out HX3.out ho hg hat); have HB4 := Lib.hid ((HX3.out.mono HS6.out.sz).grown hg HBSX.out HLX.out); clear ho hg hat)
              refine hK.out _ _ ⟨f1, trivial⟩ (fun hHeld => ?_)
              clear hK K
              try simp only [Act.put, List.setIfInBounds_toArray, List.set_cons_zero, List.set_cons_succ]
              refine wpAnyH_take (i := 11) (oi := _) (v := ?_) rfl (by kernel_rfl) (by kernel_rfl) (by kernel_rfl) (fun _ _ _ h => h) (Or.inl ⟨by rfl, ?_⟩) (by assumption) ?_
              rotate_left
              · intro w hSw
                try dsimp only at hSw
                obtain ⟨hS1, hS2⟩ := hSw
                go_simp
                all_goals with_reducible rfl
              try simp only [Act.put, List.setIfInBounds_toArray, List.set_cons_zero, List.set_cons_succ]
              refine wpAnyH_ready (rs := [12]) (by kernel_rfl) (by simp) ?_
              refine AllReadyH.cons (o := _) rfl (fun K hK => ?_) AllReadyH.nil
              go_simp
              refine hK.out _ _ ⟨(World.cell?_setCell_other (h := n1) ..).trans f1, trivial⟩ (fun hHeld => ?_)
              clear hK K
              try simp only [Act.put, List.setIfInBounds_toArray, List.set_cons_zero, List.set_cons_succ]
              refine wpAnyH_done (by kernel_rfl) ?_ _
              go_wp2
              go_roundw
              case rel =>
                refine ⟨i + 1, us.set k ⟨some ⟨g, 0, none⟩, s.length + 1, cap⟩, appAt cur k x, by go_num, by omega, ?_, HEQ.out.trans (pushGo_go HX.out HE.out)⟩
                rw [HAP.out]
                exact HS6.out.next HQ4.out (by rw [List.length_set]; exact HCL.out) (by rw [← HAP.out, HMA.out]; have := HLL.out; omega) (HBX4.out.set_ne hGb _) (HB4.out.setCell HGB.out _)
              case measure => simp [intOf]; omega
            · go_simp
              refine hK.out _ _ ⟨K1.out, trivial⟩ (fun hHeld => ?_)
              clear hK K
              try simp only [Act.put, List.setIfInBounds_toArray, List.set_cons_zero, List.set_cons_succ]
              refine wpAnyH_ready (rs := [7]) (by kernel_rfl) (by simp) ?_
              refine AllReadyH.cons (o := _) rfl (fun K hK => ?_) AllReadyH.nil
              go_simp
              refine hK.out _ _ ⟨K1.out, trivial⟩ (fun hHeld => ?_)
              clear hK K
              try simp only [Act.put, List.setIfInBounds_toArray, List.set_cons_zero, List.set_cons_succ]
              refine wpAnyH_ready (rs := [10]) (by kernel_rfl) (by simp) ?_
              refine AllReadyH.cons (o := _) rfl (fun K hK => ?_) AllReadyH.nil
              (refine step_appU1 (by rfl) (.tmp 58) (.tmp 60) (by rfl) (w.heap.size + 2) (.slice v1 s.length v3) s x w3.heap.size (by rfl) (by rfl) HOX.out HRX.out HSX.out HBSX.out ?_; intro g cap w4 ho hg hat; have f1 := hg.cell K1.out HNB.out; have f2 := hg.cell D1.out HNG.out; have f3 := (hg.frozen_far ⟨G, k, none⟩ (Nat.lt_of_lt_of_le hGl HXS.out) HNG.out).trans D2.out; have hgl4 := World.block_lt_of_cell? _ _ f2; have hbl4 := World.block_lt_of_cell? _ _ f1; have HBX4 := Lib.hid ((HS6.out.box.below HX3.out).grown hg HNB.out); have HQ4 := Lib.hid (HS6.out.own.app (v := ⟨v1, s.length, v3⟩) HCL.out HV.out HSS.out HX3.out ho hg hat); have HB4 := Lib.hid ((HX3.out.mono HS6.out.sz).grown hg HBSX.out HLX.out); clear ho hg hat)
              refine hK.out _ _ ⟨f1, trivial⟩ (fun hHeld => ?_)
              clear hK K
              try simp only [Act.put, List.setIfInBounds_toArray, List.set_cons_zero, List.set_cons_succ]
              refine wpAnyH_take (i := 11) (oi := _) (v := ?_) rfl (by kernel_rfl) (by kernel_rfl) (by kernel_rfl) (fun _ _ _ h => h) (Or.inl ⟨by rfl, ?_⟩) (by assumption) ?_
              rotate_left
              · intro w hSw
                try dsimp only at hSw
                obtain ⟨hS1, hS2⟩ := hSw
                go_simp
                all_goals with_reducible rfl
              try simp only [Act.put, List.setIfInBounds_toArray, List.set_cons_zero, List.set_cons_succ]
              refine wpAnyH_ready (rs := [12]) (by kernel_rfl) (by simp) ?_
              refine AllReadyH.cons (o := _) rfl (fun K hK => ?_) AllReadyH.nil
              go_simp
              refine hK.out _ _ ⟨(World.cell?_setCell_other (h := n1) ..).trans f1, trivial⟩ (fun hHeld => ?_)
              clear hK K
              try simp only [Act.put, List.setIfInBounds_toArray, List.set_cons_zero, List.set_cons_succ]
              refine wpAnyH_done (by kernel_rfl) ?_ _
              go_wp2
              go_roundw
              case rel =>
                refine ⟨i + 1, us.set k ⟨some ⟨g, 0, none⟩, s.length + 1, cap⟩, appAt cur k x, by go_num, by omega, ?_, HEQ.out.trans (pushGo_go HX.out HE.out)⟩
                rw [HAP.out]
                exact HS6.out.next HQ4.out (by rw [List.length_set]; exact HCL.out) (by rw [← HAP.out, HMA.out]; have := HLL.out; omega) (HBX4.out.set_ne hGb _) (HB4.out.setCell HGB.out _)
              case measure => simp [intOf]; omega
        · obtain rfl : i = ds.length := by omega
          have EP : Hid (pushP l k ds = (cur, 0)) := HEQ.out.trans pushGo_end
          have kb := HST.out.box.var
          unfold VarG at kb
          have hblt := World.block_lt_of_cell? _ _ kb
          have t2 := HST.out.res
          have t3 := HST.out.rfr
          have e5 := World.cell?_setCell_same _ _ (.slice A2 l.length c2) t2
          go_wp2
          refine bodyPost_ret (v := .tuple #[.agg #[.slice A2 l.length c2], .int .i64 0]) (by simp [results, Try.results11, go_sem, e5]) rfl ?_
          rw [EP.out]
          exact ⟨_, rfl, ⟨us, (HST.out.own.set_lo (by simp) _).mono (by omega)⟩, HST.out.below.setCell (by simp) _⟩
    · have EP : Hid (pushP l k ds = (l, 11)) := by show _ = _; unfold pushP; rw [if_pos HOK.out, if_neg hkr]
      have hk2 : k < 0 ∨ (¬ k < 0 ∧ (l.length : Int) ≤ k) := by omega
      clear hkr
      have e5 := World.cell?_setCell_same _ _ (.slice A2 l.length c2) k2
      rcases hk2 with hk2 | ⟨hk2, hk3⟩
      all_goals
        go_wp2
        refine bodyPost_ret (v := .tuple #[.agg #[.slice A2 l.length c2], .int .i64 11]) (by simp [results, Try.results11, go_sem, e5]) rfl ?_
        rw [EP.out]
        exact ⟨_, rfl, ⟨vs2, (HST.out.own.set_lo (by simp) _).mono (by omega)⟩, HST.out.below.setCell (by simp) _⟩
  · have E2 := Lib.hid (chkE_no hok)
    have EP : Hid (pushP l k ds = ([], 2)) := if_neg hok
    rw [E2.out] at CC
    clear hok ha hd
    go_enter Try.func11, Try.ntmps11
    go_wp2_with (go_at_call 21; refine (CC.out _ HB0.out).mono ?_)
    rintro e w1 ⟨rfl, hb1⟩
    have r1 := cell_later hb1 F1.out
    have z1 := (hb1.frozen (p := ⟨w.heap.size + 1, 0, none⟩) (by rw [HS0.out]; show _ < _; simp)).trans Z1.out
    have hlt1 := World.block_lt_of_cell? _ _ r1
    have HB1 := Lib.hid (bthen HB0.out hb1)
    clear hb1 CC
    go_wp2
    have e5 := World.cell?_setCell_same _ _ (.slice none 0 0) r1
    refine bodyPost_ret (v := .tuple #[.agg #[.slice none 0 0], .int .i64 2]) (by simp [results, Try.results11, go_sem, e5, r1]) rfl ?_
    rw [EP.out]
    exact ⟨_, rfl, ⟨[], OwQs.nil_ _ _⟩, by first | exact HB1.out.setCell (by simp) _ | exact HB1.out⟩
end Go.Proofs.Ytinjeoohklabpaa
