/- The walk of grey's Push. -/
import Derived.Test.YtinjeoohklabpaaYC
import Derived.Test.YtinjeoohklabpaaYE
namespace Go.Proofs.Ytinjeoohklabpaa
open Go.RowKit
set_option linter.unusedVariables false
set_option linter.unusedSimpArgs false

set_option maxRecDepth 100000 in
set_option maxHeartbeats 16000000 in
theorem pushG (A : Option Addr) (c : Nat) (vs : List QV) (l : List (List Int)) (k : Int) (B : Option Addr) (d : Nat) (ds : List Int) (w : World) (ha : RdQ w A vs l) (hw : WdQ l) (hd : RdU w B ds) :
    Calls Try.prog 10 #[.agg #[.slice A l.length c], .int .i64 k, .slice B ds.length d] w (RetGE (pushP l k ds).1 (pushP l k ds).2 w) := by
  have hl := ha.len
  have hdl := hd.len
  have HB0 := Lib.hid (balloc (balloc (Below.refl w.heap.size w) (.cells #[.slice A l.length c] 24)) (.cells #[.slice none 0 0] 24))
  have F0 : Hid (((w.alloc (.cells #[.slice A l.length c] 24)).alloc (.cells #[.slice none 0 0] 24)).cell? ⟨w.heap.size, 0, none⟩ = some (.slice A l.length c)) := by show _ = _; go_simp
  have F1 : Hid (((w.alloc (.cells #[.slice A l.length c] 24)).alloc (.cells #[.slice none 0 0] 24)).cell? ⟨w.heap.size + 1, 0, none⟩ = some (.slice none 0 0)) := by show _ = _; go_simp
  have Z1 : Hid (((w.alloc (.cells #[.slice A l.length c] 24)).alloc (.cells #[.slice none 0 0] 24)).frozen? ⟨w.heap.size + 1, 0, none⟩ = false) := by show _ = _; go_simp
  have HS0 : Hid (((w.alloc (.cells #[.slice A l.length c] 24)).alloc (.cells #[.slice none 0 0] 24)).heap.size = w.heap.size + 2) := by show _ = _; simp
  have CC : Hid (∀ W, Below w.heap.size w W → Calls Try.prog 20 #[.agg #[.slice A l.length c]] W (Ret (.int .i64 (chkE l)) W)) := fun W hW => checkG A c vs l W (ha.below hW) hw
  have HD := Lib.hid hd
  by_cases hok : okQ l
  · have CP : Hid (∀ W, Below w.heap.size w W → Calls Try.prog 23 #[.agg #[.slice A l.length c]] W (RetG l W)) := fun W hW => ownG A c vs l W (ha.below hW) (small_of hok.1)
    have HOK := Lib.hid hok
    have E2 := Lib.hid (chkE_ok hok)
    rw [E2.out] at CC
    clear hok ha hd hw
    go_enter Try.func10, Try.ntmps10
    go_wp2_with (go_at_call 20; refine (CC.out _ HB0.out).mono ?_)
    rintro e w1 ⟨rfl, hb1⟩
    have f1 := cell_later hb1 F0.out
    have r1 := cell_later hb1 F1.out
    have z1 := (hb1.frozen (p := ⟨w.heap.size + 1, 0, none⟩) (by rw [HS0.out]; show _ < _; simp)).trans Z1.out
    have hs1 : w.heap.size + 2 ≤ w1.heap.size := by have := hb1.size; rw [HS0.out] at this; exact this
    have HB1 := Lib.hid (bthen HB0.out hb1)
    clear hb1 F0 F1 Z1 HS0 CC HB0
    go_wp2_with (go_at_call 23; refine (CP.out _ HB1.out).mono ?_)
    rintro e w2 ⟨v2, rfl, ⟨vs2, hq2⟩, hb2⟩
    obtain ⟨A2, c2, rfl, _, _⟩ := hq2.shape
    have hb3 : Below w1.heap.size w1 (w2.alloc (.cells #[.slice A2 l.length c2] 48)) := balloc hb2 _
    have hq3 := ((hq2.below (balloc (Below.refl _ _) (.cells #[.slice A2 l.length c2] 48))).mono hs1)
    have hs2 := hb2.size
    have HST : Hid (StP w (w2.alloc (.cells #[.slice A2 l.length c2] 48)) 48 w2.heap.size A l.length c A2 c2 vs2 l) :=
      ⟨hq3, rfl, HOK.out.1.2.2, heap_alloc_new w2 _, bthen HB1.out hb3, by have := hb3.size; omega, cell_later hb3 f1, cell_later hb3 r1, (hb3.frozen (p := ⟨w.heap.size + 1, 0, none⟩) (World.block_lt_of_cell? _ _ r1)).trans z1⟩
    have kb := HST.out.box.var
    unfold VarG at kb
    have k1 := HST.out.src
    have k2 := HST.out.res
    have k3 := HST.out.rfr
    clear hb2 hq2 hq3 hb3 hs1 hs2 f1 r1 z1
    go_upto_region 5 with fail
    generalize (w2.alloc (.cells #[.slice A2 l.length c2] 48)) = w3 at *
    generalize w2.heap.size = b at *
    have hlt2 := World.block_lt_of_cell? _ _ k1
    have hlt3 := World.block_lt_of_cell? _ _ k2
    have hlt4 := World.block_lt_of_cell? _ _ kb
    by_cases hkr : 0 ≤ k ∧ k < (l.length : Int)
    · obtain ⟨k, rfl⟩ := Int.eq_ofNat_of_zero_le hkr.1
      have hkl : k < l.length := by omega
      have hk1 : (k : Int) < (l.length : Int) := by omega
      have hk0 : ¬ (k : Int) < 0 := by omega
      have HEQ0 : Hid (pushP l k ds = pushGo l l k (ds.drop 0)) := by show _ = _; unfold pushP; rw [if_pos HOK.out, if_pos hkr]; rfl
      clear hkr
      go_wp2
      clear kb k1 k2 k3 hlt2 hlt3 hlt4
      go_loopw [41] (fun i wr => ∃ (i' : Nat) (us : List QV) (cur : List (List Int)), i = .int .i64 i' ∧ i' ≤ ds.length ∧ Hid (StP w wr 48 b A l.length c A2 c2 us cur) ∧ Hid (pushP l k ds = pushGo l cur k (ds.drop i'))) (fun i _ => ds.length - (intOf i).toNat)
      case atStart => exact ⟨0, vs2, l, rfl, Nat.zero_le _, HST.out, HEQ0.out⟩
      case round =>
        clear HST HEQ0
        obtain ⟨i, us, cur, rfl, hi, HST, HEQ⟩ := hrel
        by_cases hlt : i < ds.length
        · have hx : ds[i]? = some ds[i] := List.getElem?_eq_getElem hlt
          generalize ds[i] = x at hx
          obtain ⟨b9, o9, e9, _, d0⟩ := HD.out.at_ hx
          subst e9
          have d0 := cell_later HST.out.below d0
          have HX := Lib.hid hx
          have hcl := HST.out.len
          have CPut : Hid (Calls Try.prog 24 #[.pointer (some ⟨b, 0, none⟩), .int .i64 k, .int .u64 x] wr (PutP (w.heap.size + 2) b A2 c2 cur k x wr)) :=
            putC A2 b c2 k (w.heap.size + 2) us cur x wr (by rw [hcl]; exact HST.out.own) (by rw [hcl]; exact HST.out.box) (by omega) HST.out.many HST.out.sz
          have HCL := Lib.hid hcl
          clear hx hcl
          go_wp2_with (go_at_call 24; refine CPut.out.mono ?_)
          rintro e w4 ⟨vs4, rfl, hq4, hbx4, hb4⟩
          rw [HCL.out] at hq4 hbx4
          by_cases he : putE cur x = 0
          · have EQ : putQ cur k x = appAt cur k x := by unfold putQ; rw [if_pos he]
            rw [EQ] at hq4
            have hm4 : manyN (appAt cur k x) ≤ 16384 := by rw [many_appAt (by rw [HCL.out]; exact hkl)]; have := putE_many he HST.out.many; omega
            have HS4 := Lib.hid (HST.out.next hq4 (by rw [appAt_len]; exact HCL.out) hm4 hbx4 hb4)
            have HE := Lib.hid he
            rw [he]
            clear hq4 hbx4 hb4 EQ hm4 he d0 CPut
            go_wp2
            go_roundw
            case rel => exact ⟨i + 1, vs4, appAt cur k x, by go_num, by omega, HS4.out, HEQ.out.trans (pushGo_go HX.out HE.out)⟩
            case measure => simp [intOf]; omega
          · have EQ : putQ cur k x = cur := by unfold putQ; rw [if_neg he]
            rw [EQ] at hq4
            have HS4 := Lib.hid (HST.out.next hq4 HCL.out HST.out.many hbx4 hb4)
            have EP : Hid (pushP l k ds = (l, putE cur x)) := HEQ.out.trans (pushGo_stop HX.out he)
            have he1 : (putE cur x != 0) = true := by rw [bne_iff_ne]; exact he
            have t1 := HS4.out.src
            have t2 := HS4.out.res
            have t3 := HS4.out.rfr
            have t4 := World.block_lt_of_cell? _ _ t1
            have t5 := World.block_lt_of_cell? _ _ t2
            have CPX := Lib.hid (CP.out _ HS4.out.below)
            clear hq4 hbx4 hb4 EQ d0 CPut
            generalize putE cur x = pe at *
            go_wp2_with (go_at_call 23; refine CPX.out.mono ?_)
            rintro e w5 ⟨v5, rfl, ⟨vs5, hq5⟩, hb5⟩
            obtain ⟨A5, c5, rfl, _, _⟩ := hq5.shape
            have HQ5 := Lib.hid (OwQs.mono (base' := w.heap.size + 2) hq5 HS4.out.sz)
            have HB5 := Lib.hid (bthen HS4.out.below hb5)
            have r5 := cell_later hb5 t2
            have z5 := (hb5.frozen (p := ⟨w.heap.size + 1, 0, none⟩) t5).trans t3
            have hlt5 := World.block_lt_of_cell? _ _ r5
            clear hb5 hq5 t1 t2 t3 t4 t5
            have e5 := World.cell?_setCell_same _ _ (.slice A5 l.length c5) r5
            go_wp2
            refine bodyPost_ret (v := .tuple #[.agg #[.slice A5 l.length c5], .int .i64 pe]) (by simp [results, Try.results10, go_sem, e5]) rfl ?_
            rw [EP.out]
            exact ⟨_, rfl, ⟨vs5, (HQ5.out.set_lo (by simp) _).mono (by omega)⟩, HB5.out.setCell (by simp) _⟩
        · obtain rfl : i = ds.length := by omega
          have EP : Hid (pushP l k ds = (cur, 0)) := HEQ.out.trans pushGo_end
          have kb := HST.out.box.var
          unfold VarG at kb
          have hblt := World.block_lt_of_cell? _ _ kb
          have t2 := HST.out.res
          have t3 := HST.out.rfr
          have e5 := World.cell?_setCell_same _ _ (.slice A2 l.length c2) t2
          go_wp2
          refine bodyPost_ret (v := .tuple #[.agg #[.slice A2 l.length c2], .int .i64 0]) (by simp [results, Try.results10, go_sem, e5]) rfl ?_
          rw [EP.out]
          exact ⟨_, rfl, ⟨us, (HST.out.own.set_lo (by simp) _).mono (by omega)⟩, HST.out.below.setCell (by simp) _⟩
    · have EP : Hid (pushP l k ds = (l, 11)) := by show _ = _; unfold pushP; rw [if_pos HOK.out, if_neg hkr]
      have hk2 : k < 0 ∨ (¬ k < 0 ∧ (l.length : Int) ≤ k) := by omega
      clear hkr
      have e5 := World.cell?_setCell_same _ _ (.slice A2 l.length c2) k2
      rcases hk2 with hk2 | ⟨hk2, hk3⟩
      all_goals
        go_wp2
        refine bodyPost_ret (v := .tuple #[.agg #[.slice A2 l.length c2], .int .i64 11]) (by simp [results, Try.results10, go_sem, e5]) rfl ?_
        rw [EP.out]
        exact ⟨_, rfl, ⟨vs2, (HST.out.own.set_lo (by simp) _).mono (by omega)⟩, HST.out.below.setCell (by simp) _⟩
  · have E2 := Lib.hid (chkE_no hok)
    have EP : Hid (pushP l k ds = ([], 2)) := if_neg hok
    rw [E2.out] at CC
    clear hok ha hd
    go_enter Try.func10, Try.ntmps10
    go_wp2_with (go_at_call 20; refine (CC.out _ HB0.out).mono ?_)
    rintro e w1 ⟨rfl, hb1⟩
    have r1 := cell_later hb1 F1.out
    have z1 := (hb1.frozen (p := ⟨w.heap.size + 1, 0, none⟩) (by rw [HS0.out]; show _ < _; simp)).trans Z1.out
    have hlt1 := World.block_lt_of_cell? _ _ r1
    have HB1 := Lib.hid (bthen HB0.out hb1)
    clear hb1 CC
    go_wp2
    have e5 := World.cell?_setCell_same _ _ (.slice none 0 0) r1
    refine bodyPost_ret (v := .tuple #[.agg #[.slice none 0 0], .int .i64 2]) (by simp [results, Try.results10, go_sem, e5, r1]) rfl ?_
    rw [EP.out]
    exact ⟨_, rfl, ⟨[], OwQs.nil_ _ _⟩, by first | exact HB1.out.setCell (by simp) _ | exact HB1.out⟩
end Go.Proofs.Ytinjeoohklabpaa
