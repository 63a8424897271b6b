/- The heap of the law's own question: what is wrong with it. -/
import Derived.Test.YtieijfefnedifaaGreatDoorMVW
import Derived.Test.YtieijfefnedifaaGreatDoorMDFDH
namespace Go.Proofs.YtieijfefnedifaaGreatDoor
open Go.RowKit
set_option linter.unusedVariables false
set_option linter.unusedSimpArgs false

def hA : HeapB := ⟨List.replicate 48 0, ⟨3, [1]⟩, []⟩
def sB : SpanB := ⟨1, 1, 2, ⟨8, [0]⟩, ⟨8, [0]⟩, true⟩
theorem makeH3 : makeH 3 = hA ∧ makeHE 3 = 0 := by decide +kernel
theorem hA_ok : heapP hA = true := by decide +kernel
theorem room0 : (roomP hA.sp (sizeP 1)).e ≠ 0 := by decide +kernel
theorem grow0 : growOk hA (sizeP 1) (pageP 1) := by unfold growOk; decide +kernel
def gA : HeapB := growH hA (sizeP 1) (pageP 1)
theorem idx0 : idxL (addL hA.sp (growS hA (sizeP 1) (pageP 1))) (runI hA.us (pageP 1)) = ((0 : Nat) : Int) := by decide +kernel
def sA0 : SpanB := (gA.sp[0]?).getD sB
theorem gA_at : gA.sp[0]? = some sA0 := by decide +kernel
theorem gA_right : rightP sA0 = true := by decide +kernel
theorem gA_slot : ((0 : Nat) : Int) < sA0.al.n := by decide +kernel
theorem gA_fit : (⟨0, sA0, 0⟩ : Cand).a < gA.ar.length ∧ gA.ar.length ≤ 16384 ∧ (⟨0, sA0, 0⟩ : Cand).a = 16 := by decide +kernel
theorem gA_words : (∀ x ∈ gA.ar, 0 ≤ x ∧ x < 18446744073709551616) ∧ (∀ x ∈ gA.us.w, 0 ≤ x ∧ x < 18446744073709551616) ∧ (∀ s ∈ gA.sp, (∀ x ∈ s.al.w, 0 ≤ x ∧ x < 18446744073709551616) ∧ (∀ x ∈ s.ma.w, 0 ≤ x ∧ x < 18446744073709551616)) := by decide +kernel
theorem gA_nums : (-9223372036854775808 ≤ gA.us.n ∧ gA.us.n ≤ 9223372036854775807) ∧ ∀ s ∈ gA.sp, (-9223372036854775808 ≤ s.al.n ∧ s.al.n ≤ 9223372036854775807) ∧ (-9223372036854775808 ≤ s.ma.n ∧ s.ma.n ≤ 9223372036854775807) ∧ (-9223372036854775808 ≤ s.first ∧ s.first ≤ 9223372036854775807) ∧ (-9223372036854775808 ≤ s.pages ∧ s.pages ≤ 9223372036854775807) ∧ (-9223372036854775808 ≤ s.size ∧ s.size ≤ 9223372036854775807) := by decide +kernel
theorem gA_wf : WfH gA := ⟨gA_words.1, gA_nums.1.1, gA_nums.1.2, gA_words.2.1, fun s hs => ⟨⟨(gA_nums.2 s hs).1.1, (gA_nums.2 s hs).1.2, (gA_words.2.2 s hs).1⟩, ⟨(gA_nums.2 s hs).2.1.1, (gA_nums.2 s hs).2.1.2, (gA_words.2.2 s hs).2⟩, (gA_nums.2 s hs).2.2.1, (gA_nums.2 s hs).2.2.2.1, (gA_nums.2 s hs).2.2.2.2⟩⟩
theorem gA_put : PutFit gA 0 0 sA0 := ⟨gA_at, gA_right, gA_slot, gA_fit.1, gA_fit.2.1, by omega, gA_wf⟩
def hB : HeapB := putH gA 0 0 sA0 1 1 false
def hC : HeapB := { hB with ar := (hB.ar.set 17 18).set 40 7 }
theorem hB_ok : faultsP hB = [] := by decide +kernel
theorem hC_faults : faultsP hC = [⟨5, 17⟩, ⟨6, 40⟩] := by decide +kernel
theorem hD_faults : faultsP (mendS hC) = [] := by decide +kernel
theorem hD_ok : chkH (mendS hC) = 0 := by decide +kernel
theorem hC_geo : frameOk hC = true ∧ spanF hC = [] := by decide +kernel
theorem hC_mends {g : HeapB} {n : Nat} (h : Mends hC g n) : g = mendS hC ∧ n = 2 := by
  cases h with
  | done he => rw [hC_faults] at he; cases he
  | step _ h2 =>
    rw [hC_faults]
    cases h2 with
    | done _ => exact ⟨rfl, rfl⟩
    | step hn _ => exact absurd hD_faults hn
theorem hB_len : hB.ar.length = 48 := by decide +kernel
theorem hB_words : (∀ x ∈ hB.ar, 0 ≤ x ∧ x < 18446744073709551616) ∧ (∀ x ∈ hB.us.w, 0 ≤ x ∧ x < 18446744073709551616) ∧ (∀ s ∈ hB.sp, (∀ x ∈ s.al.w, 0 ≤ x ∧ x < 18446744073709551616) ∧ (∀ x ∈ s.ma.w, 0 ≤ x ∧ x < 18446744073709551616)) := by decide +kernel
theorem hB_nums : (-9223372036854775808 ≤ hB.us.n ∧ hB.us.n ≤ 9223372036854775807) ∧ ∀ s ∈ hB.sp, (-9223372036854775808 ≤ s.al.n ∧ s.al.n ≤ 9223372036854775807) ∧ (-9223372036854775808 ≤ s.ma.n ∧ s.ma.n ≤ 9223372036854775807) ∧ (-9223372036854775808 ≤ s.first ∧ s.first ≤ 9223372036854775807) ∧ (-9223372036854775808 ≤ s.pages ∧ s.pages ≤ 9223372036854775807) ∧ (-9223372036854775808 ≤ s.size ∧ s.size ≤ 9223372036854775807) := by decide +kernel
theorem hB_wf : WfH hB := ⟨hB_words.1, hB_nums.1.1, hB_nums.1.2, hB_words.2.1, fun s hs => ⟨⟨(hB_nums.2 s hs).1.1, (hB_nums.2 s hs).1.2, (hB_words.2.2 s hs).1⟩, ⟨(hB_nums.2 s hs).2.1.1, (hB_nums.2 s hs).2.1.2, (hB_words.2.2 s hs).2⟩, (hB_nums.2 s hs).2.2.1, (hB_nums.2 s hs).2.2.2.1, (hB_nums.2 s hs).2.2.2.2⟩⟩
theorem WfH.word {h : HeapB} (w : WfH h) (k : Nat) (x : Int) (hx : 0 ≤ x ∧ x < 18446744073709551616) : WfH { h with ar := h.ar.set k x } :=
  ⟨Words.set w.ar k x hx, w.lo, w.hi, w.us, w.sp⟩
theorem hC_wf : WfH hC := (hB_wf.word 17 18 (by omega)).word 40 7 (by omega)
theorem zero_wf : WfH zeroH := ⟨fun x hx => by simp [zeroH] at hx, by decide, by decide, fun x hx => by simp [zeroH] at hx, fun s hs => by simp [zeroH] at hs⟩
theorem zero_worst : worstP (faultsP zeroH) = 1 := by decide +kernel
end Go.Proofs.YtieijfefnedifaaGreatDoor

/- The walk of lives. -/
namespace Go.Proofs.YtieijfefnedifaaGreatDoor
open Go.RowKit
set_option linter.unusedVariables false
set_option linter.unusedSimpArgs false

theorem ownH_word {w : World} {base g k : Nat} {v : HeapV} {h : HeapB} {x : Int} (o : OwnH w base v h) (hg : v.aA = some ⟨g, 0, none⟩) : OwnH (w.setCell ⟨g, k, none⟩ (.int .u64 x)) base v { h with ar := h.ar.set k x } := by
  have hn := o.n
  refine o.arena (l := h.ar.set k x) hg (gset (World.grownBy.refl _ _) _ _) (by rw [List.length_set]) ?_
  have ho := o.ar
  rw [hg] at ho ⊢
  have e : us (h.ar.set k x) = (us h.ar).set k (.int .u64 x) := by simp [us, List.map_set]
  unfold OwU at ho ⊢
  rw [List.length_set, e]
  rw [hn] at ho ⊢
  exact own_setCell ho _
theorem ownH_arcell {w : World} {base g k : Nat} {v : HeapV} {h : HeapB} (o : OwnH w base v h) (hg : v.aA = some ⟨g, 0, none⟩) (hk : k < h.ar.length) : ∃ y : Int, w.cell? ⟨g, k, none⟩ = some (.int .u64 y) ∧ w.frozen? ⟨g, k, none⟩ = false := by
  have hou := o.ar
  rw [hg] at hou
  unfold OwU at hou
  rw [show h.ar.length = v.aN from o.n.symm] at hou
  exact ⟨_, own_cell hou (show (us h.ar)[k]? = some (.int .u64 h.ar[k]) by unfold us; rw [List.getElem?_map, List.getElem?_eq_getElem hk]; rfl)⟩
theorem hA_words : (∀ x ∈ hA.ar, 0 ≤ x ∧ x < 18446744073709551616) ∧ (∀ x ∈ hA.us.w, 0 ≤ x ∧ x < 18446744073709551616) := by decide +kernel
theorem hA_wf : WfH hA := ⟨hA_words.1, by decide, by decide, hA_words.2, fun s hs => by simp [hA] at hs⟩
theorem zero_rd (W : World) : RdH W ⟨none, 0, 0, ⟨0, none, 0, 0⟩, none, 0, 0, []⟩ zeroH := (OwnH.zero W 0).rd zero_wf
theorem kinds_made (W : World) : RdK (W.alloc (.cells #[.int .u8 6, .int .u8 4] 37)) (some ⟨W.heap.size, 0, none⟩) [6, 4] := by
  refine ⟨rfl, by simp, fun _ => ⟨W.heap.size, 0, rfl, by simp, fun j u hu => ?_⟩⟩
  have hj : j < 2 := by
    have := (List.getElem?_eq_some_iff.1 hu).1
    simpa [kcs] using this
  have hc : j = 0 ∨ j = 1 := by omega
  rcases hc with rfl | rfl <;> (simp [kcs] at hu; subst hu; go_simp)
set_option maxRecDepth 100000 in
set_option maxHeartbeats 16000000 in
theorem lives7 (w : World) (hT : Tab w) : Calls Tryz.prog 7 #[] w (Ret (.bool true) w) := by
  have HT := Lib.hid hT
  have CM : Hid (Calls Tryz.prog 15 #[.int .i64 3] w (RetHE hA 0 w)) := by
    have := hmake15 3 w hT
    rwa [makeH3.1, makeH3.2] at this
  clear hT
  go_enter Tryz.func7, Tryz.ntmps7
  go_wp2_with (go_at_call 15; refine CM.out.mono ?_)
  rintro e w1 ⟨v1, rfl, ho1, hb1⟩
  have HR1 : Hid (RdH w1 v1 hA) := ho1.rd hA_wf
  have HB1 := Lib.hid hb1
  clear ho1 hb1 CM
  unfold HeapV.v
  go_upto_region 2 with fail
  have ba := balloc (Below.refl w1.heap.size w1) (.cells #[.slice v1.aA v1.aN v1.aC, .int .i64 v1.us.n, .slice v1.us.A v1.us.m v1.us.c, .slice v1.sA v1.sN v1.sC] 31)
  have HV1 := Lib.hid (VarH.made w1 v1)
  have HR2 := Lib.hid (HR1.out.below ba)
  have HB2 := Lib.hid (bthen HB1.out ba)
  have HPL : Hid (w.heap.size ≤ w1.heap.size) := HB1.out.size
  generalize hWA : w1.alloc (.cells #[.slice v1.aA v1.aN v1.aC, .int .i64 v1.us.n, .slice v1.us.A v1.us.m v1.us.c, .slice v1.sA v1.sN v1.sC] 31) = W1 at *
  generalize hpp : w1.heap.size = p at *
  clear hWA hpp ba HR1 HB1
  have CN := Lib.hid (new_grown v1 hA 1 1 false 0 sA0 W1 HR2.out (HT.out.below HB2.out) hA_ok (by decide +kernel) (by omega) room0 grow0 idx0 gA_put)
  rw [gA_fit.2.2] at CN
  have HCN : Hid (Calls Tryz.prog 16 #[v1.v, .agg #[.int .i64 1, .int .u64 1], .bool false] W1 (RetHNE hB 16 0 W1)) := CN.out
  clear CN
  unfold HeapV.v at HCN
  obtain ⟨t0, t1, t2, t3, tf⟩ := HV1.out
  go_wp2_with (go_at_call 16; refine HCN.out.mono ?_)
  rintro e w2 ⟨v2, rfl, ho2, hb2⟩
  unfold HeapV.v
  clear t0 t1 t2 t3 tf HCN
  have HV2 := Lib.hid (HV1.out.below hb2 HV1.out.lt)
  have HO2 := Lib.hid ho2
  have HB3 := Lib.hid (bthen HB2.out hb2)
  have HPW : Hid (p < W1.heap.size) := HV1.out.lt
  clear ho2 hb2 HV1 HB2
  obtain ⟨t0, t1, t2, t3, tf⟩ := HV2.out
  have tl := HV2.out.lt
  go_upto_region 3 with fail
  have HV3 := Lib.hid (HV2.out.put v2)
  have HO3 : Hid (OwnH ((((w2.setCell ⟨p, 0, none⟩ (.slice v2.aA v2.aN v2.aC)).setCell ⟨p, 1, none⟩ (.int .i64 v2.us.n)).setCell ⟨p, 2, none⟩ (.slice v2.us.A v2.us.m v2.us.c)).setCell ⟨p, 3, none⟩ (.slice v2.sA v2.sN v2.sC)) W1.heap.size v2 hB) := by
    have := HPW.out
    repeat (refine OwnH.set_lo ?_ (by simpa using this) _)
    exact HO2.out
  have HB4 : Hid (Below w.heap.size w ((((w2.setCell ⟨p, 0, none⟩ (.slice v2.aA v2.aN v2.aC)).setCell ⟨p, 1, none⟩ (.int .i64 v2.us.n)).setCell ⟨p, 2, none⟩ (.slice v2.us.A v2.us.m v2.us.c)).setCell ⟨p, 3, none⟩ (.slice v2.sA v2.sN v2.sC))) := by
    have := HPL.out
    repeat (refine Below.setCell ?_ (by simpa using this) _)
    exact HB3.out
  clear t0 t1 t2 t3 tf tl HV2 HO2 HB3
  generalize (((w2.setCell ⟨p, 0, none⟩ (.slice v2.aA v2.aN v2.aC)).setCell ⟨p, 1, none⟩ (.int .i64 v2.us.n)).setCell ⟨p, 2, none⟩ (.slice v2.us.A v2.us.m v2.us.c)).setCell ⟨p, 3, none⟩ (.slice v2.sA v2.sN v2.sC) = W3 at *
  generalize W1.heap.size = base at *
  clear HR2
  obtain ⟨t0, t1, t2, t3, tf⟩ := HV3.out
  clear tf
  have CF := Lib.hid (faults8 v2 hB W3 (HO3.out.rd hB_wf))
  rw [hB_ok] at CF
  unfold HeapV.v at CF
  go_wp2_with (go_at_call 8; refine CF.out.mono ?_)
  rintro e w4 ⟨A4, c4, rfl, -, hb4⟩
  simp only [List.length_nil]
  have HV4 := Lib.hid (HV3.out.below hb4 HV3.out.lt)
  have HO4 := Lib.hid (HO3.out.below hb4)
  have HB5 := Lib.hid (bthen HB4.out hb4)
  clear t0 t1 t2 t3 CF hb4 HV3 HO3 HB4
  obtain ⟨ga, hga⟩ : ∃ g, v2.aA = some ⟨g, 0, none⟩ := by
    have h1 := HO4.out.ar
    unfold OwU at h1
    rw [show hB.ar.length = v2.aN from HO4.out.n.symm] at h1
    exact own_some h1 (by rw [HO4.out.n, hB_len]; omega)
  have HGA := Lib.hid hga
  have hgp : ga ≠ p := fun e => by
    have h1 := HO4.out.ar
    rw [hga] at h1
    have h2 := (World.ownsRow.lt h1 ga rfl).1
    have := HPW.out
    omega
  have t0 := HV4.out.c0
  rw [hga] at t0
  have hlen : v2.aN = 48 := by rw [HO4.out.n, hB_len]
  rw [hlen] at t0
  obtain ⟨y, cy, fy⟩ := ownH_arcell HO4.out hga (k := 17) (by rw [hB_len]; omega)
  have ly := World.block_lt_of_cell? _ _ cy
  have HLN := Lib.hid hlen
  clear hga hlen
  go_upto_region 7 with fail
  have HV5 := Lib.hid (HV4.out.at_ (w1 := w4.setCell ⟨ga, 17, none⟩ (.int .u64 18)) (Below.heap_setCell _ _ _ _ (by simpa using fun e => hgp e.symm)))
  have HO5 := Lib.hid (ownH_word HO4.out (k := 17) (x := 18) HGA.out)
  have hgw : w.heap.size ≤ ga := by
    have h1 := HO4.out.ar
    rw [HGA.out] at h1
    have h2 := (World.ownsRow.lt h1 ga rfl).1
    have := HPW.out
    have := HPL.out
    omega
  have HGW := Lib.hid hgw
  have HB6 := Lib.hid (HB5.out.setCell (p := ⟨ga, 17, none⟩) hgw (.int .u64 18))
  clear t0 cy fy ly HV4 HO4 HB5 hgw
  generalize w4.setCell ⟨ga, 17, none⟩ (.int .u64 18) = W5 at *
  have t0 := HV5.out.c0
  rw [HGA.out, HLN.out] at t0
  obtain ⟨y2, cy, fy⟩ := ownH_arcell HO5.out HGA.out (k := 40) (by show 40 < (List.set _ _ _).length; rw [List.length_set, hB_len]; omega)
  have ly := World.block_lt_of_cell? _ _ cy
  go_upto_region 8 with fail
  have HV6 := Lib.hid (HV5.out.at_ (w1 := W5.setCell ⟨ga, 40, none⟩ (.int .u64 7)) (Below.heap_setCell _ _ _ _ (by simpa using fun e => hgp e.symm)))
  have HO6 : Hid (OwnH (W5.setCell ⟨ga, 40, none⟩ (.int .u64 7)) base v2 hC) := ownH_word HO5.out (k := 40) (x := 7) HGA.out
  have HB7 := Lib.hid (HB6.out.setCell (p := ⟨ga, 40, none⟩) HGW.out (.int .u64 7))
  clear t0 cy fy ly HV5 HO5 HB6 hgp HGW HGA HLN
  generalize W5.setCell ⟨ga, 40, none⟩ (.int .u64 7) = W6 at *
  obtain ⟨t0, t1, t2, t3, tf⟩ := HV6.out
  clear tf
  have CF := Lib.hid (faults8 v2 hC W6 (HO6.out.rd hC_wf))
  rw [hC_faults] at CF
  unfold HeapV.v at CF
  go_wp2_with (go_at_call 8; refine CF.out.mono ?_)
  rintro e w7 ⟨A7, c7, rfl, hf7, hb7⟩
  simp only [List.length_cons, List.length_nil, Nat.zero_add, Nat.reduceAdd]
  have HF7 := Lib.hid hf7
  have HV7 := Lib.hid (HV6.out.below hb7 HV6.out.lt)
  have HO7 := Lib.hid (HO6.out.below hb7)
  have HB8 := Lib.hid (bthen HB7.out hb7)
  clear t0 t1 t2 t3 CF hb7 hf7 HV6 HO6 HB7
  obtain ⟨t0, t1, t2, t3, tf⟩ := HV7.out
  clear tf
  have CE := Lib.hid (mendOk v2 hC w7 (HO7.out.rd hC_wf) (geo_iff.2 hC_geo))
  unfold HeapV.v at CE
  go_wp2_with (go_at_call 11; refine CE.out.mono ?_)
  rintro e w8 ⟨v8, g8, n8, rfl, hm8, ho8, hwf8, hb8⟩
  obtain ⟨rfl, rfl⟩ := hC_mends hm8
  unfold HeapV.v
  clear t0 t1 t2 t3 CE hm8
  have HV8 := Lib.hid (HV7.out.below hb8 HV7.out.lt)
  have HO8 := Lib.hid (HO7.out.below hb8)
  have HF8 := Lib.hid (HF7.out.below hb8)
  have HB9 := Lib.hid (bthen HB8.out hb8)
  have HG8 := Lib.hid ho8
  have HWF8 := Lib.hid hwf8
  clear ho8 hwf8 hb8 HV7 HO7 HF7 HB8
  go_upto_region 10 with fail
  have ba := balloc (Below.refl w8.heap.size w8) (.cells #[.slice v8.aA v8.aN v8.aC, .int .i64 v8.us.n, .slice v8.us.A v8.us.m v8.us.c, .slice v8.sA v8.sN v8.sC] 31)
  have HQ9 := Lib.hid (VarH.made w8 v8)
  have HV9 := Lib.hid (HV8.out.below ba HV8.out.lt)
  have HO9 := Lib.hid (HO8.out.below ba)
  have HG9 := Lib.hid (HG8.out.below ba)
  have HF9 := Lib.hid (HF8.out.below ba)
  have HBA := Lib.hid (bthen HB9.out ba)
  generalize hWA : w8.alloc (.cells #[.slice v8.aA v8.aN v8.aC, .int .i64 v8.us.n, .slice v8.us.A v8.us.m v8.us.c, .slice v8.sA v8.sN v8.sC] 31) = W9 at *
  generalize hqq : w8.heap.size = q at *
  clear hWA hqq ba HV8 HO8 HG8 HF8 HB9
  obtain ⟨t0, t1, t2, t3, tf⟩ := HV9.out
  clear tf
  obtain ⟨bk, oo, hA7, -, f0, f1⟩ := (HF9.out.rd rfl).at_ (show ([⟨5, 17⟩, ⟨6, 40⟩] : List Flt)[0]? = some ⟨5, 17⟩ from rfl)
  obtain ⟨bk2, oo2, hA8, -, f2, f3⟩ := (HF9.out.rd rfl).at_ (show ([⟨5, 17⟩, ⟨6, 40⟩] : List Flt)[1]? = some ⟨6, 40⟩ from rfl)
  subst hA7
  simp only [Option.some.injEq, Addr.mk.injEq, and_true] at hA8
  obtain ⟨rfl, rfl⟩ := hA8
  simp only [Nat.zero_mul, Nat.add_zero, Nat.one_mul] at f0 f1 f2 f3
  replace f0 : W9.cell? ⟨bk, oo, none⟩ = some (.int .u8 5) := f0
  replace f1 : W9.cell? ⟨bk, oo + 1, none⟩ = some (.int .u64 17) := f1
  replace f2 : W9.cell? ⟨bk, oo + 2, none⟩ = some (.int .u8 6) := f2
  replace f3 : W9.cell? ⟨bk, oo + 2 + 1, none⟩ = some (.int .u64 40) := f3
  have bc := balloc (Below.refl W9.heap.size W9) (.cells #[.int .u8 6, .int .u8 4] 37)
  have HBC := Lib.hid bc
  have CC := Lib.hid (count13 v2 hC [6, 4] (some ⟨W9.heap.size, 0, none⟩) 2 (W9.alloc (.cells #[.int .u8 6, .int .u8 4] 37)) ((HO9.out.rd hC_wf).below bc) (kinds_made W9))
  rw [hC_faults] at CC
  rw [show cntP [6, 4] ([⟨5, 17⟩, ⟨6, 40⟩] : List Flt) = 1 by decide] at CC
  unfold HeapV.v at CC
  simp only [List.length_cons, List.length_nil, Nat.zero_add, Nat.reduceAdd] at CC
  clear bc HF9
  go_wp2_with (go_at_call 13; refine CC.out.mono ?_)
  rintro e w10 ⟨rfl, hb10⟩
  have HB10 := Lib.hid (bthen HBC.out hb10)
  clear t0 t1 t2 t3 f0 f1 f2 f3 hb10 HBC CC
  have HV10 := Lib.hid (HV9.out.below HB10.out HV9.out.lt)
  have HQ10 := Lib.hid (HQ9.out.below HB10.out HQ9.out.lt)
  have HO10 := Lib.hid (HO9.out.below HB10.out)
  have HG10 := Lib.hid (HG9.out.below HB10.out)
  have HBD := Lib.hid (bthen HBA.out HB10.out)
  clear HV9 HQ9 HO9 HG9 HBA HB10
  obtain ⟨t0, t1, t2, t3, tf⟩ := HV10.out
  clear tf
  have CW := Lib.hid (worst10 v2 hC w10 (HO10.out.rd hC_wf))
  rw [hC_faults] at CW
  rw [show worstP ([⟨5, 17⟩, ⟨6, 40⟩] : List Flt) = 5 from rfl] at CW
  unfold HeapV.v at CW
  go_wp2_with (go_at_call 10; refine CW.out.mono ?_)
  rintro e w11 ⟨rfl, hb11⟩
  clear t0 t1 t2 t3 CW
  have HQ11 := Lib.hid (HQ10.out.below hb11 HQ10.out.lt)
  have HG11 := Lib.hid (HG10.out.below hb11)
  have HBE := Lib.hid (bthen HBD.out hb11)
  clear hb11 HV10 HQ10 HO10 HG10 HBD
  obtain ⟨t0, t1, t2, t3, tf⟩ := HQ11.out
  clear tf
  have CK := Lib.hid (hcheck9 v8 (mendS hC) w11 (HG11.out.rd HWF8.out))
  rw [hD_ok] at CK
  unfold HeapV.v at CK
  go_wp2_with (go_at_call 9; refine CK.out.mono ?_)
  rintro e w12 ⟨rfl, hb12⟩
  have HBF := Lib.hid (bthen HBE.out hb12)
  clear t0 t1 t2 t3 CK hb12 HQ11 HG11 HBE
  have CZ := Lib.hid (worst10 _ zeroH w12 (zero_rd w12))
  rw [zero_worst] at CZ
  unfold HeapV.v at CZ
  simp only at CZ
  go_wp2_with (go_at_call 10; refine CZ.out.mono ?_)
  rintro e w13 ⟨rfl, hb13⟩
  have HBG := Lib.hid (bthen HBF.out hb13)
  clear hb13 CZ HBF
  go_wp2
  go_ret
  exact ⟨rfl, HBG.out⟩
end Go.Proofs.YtieijfefnedifaaGreatDoor

/- The laws, plain: right or not; kinds of faults; what is turned. -/
namespace Go.Proofs.YtieijfefnedifaaGreatDoor
open Go.RowKit
set_option linter.unusedVariables false
set_option linter.unusedSimpArgs false

theorem rest_kinds {h : HeapB} : ∀ f ∈ restF h, f.k = 3 ∨ f.k = 4 ∨ f.k = 5 ∨ f.k = 6 := by
  intro f hf
  rcases mem_rest.1 hf with hf | hf | hf | hf
  · obtain ⟨i, _, _, rfl⟩ := (mem_page _).1 hf; exact Or.inl rfl
  · obtain ⟨c, _, _, rfl⟩ := mem_head.1 hf; exact Or.inr (Or.inl rfl)
  · obtain ⟨o, _, _, i, _, _, _, rfl⟩ := mem_ref.1 hf; exact Or.inr (Or.inr (Or.inl rfl))
  · obtain ⟨i, _, _, _, rfl⟩ := (mem_dirtTo _).1 hf; exact Or.inr (Or.inr (Or.inr rfl))
theorem faults_cases (h : HeapB) : faultsP h = [⟨1, 0⟩] ∨ (faultsP h = spanF h ∧ spanF h ≠ []) ∨ (faultsP h = restF h ∧ GeoP h) := by
  unfold faultsP
  by_cases hf : frameOk h = true
  · rw [if_pos hf]
    by_cases hs : spanF h = []
    · rw [if_pos hs]; exact Or.inr (Or.inr ⟨rfl, geo_iff.2 ⟨hf, hs⟩⟩)
    · rw [if_neg hs]; exact Or.inr (Or.inl ⟨rfl, hs⟩)
  · rw [if_neg hf]; exact Or.inl rfl
theorem fault_pos {h : HeapB} : ∀ f ∈ faultsP h, 1 ≤ f.k := by
  intro f hf
  rcases faults_cases h with e | ⟨e, _⟩ | ⟨e, _⟩ <;> rw [e] at hf
  · simp at hf; subst hf; exact Nat.le_refl _
  · have := spanF_kind f hf; omega
  · have := rest_kinds f hf; omega
theorem right_facts {h : HeapB} (hw : Words h.us.w) : (faultsP h = [] ∧ chkH h = 0 ∧ worstP (faultsP h) = 0) ∨ (0 < (faultsP h).length ∧ chkH h = 2 ∧ worstP (faultsP h) ≠ 0) := by
  have hi := faults_nil hw
  unfold chkH
  rcases hf : faultsP h with _ | ⟨f, t⟩
  · left
    rw [if_pos (hi.1 hf)]
    exact ⟨rfl, rfl, rfl⟩
  · right
    have hn : ¬ heapP h = true := fun hh => by rw [hi.2 hh] at hf; cases hf
    rw [if_neg hn]
    refine ⟨by simp, rfl, ?_⟩
    have := fault_pos f (by rw [hf]; exact List.mem_cons_self ..)
    show f.k ≠ 0
    omega
/-! ### Faults stand in order -/
def lexF (f g : Flt) : Prop := f.k < g.k ∨ (f.k = g.k ∧ f.a < g.a)
theorem pg_sorted (a u : BitB) : ∀ n, (pgTo a u n).Pairwise lexF := by
  intro n
  induction n with
  | zero => exact List.Pairwise.nil
  | succ n ih =>
    rw [pgTo, List.pairwise_append]
    refine ⟨ih, by split <;> simp, fun f hf g hg => ?_⟩
    obtain ⟨i, hi, _, rfl⟩ := (mem_page _).1 hf
    split at hg
    · simp at hg
    · simp at hg
      subst hg
      exact Or.inr ⟨rfl, hi⟩
theorem head_sorted {h : HeapB} (hg : GeoP h) : (headF h).Pairwise lexF := by
  unfold headF headTo
  rw [List.pairwise_map]
  refine List.Pairwise.imp_of_mem ?_ (List.Pairwise.filter _ (cands_apart hg.2.2.1))
  intro c d hc hd hcd
  have h2 := (cand_end hg.2.2.1 (List.mem_filter.1 hc).1).2.2.1
  exact Or.inr ⟨rfl, by show c.a < d.a; omega⟩
theorem refTo_sorted (ar : List Int) (os : List VObj) (o : VObj) : ∀ n, (refTo ar os o n).Pairwise lexF := by
  intro n
  induction n with
  | zero => exact List.Pairwise.nil
  | succ n ih =>
    rw [refTo, List.pairwise_append]
    refine ⟨ih, by split <;> simp, fun f hf g hg => ?_⟩
    obtain ⟨i, hi, _, _, rfl⟩ := (mem_refTo _).1 hf
    split at hg
    · simp at hg
      subst hg
      exact Or.inr ⟨rfl, by show o.a + 1 + i < o.a + 1 + n; omega⟩
    · simp at hg
theorem ref_sorted {h : HeapB} (hg : GeoP h) : (refF h).Pairwise lexF := by
  have hfit := fitQ_of hg
  unfold refF refsTo
  rw [List.pairwise_flatMap]
  refine ⟨fun o _ => by unfold refO; split; exact refTo_sorted _ _ _ _; exact List.Pairwise.nil, ?_⟩
  show List.Pairwise _ ((cands h.sp).map (Cand.vobj h.ar))
  rw [List.pairwise_map]
  refine List.Pairwise.imp_of_mem ?_ (cands_apart hg.2.2.1)
  intro c d hc hd hcd f hf g hg'
  unfold refO at hf hg'
  split at hf
  · rename_i hok
    split at hg'
    · obtain ⟨i, hi, _, _, rfl⟩ := (mem_refTo _).1 hf
      obtain ⟨j, hj, _, _, rfl⟩ := (mem_refTo _).1 hg'
      simp only [Bool.and_eq_true] at hok
      have hgd : c.good h.ar = true := hok.1
      have e4 := (cand_end hg.2.2.1 hc).2.2.2
      have hr := good_room hgd e4
      rw [vobj_good hgd] at hi ⊢
      simp only at hi ⊢
      refine Or.inr ⟨rfl, ?_⟩
      show c.a + 1 + i < d.a + 1 + j
      omega
    · simp at hg'
  · simp at hf
theorem dirt_sorted (ar : List Int) (os : List VObj) : ∀ n, (dirtTo ar os n).Pairwise lexF := by
  intro n
  induction n with
  | zero => exact List.Pairwise.nil
  | succ n ih =>
    rw [dirtTo, List.pairwise_append]
    refine ⟨ih, by split <;> simp, fun f hf g hg => ?_⟩
    obtain ⟨i, hi, _, _, rfl⟩ := (mem_dirtTo _).1 hf
    split at hg
    · simp at hg
      subst hg
      exact Or.inr ⟨rfl, hi⟩
    · simp at hg
theorem rest_sorted {h : HeapB} (hg : GeoP h) : (restF h).Pairwise lexF := by
  unfold restF
  rw [List.pairwise_append, List.pairwise_append, List.pairwise_append]
  have k3 : ∀ f ∈ pageF h, f.k = 3 := fun f hf => by obtain ⟨i, _, _, rfl⟩ := (mem_page _).1 hf; rfl
  have k4 : ∀ f ∈ headF h, f.k = 4 := fun f hf => by obtain ⟨c, _, _, rfl⟩ := mem_head.1 hf; rfl
  have k5 : ∀ f ∈ refF h, f.k = 5 := fun f hf => by obtain ⟨o, _, _, i, _, _, _, rfl⟩ := mem_ref.1 hf; rfl
  have k6 : ∀ f ∈ dirtF h, f.k = 6 := fun f hf => by obtain ⟨i, _, _, _, rfl⟩ := (mem_dirtTo _).1 hf; rfl
  refine ⟨⟨⟨pg_sorted _ _ _, head_sorted hg, fun f hf g hg' => ?_⟩, ref_sorted hg, fun f hf g hg' => ?_⟩, dirt_sorted _ _ _, fun f hf g hg' => ?_⟩
  · have := k3 f hf; have := k4 g hg'; exact Or.inl (by omega)
  · have := k5 g hg'
    rcases List.mem_append.1 hf with hf | hf
    · have := k3 f hf; exact Or.inl (by omega)
    · have := k4 f hf; exact Or.inl (by omega)
  · have := k6 g hg'
    rcases List.mem_append.1 hf with hf | hf
    · rcases List.mem_append.1 hf with hf | hf
      · have := k3 f hf; exact Or.inl (by omega)
      · have := k4 f hf; exact Or.inl (by omega)
    · have := k5 f hf; exact Or.inl (by omega)
theorem sp_sorted (N : Int) (l : List SpanB) : ∀ n, (spSt N l n).2.Pairwise lexF := by
  intro n
  induction n with
  | zero => exact List.Pairwise.nil
  | succ n ih =>
    rw [spSt]
    split
    · rename_i x hx
      have key : ∀ g ∈ (spNew N n (spSt N l n).1 x).2, g = ⟨2, n⟩ := by
        intro g hg
        unfold spNew at hg
        split at hg
        · simp only at hg
          split at hg
          · simpa using hg
          · simp at hg
        · simpa using hg
      have hle : (spNew N n (spSt N l n).1 x).2.length ≤ 1 := by
        unfold spNew
        split
        · simp only
          split <;> simp
        · simp
      simp only
      rw [List.pairwise_append]
      refine ⟨ih, ?_, fun f hf g hg => ?_⟩
      · generalize (spNew N n (spSt N l n).1 x).2 = q at hle
        rcases q with _ | ⟨a, _ | ⟨b, t⟩⟩
        · exact List.Pairwise.nil
        · simp
        · simp at hle
      · have h1 := spSt_kind n f hf
        rw [key g hg]
        exact Or.inr ⟨h1.1, h1.2⟩
    · exact ih
theorem faults_sorted (h : HeapB) : (faultsP h).Pairwise lexF := by
  rcases faults_cases h with e | ⟨e, _⟩ | ⟨e, hg⟩ <;> rw [e]
  · simp
  · unfold spanF spansF
    split
    · exact sp_sorted _ _ _
    · rw [List.pairwise_append]
      refine ⟨sp_sorted _ _ _, by simp, fun f hf g hg => ?_⟩
      have h1 := spSt_kind 256 f hf
      simp at hg
      subst hg
      exact Or.inr ⟨h1.1, h1.2⟩
  · exact rest_sorted hg
theorem faults_next {h : HeapB} {i : Nat} {f g : Flt} (hf : (faultsP h)[i]? = some f) (hg : (faultsP h)[i + 1]? = some g) : lexF f g := by
  obtain ⟨h1, e1⟩ := List.getElem?_eq_some_iff.1 hf
  obtain ⟨h2, e2⟩ := List.getElem?_eq_some_iff.1 hg
  have := List.pairwise_iff_getElem.1 (faults_sorted h) i (i + 1) h1 h2 (by omega)
  rwa [e1, e2] at this
/-! ### How many of each kind -/
theorem cnt_all {ks : List Nat} {l : List Flt} (h : ∀ f ∈ l, f.k ∈ ks) : cntP ks l = l.length := by
  unfold cntP
  rw [List.countP_eq_length]
  intro f hf
  simpa using h f hf
theorem cnt_none {ks : List Nat} {l : List Flt} (h : ∀ f ∈ l, f.k ∉ ks) : cntP ks l = 0 := by
  unfold cntP
  rw [List.countP_eq_zero]
  intro f hf
  simpa using h f hf
theorem kinds_cases (h : HeapB) : (cntP [1] (faultsP h) = 1 ∧ cntP [2] (faultsP h) = 0 ∧ cntP [3, 4, 5, 6] (faultsP h) = 0 ∧ (faultsP h).length = 1) ∨
    (cntP [1] (faultsP h) = 0 ∧ 0 < (faultsP h).length ∧ cntP [2] (faultsP h) = (faultsP h).length ∧ cntP [3, 4, 5, 6] (faultsP h) = 0) ∨
    (cntP [1] (faultsP h) = 0 ∧ cntP [2] (faultsP h) = 0 ∧ cntP [3, 4, 5, 6] (faultsP h) = (faultsP h).length) := by
  rcases faults_cases h with e | ⟨e, hne⟩ | ⟨e, _⟩ <;> rw [e]
  · left; decide
  · right; left
    refine ⟨cnt_none fun f hf => by rw [spanF_kind f hf]; decide, List.length_pos_iff.2 hne, cnt_all fun f hf => by rw [spanF_kind f hf]; decide, cnt_none fun f hf => by rw [spanF_kind f hf]; decide⟩
  · right; right
    refine ⟨cnt_none fun f hf => ?_, cnt_none fun f hf => ?_, cnt_all fun f hf => ?_⟩
    all_goals (rcases rest_kinds f hf with h | h | h | h <;> rw [h] <;> decide)
/-! ### A word is turned -/
def turnH (h : HeapB) (i : Nat) (x : Int) : HeapB := { h with ar := h.ar.set i x }
theorem turned {h : HeapB} {i : Nat} {x : Int} (hw : Words h.us.w) (hh : heapP h = true) : (faultsP (turnH h i x) = [] ∧ chkH (turnH h i x) = 0) ∨ (0 < (faultsP (turnH h i x)).length ∧ cntP [1, 2, 3] (faultsP (turnH h i x)) = 0 ∧ chkH (turnH h i x) = 2) := by
  have hw2 : Words (turnH h i x).us.w := hw
  rcases right_facts hw2 with ⟨a, b, _⟩ | ⟨a, b, _⟩
  · exact Or.inl ⟨a, b⟩
  · right
    refine ⟨a, ?_, b⟩
    have hf := (heap_parts hh).1
    obtain ⟨hg, hpg⟩ := (framed_iff hw).1 hf
    have hg2 : GeoP (turnH h i x) := by
      obtain ⟨g1, g2, g3, g4, g5, g6⟩ := hg
      exact ⟨by show (List.set _ _ _).length ≤ _; rw [List.length_set]; exact g1, g2, g3, g4, by show ((List.set _ _ _).length : Int) = _; rw [List.length_set]; exact g5, g6⟩
    have hp : pageF (turnH h i x) = [] := (pageF_nil hw2 hg2.2.1).2 hpg
    rw [geo_faults hg2]
    refine cnt_none fun f hf => ?_
    rcases mem_rest.1 hf with hf | hf | hf | hf
    · rw [hp] at hf; simp at hf
    · obtain ⟨c, _, _, rfl⟩ := mem_head.1 hf; simp
    · obtain ⟨o, _, _, j, _, _, _, rfl⟩ := mem_ref.1 hf; simp
    · obtain ⟨j, _, _, _, rfl⟩ := (mem_dirtTo _).1 hf; simp
end Go.Proofs.YtieijfefnedifaaGreatDoor
