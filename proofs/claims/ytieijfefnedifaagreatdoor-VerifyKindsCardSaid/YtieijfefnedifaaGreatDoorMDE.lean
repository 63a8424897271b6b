/- The walk of heap's put. -/
import Derived.Test.YtieijfefnedifaaGreatDoorMDADD
import Derived.Deep.RegionHeld3
namespace Go.Proofs.YtieijfefnedifaaGreatDoor
open Go.RowKit
set_option linter.unusedVariables false
set_option linter.unusedSimpArgs false

def putS (s : SpanB) (k : Nat) (bl : Bool) : SpanB := { s with al := putB s.al k true, ma := putB s.ma k bl }
def putH (h : HeapB) (i k : Nat) (s : SpanB) (n m : Int) (bl : Bool) : HeapB := { ar := h.ar.set (⟨i, s, k⟩ : Cand).a (packW n m), us := h.us, sp := h.sp.set i (putS s k bl) }
def PutHP (base b : Nat) (h : HeapB) (os : List Obj) (A : Option Addr) (c at_ : Nat) (w : World) (e : Ending) (w' : World) : Prop := ∃ v, e = .returned (.int .u64 (at_ : Int)) ∧ Mine w' base b v h os A c ∧ Below b w w'
theorem Mine.span {w : World} {base b c i : Nat} {v : HeapV} {h : HeapB} {os : List Obj} {A : Option Addr} {s : SpanB} (m : Mine w base b v h os A c) (hs : h.sp[i]? = some s) : ∃ g x, v.sA = some ⟨g, 0, none⟩ ∧ v.vs[i]? = some x ∧ OwN w (b + 1) x s ∧ b + 1 ≤ g ∧ g < w.heap.size ∧
    (w.cell? ⟨g, i * 8, none⟩ = some (.int .i64 x.first) ∧ w.cell? ⟨g, i * 8 + 1, none⟩ = some (.int .i64 x.pages) ∧ w.cell? ⟨g, i * 8 + 2, none⟩ = some (.int .i64 x.size) ∧ w.cell? ⟨g, i * 8 + 3, none⟩ = some (.int .i64 x.al.n) ∧ w.cell? ⟨g, i * 8 + 4, none⟩ = some (.slice x.al.A x.al.m x.al.c) ∧
    w.cell? ⟨g, i * 8 + 5, none⟩ = some (.int .i64 x.ma.n) ∧ w.cell? ⟨g, i * 8 + 6, none⟩ = some (.slice x.ma.A x.ma.m x.ma.c) ∧ w.cell? ⟨g, i * 8 + 7, none⟩ = some (.bool x.sw)) ∧ (∀ j, w.frozen? ⟨g, j, none⟩ = false) := by
  have hi := (List.getElem?_eq_some_iff.1 hs).1
  have hlen : v.vs.length = v.sN := by rw [m.own.al.1, m.own.sn]
  have hsn := m.own.sn
  have hiv : i < v.vs.length := by omega
  obtain ⟨g, eg⟩ := own_form m.own.sp (by omega)
  have ho : OwS w (b + 1) (.slice (some ⟨g, 0, none⟩) v.sN v.sC) v.vs := by rw [← eg]; exact m.own.sp
  have hlt := World.ownsRow.lt ho g rfl
  have hx : v.vs[i]? = some v.vs[i] := List.getElem?_eq_getElem hiv
  obtain ⟨cur, hh, _⟩ := own_block ho (k := g) rfl
  have hrow : w.ownsRow (b + 1) 44 8 (.slice (some ⟨g, 0, none⟩) v.vs.length v.sC) v.vs.length (fl v.vs) := by
    unfold OwS at ho
    rwa [← hlen] at ho
  have hc : ∀ j, j < 8 → ∀ u, (v.vs[i]).cs[j]? = some u → w.cell? ⟨g, i * 8 + j, none⟩ = some u := fun j hj u hu =>
    (own_cell hrow (k := i * 8 + j) (by rw [fl_get _ i j hj, hx]; exact hu)).1
  refine ⟨g, v.vs[i], eg, hx, m.own.al.2 i _ _ hx hs, hlt.1, hlt.2, ⟨hc 0 (by omega) _ rfl, hc 1 (by omega) _ rfl, hc 2 (by omega) _ rfl, hc 3 (by omega) _ rfl, hc 4 (by omega) _ rfl, hc 5 (by omega) _ rfl, hc 6 (by omega) _ rfl, hc 7 (by omega) _ rfl⟩, fun j => ?_⟩
  have hz : w.heap[g]? = some (.cells cur 44 (0, 0)) := hh
  simp [World.frozen?, hz]
set_option maxRecDepth 100000 in
set_option maxHeartbeats 16000000 in
theorem put36 (base b c i k n : Nat) (v : HeapV) (h : HeapB) (os : List Obj) (A : Option Addr) (m : Int) (bl : Bool) (s : SpanB) (w : World) (hm : Mine w base b v h os A c) (hwf : WfH h) (hs : h.sp[i]? = some s) (hr : rightP s = true) (hk : (k : Int) < s.al.n)
    (hsh : shOk n m = true) (hmr : 0 ≤ m ∧ m < 18446744073709551616) (hat : (⟨i, s, k⟩ : Cand).a < h.ar.length) (har : h.ar.length ≤ 16384) (hi : i < 256) :
    Calls Tryz.prog 36 #[.pointer (some ⟨b, 0, none⟩), .int .i64 i, .int .i64 k, .agg #[.int .i64 n, .int .u64 m], .bool bl] w (PutHP base b (putH h i k s n m bl) os A c (⟨i, s, k⟩ : Cand).a w) := by
  obtain ⟨g, x, eg, hx, hN, hgb, hgl, ⟨d0, d1, d2, d3, d4, d5, d6, d7⟩, hfz⟩ := hm.span hs
  have hW := hwf.sp s (List.mem_of_getElem? hs)
  have hrp := rightP_parts hr
  have eal : putE s.al k = 0 := by unfold putE; rw [if_pos hrp.2.2.2.1, if_pos ⟨by omega, hk⟩]
  have ema : putE s.ma k = 0 := by unfold putE; rw [if_pos hrp.2.2.2.2.1, if_pos ⟨by omega, by have h1 := hrp.2.2.2.2.2.1; have h2 := hrp.2.2.2.2.2.2.1; omega⟩]
  have HB0 : Hid (Below w.heap.size w (w.alloc (.cells #[.int .i64 (n : Int), .int .u64 m] 56))) := balloc (Below.refl _ _) _
  have CP : Hid (∀ W, Below w.heap.size w W → Calls Tryz.prog 50 #[x.al.v, .int .i64 k, .bool true] W (RetBE (putB s.al k true) 0 W)) := fun W hb => by
    have := put44 x.al s.al k true W ((hN.rd hW).al.below hb)
    rwa [eal] at this
  have HM := Lib.hid hm
  have HX := Lib.hid hx
  have HSS := Lib.hid hs
  have HNN := Lib.hid hN
  have HWF := Lib.hid hwf
  have HRP := Lib.hid hr
  have HEM := Lib.hid ema
  have HAT := Lib.hid hat
  have HAR := Lib.hid har
  have HSH := Lib.hid hsh
  have HMR := Lib.hid hmr
  have HEG := Lib.hid eg
  have HGB := Lib.hid hgb
  have HGAL : Hid (∀ ga, v.aA = some ⟨ga, 0, none⟩ → ga < w.heap.size) := fun ga e => by have h1 := hm.own.ar; rw [e] at h1; exact (World.ownsRow.lt h1 ga rfl).2
  have s0 := hm.st.c0
  have s3 := hm.st.c3
  have hbl := hm.lt
  have hsn := hm.own.sn
  have hil : i < h.sp.length := (List.getElem?_eq_some_iff.1 hs).1
  obtain ⟨aA, aN, aC, ub, sA, sN, sC, vs⟩ := v
  simp only at s0 s3 hsn eg
  subst hsn
  subst eg
  obtain ⟨xf, xp, xz, ⟨xn, xA, xm, xc⟩, ⟨yn, yA, ym, yc⟩, xw⟩ := x
  unfold BitV.v at CP
  simp only at CP d0 d1 d2 d3 d4 d5 d6 d7
  have z3 := hfz (i * 8 + 3)
  have z4 := hfz (i * 8 + 4)
  clear hm hwf hs hr hsh hmr hat har hx hN hW hrp eal ema hfz hgb
  go_enter Tryz.func36, Tryz.ntmps36
  go_wp2_with (go_at_call 50; refine (CP.out _ HB0.out).mono ?_)
  rintro e w1 ⟨⟨n1, A1, m1, c1⟩, rfl, hn1, hm1, hcap1, ho1, hb1⟩
  simp only at hn1 hm1 hcap1 ho1
  obtain ⟨hc1, hf1, hs1⟩ := bcellB (B := w.heap.size + 1) hb1 (by simp)
  have HB1 := Lib.hid (bthen HB0.out hb1)
  have hgl1 : g < w1.heap.size := by omega
  unfold BitV.v
  simp only
  subst hn1
  subst hm1
  go_upto_region 3 with fail
  obtain ⟨W2, hW2⟩ : ∃ W2, W2 = (w1.setCell ⟨g, i * 8 + 3, none⟩ (.int .i64 (putB s.al k true).n)).setCell ⟨g, i * 8 + 3 + 1, none⟩ (.slice A1 (putB s.al k true).w.length c1) := ⟨_, rfl⟩
  rw [← hW2]
  have HM2 : Hid (Mine W2 base b ⟨aA, aN, aC, ub, some ⟨g, 0, none⟩, h.sp.length, sC, vs.set i ⟨xf, xp, xz, ⟨(putB s.al k true).n, A1, (putB s.al k true).w.length, c1⟩, ⟨yn, yA, ym, yc⟩, xw⟩⟩ { h with sp := h.sp.set i { s with al := putB s.al k true } } os A c) := by
    show Mine _ _ _ _ _ _ _ _
    rw [hW2]
    have hN := HNN.out.below HB1.out
    refine HM.out.bits (y := ⟨xf, xp, xz, ⟨(putB s.al k true).n, A1, (putB s.al k true).w.length, c1⟩, ⟨yn, yA, ym, yc⟩, xw⟩) (t := { s with al := putB s.al k true }) HB1.out rfl HX.out HSS.out (by omega) rfl ⟨hN.first, hN.pages, hN.size, hN.sw, rfl, rfl, hcap1, ho1.mono (by simp; omega), hN.mn, hN.mm, hN.mc, hN.ma⟩ (fun q hq => ?_)
    have hq1 := (World.ownsRow.lt HM.out.own.ar q hq).2
    refine ⟨fun e => ?_, ((HM.out.own.ap q hq).2 _ (List.mem_of_getElem? HX.out)).2⟩
    have := (World.ownsRow.lt ho1 q e).1
    simp at this
    omega
  have HBW2 : Hid (Below b w W2) := by
    show Below _ _ _
    rw [hW2]
    have := HGB.out
    exact ((HB1.out.mono (Nat.le_of_lt hbl)).setCell (by simp; omega) _).setCell (by simp; omega) _
  have HQ2 : Hid (W2.cell? ⟨w.heap.size, 0, none⟩ = some (.int .i64 (n : Int)) ∧ W2.cell? ⟨w.heap.size, 1, none⟩ = some (.int .u64 m) ∧ w.heap.size < W2.heap.size) := by
    show _ ∧ _
    rw [hW2]
    refine ⟨?_, ?_, by simp; omega⟩
    · rw [World.cell?_setCell_far _ _ _ _ (by simp; omega), World.cell?_setCell_far _ _ _ _ (by simp; omega), hc1 _ _ (by omega)]; go_simp
    · rw [World.cell?_setCell_far _ _ _ _ (by simp; omega), World.cell?_setCell_far _ _ _ _ (by simp; omega), hc1 _ _ (by omega)]; go_simp
  clear hW2 hb1 ho1 hcap1 hc1 hf1 d0 d1 d2 d3 d4 d5 d6 d7 z3 z4 CP HB0 HB1 s0 s3 hgl1
  have hs2 : (h.sp.set i { s with al := putB s.al k true })[i]? = some { s with al := putB s.al k true } := List.getElem?_set_self hil
  obtain ⟨g', x2, eg2, hx2, hN2, hgb2, hgl2, ⟨d0, d1, d2, d3, d4, d5, d6, d7⟩, hfz2⟩ := HM2.out.span hs2
  simp only [Option.some.injEq, Addr.mk.injEq, and_true] at eg2
  subst eg2
  have hil2 : i < vs.length := (List.getElem?_eq_some_iff.1 HX.out).1
  simp only at hx2
  rw [List.getElem?_set_self hil2, Option.some.injEq] at hx2
  subst hx2
  simp only at d0 d1 d2 d3 d4 d5 d6 d7
  have z5 := hfz2 (i * 8 + 5)
  have z6 := hfz2 (i * 8 + 6)
  have HX2 : Hid ((vs.set i ⟨xf, xp, xz, ⟨(putB s.al k true).n, A1, (putB s.al k true).w.length, c1⟩, ⟨yn, yA, ym, yc⟩, xw⟩)[i]? = some ⟨xf, xp, xz, ⟨(putB s.al k true).n, A1, (putB s.al k true).w.length, c1⟩, ⟨yn, yA, ym, yc⟩, xw⟩) := List.getElem?_set_self hil2
  have HS2 := Lib.hid hs2
  have HN2 := Lib.hid hN2
  have CP2 : Hid (Calls Tryz.prog 50 #[.agg #[.int .i64 yn, .slice yA ym yc], .int .i64 k, .bool bl] W2 (RetBE (putB s.ma k bl) 0 W2)) := by
    have := put44 ⟨yn, yA, ym, yc⟩ s.ma k bl W2 (RdB.own hN2.mn hN2.mm hN2.mc hN2.ma (rightP_parts HRP.out).2.2.2.2.1 (HWF.out.sp s (List.mem_of_getElem? HSS.out)).ma.words)
    rwa [HEM.out] at this
  clear hs2 hN2 hfz2 HM HNN
  go_wp2_with (go_at_call 50; refine CP2.out.mono ?_)
  rintro e w3 ⟨⟨n3, A3, m3, c3⟩, rfl, hn3, hm3, hcap3, ho3, hb3⟩
  simp only at hn3 hm3 hcap3 ho3
  obtain ⟨hc3, hf3, hs3⟩ := bcellB (B := W2.heap.size) hb3 (Nat.le_refl _)
  have hgl3 : g < w3.heap.size := by omega
  subst hn3
  subst hm3
  unfold BitV.v
  simp only
  go_upto_region 4 with fail
  obtain ⟨W3, hW3⟩ : ∃ W3, W3 = (w3.setCell ⟨g, i * 8 + 5, none⟩ (.int .i64 (putB s.ma k bl).n)).setCell ⟨g, i * 8 + 5 + 1, none⟩ (.slice A3 (putB s.ma k bl).w.length c3) := ⟨_, rfl⟩
  rw [← hW3]
  obtain ⟨y, hy⟩ : ∃ y : SpanV, y = ⟨xf, xp, xz, ⟨(putB s.al k true).n, A1, (putB s.al k true).w.length, c1⟩, ⟨(putB s.ma k bl).n, A3, (putB s.ma k bl).w.length, c3⟩, xw⟩ := ⟨_, rfl⟩
  have HM3 : Hid (Mine W3 base b ⟨aA, aN, aC, ub, some ⟨g, 0, none⟩, h.sp.length, sC, (vs.set i ⟨xf, xp, xz, ⟨(putB s.al k true).n, A1, (putB s.al k true).w.length, c1⟩, ⟨yn, yA, ym, yc⟩, xw⟩).set i y⟩ { h with sp := (h.sp.set i { s with al := putB s.al k true }).set i (putS s k bl) } os A c) := by
    show Mine _ _ _ _ _ _ _ _
    rw [hW3]
    have hN := HN2.out.below hb3
    refine HM2.out.bits (y := y) (t := putS s k bl) hb3 rfl HX2.out HS2.out (by omega) (by rw [hy]; rfl) ?_ (fun q hq => ?_)
    · rw [hy]
      exact ⟨hN.first, hN.pages, hN.size, hN.sw, hN.an, hN.am, hN.ac, hN.al, rfl, rfl, hcap3, ho3.mono (by omega)⟩
    · have hq1 := (World.ownsRow.lt HM2.out.own.ar q hq).2
      rw [hy]
      refine ⟨((HM2.out.own.ap q hq).2 _ (List.mem_of_getElem? HX2.out)).1, fun e => ?_⟩
      have := (World.ownsRow.lt ho3 q e).1
      omega
  have HBW3 : Hid (Below b w W3) := by
    show Below _ _ _
    rw [hW3]
    have h1 := HGB.out
    have h2 : Below b W2 w3 := hb3.mono (by omega)
    exact ((HBW2.out.trans h2).setCell (by simp; omega) _).setCell (by simp; omega) _
  have HQ3 : Hid (W3.cell? ⟨w.heap.size, 0, none⟩ = some (.int .i64 (n : Int)) ∧ W3.cell? ⟨w.heap.size, 1, none⟩ = some (.int .u64 m) ∧ w.heap.size < W3.heap.size) := by
    show _ ∧ _
    rw [hW3]
    have hz := HQ2.out.2.2
    refine ⟨?_, ?_, by simp; omega⟩
    · rw [World.cell?_setCell_far _ _ _ _ (by simp; omega), World.cell?_setCell_far _ _ _ _ (by simp; omega), hc3 _ _ hz]; exact HQ2.out.1
    · rw [World.cell?_setCell_far _ _ _ _ (by simp; omega), World.cell?_setCell_far _ _ _ _ (by simp; omega), hc3 _ _ hz]; exact HQ2.out.2.1
  have HGQ : Hid (g < w.heap.size) := hgl
  clear hW3 hb3 ho3 hcap3 hc3 hf3 d0 d1 d2 d3 d4 d5 d6 d7 z5 z6 CP2 HM2 HBW2 HQ2 HN2 HX2 HS2
  have hs3 : ((h.sp.set i { s with al := putB s.al k true }).set i (putS s k bl))[i]? = some (putS s k bl) := List.getElem?_set_self (by rw [List.length_set]; exact hil)
  obtain ⟨g', x3, eg3, hx3, hN3, hgb3, hgl4, ⟨d0, d1, d2, d3, d4, d5, d6, d7⟩, -⟩ := HM3.out.span hs3
  simp only [Option.some.injEq, Addr.mk.injEq, and_true] at eg3
  subst eg3
  simp only at hx3
  rw [List.getElem?_set_self (by rw [List.length_set]; exact hil2), Option.some.injEq] at hx3
  subst hx3
  have HVV : Hid ((h.sp.set i { s with al := putB s.al k true }).set i (putS s k bl) = h.sp.set i (putS s k bl)) := List.set_set ..
  rw [HVV.out] at HM3
  have e1 := hN3.first
  have e2 := hN3.size
  subst hy
  simp only at d0 d1 d2 d3 d4 d5 d6 d7 e1 e2
  have e3 : xf = s.first := e1
  have e4 : xz = s.size := e2
  clear e1 e2
  subst e3
  subst e4
  have R0 := Lib.hid d0
  have R1 := Lib.hid d1
  have R2 := Lib.hid d2
  have R3 := Lib.hid d3
  have R4 := Lib.hid d4
  have R5 := Lib.hid d5
  have R6 := Lib.hid d6
  have R7 := Lib.hid d7
  clear hs3 hN3 d0 d1 d2 d3 d4 d5 d6 d7
  have hsh2 := span_shape HRP.out
  have CB : Hid (∀ W, Calls Tryz.prog 72 #[.agg #[.int .i64 s.first, .int .i64 xp, .int .i64 s.size, .int .i64 (putB s.al k true).n, .slice A1 (putB s.al k true).w.length c1, .int .i64 (putB s.ma k bl).n, .slice A3 (putB s.ma k bl).w.length c3, .bool xw]] W (Ret (.int .u64 (s.first * 16)) W)) := fun W => base42 ⟨s.first, xp, s.size, ⟨(putB s.al k true).n, A1, (putB s.al k true).w.length, c1⟩, ⟨(putB s.ma k bl).n, A3, (putB s.ma k bl).w.length, c3⟩, xw⟩ W (by simp only; omega) (by simp only; omega)
  obtain ⟨t, ht, ht2⟩ : ∃ t : Nat, (k : Int) * s.size = (t : Int) ∧ t = k * s.size.toNat ∧ t ≤ 128 := by
    rcases hsh2.2.2.2.2 with ⟨e, hz⟩ | ⟨_, ⟨e, hz⟩ | ⟨e, hz⟩ | ⟨e, hz⟩ | ⟨e, hz⟩⟩ <;> rw [e]
    · exact ⟨0, by omega, by simp, by omega⟩
    · exact ⟨k * 2, by omega, rfl, by omega⟩
    · exact ⟨k * 4, by omega, rfl, by omega⟩
    · exact ⟨k * 8, by omega, rfl, by omega⟩
    · exact ⟨k * 16, by omega, rfl, by omega⟩
  obtain ⟨at_, hat⟩ : ∃ a : Nat, a = (⟨i, s, k⟩ : Cand).a := ⟨_, rfl⟩
  have hat2 : s.first * 16 + (t : Int) = (at_ : Int) := by rw [hat]; unfold Cand.a; simp only; omega
  have HALT : Hid (at_ < h.ar.length) := by show _ < _; rw [hat]; exact HAT.out
  have hw1 : IntKind.i64.wrap ((k : Int) * s.size) = (t : Int) := by rw [ht]; exact wrap_in (by omega)
  have hw2 : IntKind.u64.wrap (t : Int) = (t : Int) := by rw [u64_wrap_]; omega
  have hw3 : IntKind.u64.wrap (s.first * 16 + (t : Int)) = (at_ : Int) := by rw [hat2, u64_wrap_]; have := HALT.out; have := HAR.out; omega
  have EPH : Hid (putH h i k s n m bl = { ar := h.ar.set at_ (packW n m), us := h.us, sp := h.sp.set i (putS s k bl) }) := by show _ = _; unfold putH; rw [← hat]
  have HATQ := Lib.hid hat
  clear ht ht2 hat hat2 hsh2 HAT
  refine region_up (by kernel_rfl) (by kernel_rfl) ?_
  iterate 3
    go_big_quiet_want
    apply Exists.intro
    refine ⟨fun W hW => ?_, ?_⟩
    · have g0 := cell_later hW R0.out
      have g1 := cell_later hW R1.out
      have g2 := cell_later hW R2.out
      have g3 := cell_later hW R3.out
      have g4 := cell_later hW R4.out
      have g5 := cell_later hW R5.out
      have g6 := cell_later hW R6.out
      have g7 := cell_later hW R7.out
      go_simp
      all_goals exact rfl
    simp only [Act.put, List.setIfInBounds_toArray, List.set_cons_succ, List.set_cons_zero]
    go_big_quiet_on
  go_big_quiet_want
  apply Exists.intro
  refine ⟨fun W hW => ?_, ?_⟩
  · have g0 := cell_later hW R0.out
    have g1 := cell_later hW R1.out
    have g2 := cell_later hW R2.out
    have g3 := cell_later hW R3.out
    have g4 := cell_later hW R4.out
    have g5 := cell_later hW R5.out
    have g6 := cell_later hW R6.out
    have g7 := cell_later hW R7.out
    go_simp
    exact call_up hW (CB.out W)
  simp only [Act.put, List.setIfInBounds_toArray, List.set_cons_succ, List.set_cons_zero]
  go_big_quiet_on
  iterate 9
    go_big_quiet_want
    apply Exists.intro
    refine ⟨fun W hW => ?_, ?_⟩
    · have g0 := cell_later hW R0.out
      have g1 := cell_later hW R1.out
      have g2 := cell_later hW R2.out
      have g3 := cell_later hW R3.out
      have g4 := cell_later hW R4.out
      have g5 := cell_later hW R5.out
      have g6 := cell_later hW R6.out
      have g7 := cell_later hW R7.out
      go_simp
      all_goals exact rfl
    simp only [Act.put, List.setIfInBounds_toArray, List.set_cons_succ, List.set_cons_zero]
    go_big_quiet_on
  refine wpQuiet_nil ?_
  intro W hW
  have hm4 := HM3.out.below hW
  have HM4 := Lib.hid hm4
  have HQ4 : Hid (W.cell? ⟨w.heap.size, 0, none⟩ = some (.int .i64 (n : Int)) ∧ W.cell? ⟨w.heap.size, 1, none⟩ = some (.int .u64 m) ∧ W.cell? ⟨b, 0, none⟩ = some (.slice aA aN aC)) := ⟨cell_later hW HQ3.out.1, cell_later hW HQ3.out.2.1, hm4.st.c0⟩
  have HBW4 : Hid (Below b w W) := HBW3.out.trans (hW.mono (by have := HQ3.out.2.2; omega))
  have HLW4 : Hid (w.heap.size < W.heap.size) := Nat.lt_of_lt_of_le HQ3.out.2.2 hW.size
  obtain ⟨ga, ega⟩ := own_form hm4.own.ar (show 0 < h.ar.length by have := HALT.out; omega)
  have ean := hm4.own.n
  simp only at ega ean
  have HGAW : Hid (ga < w.heap.size) := HGAL.out ga ega
  subst ega
  subst ean
  clear hm4 hW HM3 HQ3 HBW3 R0 R1 R2 R3 R4 R5 R6 R7 hw1 hw2 hw3 CB
  have CK := Lib.hid (fun W => pack73 (n : Int) m W HSH.out HMR.out)
  generalize packW (n : Int) m = pw at *
  go_wp2
  refine wp_region_held_drew (S := fun W' => W'.cell? ⟨w.heap.size, 0, none⟩ = some (.int .i64 (n : Int)) ∧ W'.cell? ⟨w.heap.size, 1, none⟩ = some (.int .u64 m) ∧ W'.cell? ⟨b, 0, none⟩ = some (.slice (some ⟨ga, 0, none⟩) h.ar.length aC)) (by kernel_rfl) ⟨cell_later (Below.refl _ _).drew HQ4.out.1, cell_later (Below.refl _ _).drew HQ4.out.2.1, cell_later (Below.refl _ _).drew HQ4.out.2.2⟩ (fun hHeld => ?_)
  have HM5 := Lib.hid (HM4.out.below (Below.refl _ _).drew)
  have HQ5 : Hid (W.drew.cell? ⟨w.heap.size, 0, none⟩ = some (.int .i64 (n : Int)) ∧ W.drew.cell? ⟨w.heap.size, 1, none⟩ = some (.int .u64 m) ∧ W.drew.cell? ⟨b, 0, none⟩ = some (.slice (some ⟨ga, 0, none⟩) h.ar.length aC)) := ⟨cell_later (Below.refl _ _).drew HQ4.out.1, cell_later (Below.refl _ _).drew HQ4.out.2.1, cell_later (Below.refl _ _).drew HQ4.out.2.2⟩
  have HBW5 : Hid (Below b w W.drew) := HBW4.out.drew
  have HLW5 : Hid (w.heap.size < W.drew.heap.size) := Nat.lt_of_lt_of_le HLW4.out (Below.refl W.heap.size W).drew.size
  clear HM4 HQ4 HBW4 HLW4
  generalize W.drew = W5 at *
  refine wpAnyH_take (i := 0) (oi := _) (v := ?_) rfl (by kernel_rfl) (by kernel_rfl) (by kernel_rfl) (fun _ _ _ h => h) (Or.inl ⟨by rfl, ?_⟩) (by assumption) ?_
  rotate_left
  · intro w' hSw
    try dsimp only at hSw
    obtain ⟨t0, t1, t2⟩ := hSw
    go_simp
    all_goals with_reducible rfl
  try simp only [Act.put, List.setIfInBounds_toArray, List.set_cons_zero, List.set_cons_succ, List.getElem_toArray, List.getElem_cons_zero, List.getElem_cons_succ]
  refine wpAnyH_take (i := 1) (oi := _) (v := ?_) rfl (by kernel_rfl) (by kernel_rfl) (by kernel_rfl) (fun _ _ _ h => h) (Or.inl ⟨by rfl, ?_⟩) (by assumption) ?_
  rotate_left
  · intro w' hSw
    try dsimp only at hSw
    obtain ⟨t0, t1, t2⟩ := hSw
    go_simp
    all_goals with_reducible rfl
  try simp only [Act.put, List.setIfInBounds_toArray, List.set_cons_zero, List.set_cons_succ, List.getElem_toArray, List.getElem_cons_zero, List.getElem_cons_succ]
  refine wpAnyH_take (i := 2) (oi := _) (v := ?_) rfl (by kernel_rfl) (by kernel_rfl) (by kernel_rfl) (fun _ _ _ h => h) (Or.inl ⟨by rfl, ?_⟩) (by assumption) ?_
  rotate_left
  · intro w' hSw
    try dsimp only at hSw
    obtain ⟨t0, t1, t2⟩ := hSw
    go_simp
    all_goals with_reducible rfl
  try simp only [Act.put, List.setIfInBounds_toArray, List.set_cons_zero, List.set_cons_succ, List.getElem_toArray, List.getElem_cons_zero, List.getElem_cons_succ]
  refine wpAnyH_take (i := 3) (oi := _) (v := ?_) rfl (by kernel_rfl) (by kernel_rfl) (by kernel_rfl) (fun _ _ _ h => h) (Or.inl ⟨by rfl, ?_⟩) (by assumption) ?_
  rotate_left
  · intro w' hSw
    try dsimp only at hSw
    obtain ⟨t0, t1, t2⟩ := hSw
    go_simp
    all_goals with_reducible rfl
  try simp only [Act.put, List.setIfInBounds_toArray, List.set_cons_zero, List.set_cons_succ, List.getElem_toArray, List.getElem_cons_zero, List.getElem_cons_succ]
  refine wpAnyH_take (i := 4) (oi := _) (v := ?_) rfl (by kernel_rfl) (by kernel_rfl) (by kernel_rfl) (fun _ _ _ h => h) (Or.inl ⟨by rfl, ?_⟩) (by assumption) ?_
  rotate_left
  · intro w' hSw
    try dsimp only at hSw
    obtain ⟨t0, t1, t2⟩ := hSw
    go_simp
    all_goals with_reducible rfl
  try simp only [Act.put, List.setIfInBounds_toArray, List.set_cons_zero, List.set_cons_succ, List.getElem_toArray, List.getElem_cons_zero, List.getElem_cons_succ]
  refine wpAnyH_take (i := 5) (oi := _) (v := ?_) rfl (by kernel_rfl) (by kernel_rfl) (by kernel_rfl) (fun _ _ _ h => h) (Or.inl ⟨by rfl, ?_⟩) (by assumption) ?_
  rotate_left
  · intro w' hSw
    try dsimp only at hSw
    obtain ⟨t0, t1, t2⟩ := hSw
    go_simp
    all_goals with_reducible rfl
  try simp only [Act.put, List.setIfInBounds_toArray, List.set_cons_zero, List.set_cons_succ, List.getElem_toArray, List.getElem_cons_zero, List.getElem_cons_succ]
  refine wpAnyH_take (i := 6) (oi := _) (v := ?_) rfl (by kernel_rfl) (by kernel_rfl) (by kernel_rfl) (fun _ _ _ h => h) (Or.inl ⟨by rfl, ?_⟩) (by assumption) ?_
  rotate_left
  · intro w' hSw
    try dsimp only at hSw
    obtain ⟨t0, t1, t2⟩ := hSw
    go_simp
    all_goals with_reducible rfl
  try simp only [Act.put, List.setIfInBounds_toArray, List.set_cons_zero, List.set_cons_succ, List.getElem_toArray, List.getElem_cons_zero, List.getElem_cons_succ]
  refine wpAnyH_take (i := 7) (oi := _) (v := ?_) rfl (by kernel_rfl) (by kernel_rfl) (by kernel_rfl) (fun _ _ _ h => h) (Or.inl ⟨by rfl, ?_⟩) (by assumption) ?_
  rotate_left
  · intro w' hSw
    try dsimp only at hSw
    obtain ⟨t0, t1, t2⟩ := hSw
    go_simp
    all_goals with_reducible rfl
  try simp only [Act.put, List.setIfInBounds_toArray, List.set_cons_zero, List.set_cons_succ, List.getElem_toArray, List.getElem_cons_zero, List.getElem_cons_succ]
  refine wpAnyH_ready (rs := [8]) (by kernel_rfl) (by simp) ?_
  refine AllReadyH.cons (o := _) rfl (fun K hK => ?_) AllReadyH.nil
  go_simp
  go_at_call 73
  refine (CK.out W5).mono ?_
  rintro e w6 ⟨rfl, hb6⟩
  have HM6 := Lib.hid (HM5.out.below hb6)
  have HQ6 : Hid (w6.cell? ⟨w.heap.size, 0, none⟩ = some (.int .i64 (n : Int)) ∧ w6.cell? ⟨w.heap.size, 1, none⟩ = some (.int .u64 m) ∧ w6.cell? ⟨b, 0, none⟩ = some (.slice (some ⟨ga, 0, none⟩) h.ar.length aC)) := ⟨cell_later hb6 HQ5.out.1, cell_later hb6 HQ5.out.2.1, cell_later hb6 HQ5.out.2.2⟩
  have HBW6 : Hid (Below b w w6) := HBW5.out.trans (hb6.mono (by have := HLW5.out; omega))
  clear hb6 HM5 HQ5 HBW5 HLW5 CK
  go_simp
  refine hK.out _ _ HQ6.out (fun hHeld => ?_)
  clear hK K
  try simp only [Act.put, List.setIfInBounds_toArray, List.set_cons_zero, List.set_cons_succ, List.getElem_toArray, List.getElem_cons_zero, List.getElem_cons_succ]
  refine wpAnyH_take (i := 9) (oi := _) (v := ?_) rfl (by kernel_rfl) (by kernel_rfl) (by kernel_rfl) (fun _ _ _ h => h) (Or.inl ⟨by rfl, ?_⟩) (by assumption) ?_
  rotate_left
  · intro w' hSw
    try dsimp only at hSw
    obtain ⟨t0, t1, t2⟩ := hSw
    go_simp
    all_goals with_reducible rfl
  try simp only [Act.put, List.setIfInBounds_toArray, List.set_cons_zero, List.set_cons_succ, List.getElem_toArray, List.getElem_cons_zero, List.getElem_cons_succ]
  refine wpAnyH_take (i := 10) (oi := _) (v := ?_) rfl (by kernel_rfl) (by kernel_rfl) (by kernel_rfl) (fun _ _ _ h => h) (Or.inl ⟨by rfl, ?_⟩) (by assumption) ?_
  rotate_left
  · intro w' hSw
    try dsimp only at hSw
    obtain ⟨t0, t1, t2⟩ := hSw
    go_simp
    all_goals with_reducible rfl
  try simp only [Act.put, List.setIfInBounds_toArray, List.set_cons_zero, List.set_cons_succ, List.getElem_toArray, List.getElem_cons_zero, List.getElem_cons_succ]
  refine wpAnyH_take (i := 11) (oi := _) (v := ?_) rfl (by kernel_rfl) (by kernel_rfl) (by kernel_rfl) (fun _ _ _ h => h) (Or.inl ⟨by rfl, ?_⟩) (by assumption) ?_
  rotate_left
  · intro w' hSw
    try dsimp only at hSw
    obtain ⟨t0, t1, t2⟩ := hSw
    go_simp
    all_goals with_reducible rfl
  try simp only [Act.put, List.setIfInBounds_toArray, List.set_cons_zero, List.set_cons_succ, List.getElem_toArray, List.getElem_cons_zero, List.getElem_cons_succ]
  have q1 : (0 : Int) ≤ (at_ : Int) := by omega
  have q2 : (at_ : Int) < (h.ar.length : Int) := by have := HALT.out; omega
  refine wpAnyH_take (i := 12) (oi := _) (v := ?_) rfl (by kernel_rfl) (by kernel_rfl) (by kernel_rfl) (fun _ _ _ h => h) (Or.inl ⟨by rfl, ?_⟩) (by assumption) ?_
  rotate_left
  · intro w' hSw
    try dsimp only at hSw
    obtain ⟨t0, t1, t2⟩ := hSw
    go_simp
    all_goals with_reducible rfl
  try simp only [Act.put, List.setIfInBounds_toArray, List.set_cons_zero, List.set_cons_succ, List.getElem_toArray, List.getElem_cons_zero, List.getElem_cons_succ]
  have har : OwU w6 (b + 1) (.slice (some ⟨ga, 0, none⟩) h.ar.length aC) h.ar := HM6.out.own.ar
  have hga := World.ownsRow.lt har ga rfl
  have hax : h.ar[at_]? = some h.ar[at_] := List.getElem?_eq_getElem HALT.out
  obtain ⟨a1, a2⟩ := own_cell (u := .int .u64 h.ar[at_]) har (k := at_) (us_get _ _ _ hax)
  generalize h.ar[at_] = ax at a1
  have HW6 := Lib.hid (HM6.out.word (k := at_) (x := pw) (Below.refl _ _) rfl)
  have HGA : Hid (b + 1 ≤ ga ∧ ga < w.heap.size) := ⟨hga.1, HGAW.out⟩
  have l6 := hga.2
  clear har hga hax
  refine wpAnyH_ready (rs := [13]) (by kernel_rfl) (by simp) ?_
  refine AllReadyH.cons (o := _) rfl (fun K hK => ?_) AllReadyH.nil
  go_simp
  clear a1 a2 l6 q1 q2
  refine hK.out _ _ ⟨(World.cell?_setCell_far _ _ _ _ (by have := HGA.out; simp; omega)).trans HQ6.out.1, (World.cell?_setCell_far _ _ _ _ (by have := HGA.out; simp; omega)).trans HQ6.out.2.1, (World.cell?_setCell_far _ _ _ _ (by have := HGA.out; simp; omega)).trans HQ6.out.2.2⟩ (fun hHeld => ?_)
  clear hK K
  try simp only [Act.put, List.setIfInBounds_toArray, List.set_cons_zero, List.set_cons_succ, List.getElem_toArray, List.getElem_cons_zero, List.getElem_cons_succ]
  refine wpAnyH_done (by kernel_rfl) ?_ _
  go_wp2
  go_ret
  have := HGA.out
  rw [EPH.out, ← HATQ.out]
  exact ⟨_, rfl, HW6.out, HBW6.out.setCell (by simp; omega) _⟩
end Go.Proofs.YtieijfefnedifaaGreatDoor
