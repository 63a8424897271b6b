/- The walk of read. -/
import Derived.Test.YtfgeomdfgjefdaaDoorAA
import Derived.Deep.RegionHeld3
namespace Go.Proofs.YtfgeomdfgjefdaaDoor
open Go.RowKit
set_option linter.unusedVariables false
set_option linter.unusedSimpArgs false

theorem put5_other {W : World} {b b' : Nat} {e e' : Ev} (h : VarE W b' e') (hne : b ≠ b') : VarE (put5 W b e) b' e' :=
  ((((h.set_ne (p := ⟨b, 0, none⟩) hne _).set_ne (p := ⟨b, 1, none⟩) hne _).set_ne (p := ⟨b, 2, none⟩) hne _).set_ne (p := ⟨b, 3, none⟩) hne _).set_ne (p := ⟨b, 4, none⟩) hne _
theorem VarE.five {W : World} {b : Nat} {e : Ev} (h : VarE W b e) : W.cell? ⟨b, 0, none⟩ = some (.bool e.thr) ∧ W.cell? ⟨b, 1, none⟩ = some (.int .i64 e.who) ∧ W.cell? ⟨b, 2, none⟩ = some (.int .u8 e.kind) ∧ W.cell? ⟨b, 3, none⟩ = some (.int .i64 e.tw) ∧ W.cell? ⟨b, 4, none⟩ = some (.int .i64 e.times) := ⟨h.c0, h.c1, h.c2, h.c3, h.c4⟩
/-- read's two variables behind its parts. -/
structure RdV (w wr : World) (b7 : Nat) (e : Ev) : Prop where
  v2 : VarE wr w.heap.size zeroEv
  f2 : ∀ j, wr.frozen? ⟨w.heap.size, j, none⟩ = false
  v7 : VarE wr b7 e
  ne : w.heap.size ≠ b7
  below : Below w.heap.size w wr
  le : w.heap.size ≤ b7
theorem RdV.later {w wr w2 : World} {b7 : Nat} {e : Ev} (h : RdV w wr b7 e) (hb : Below wr.heap.size wr w2) : RdV w w2 b7 e :=
  ⟨h.v2.below hb, fun j => (hb.frozen (p := ⟨w.heap.size, j, none⟩) (show w.heap.size < _ from World.block_lt_of_cell? _ _ h.v2.c0)).trans (h.f2 j), h.v7.below hb, h.ne, bthen h.below hb, h.le⟩
theorem RdV.setT {w wr : World} {b7 : Nat} {e : Ev} (h : RdV w wr b7 e) (t : Int) : RdV w (wr.setCell ⟨b7, 4, none⟩ (.int .i64 t)) b7 { e with times := t } :=
  ⟨h.v2.set_ne (p := ⟨b7, 4, none⟩) (fun e => h.ne e.symm) _, fun j => (World.frozen?_setCell _ _ _ _).trans (h.f2 j), h.v7.set_times t, h.ne, h.below.setCell (p := ⟨b7, 4, none⟩) h.le _, h.le⟩
def readP (l : List UInt8) : Ev × Bool :=
  let c := Lib.cut l [32, 42, 32]
  let h := headP c.1
  let e := if c.2.2 = true then { h.1 with times := (numP c.2.1).1 } else h.1
  let ok := if c.2.2 = true then h.2 && (numP c.2.1).2 else h.2
  (e, ok && (decide (okEv e) && decide (lineL e = l)))
set_option maxRecDepth 100000 in
set_option maxHeartbeats 32000000 in
theorem read23 (l : List UInt8) (hl : l.length ≤ 100000) (w : World) (hE : Env w) : Calls Tryd.prog 23 #[strV l] w (RetEB (readP l).1 (readP l).2 w) := by
  have HCU : Hid (∀ W, Below w.heap.size w W → Calls Tryd.prog 38 #[.string ⟨l.toArray⟩, .string ⟨#[32, 42, 32]⟩] W (Ret (.tuple #[.string ⟨(Lib.cut l [32, 42, 32]).1.toArray⟩, .string ⟨(Lib.cut l [32, 42, 32]).2.1.toArray⟩, .bool (Lib.cut l [32, 42, 32]).2.2]) W)) := fun W hW => by
    obtain ⟨m, hm⟩ := (hE.below hW).cut
    refine (Tryd.strings_Cut ⟨l.toArray⟩ ⟨#[32, 42, 32]⟩ m W (by simp [ByteArray.size]; omega) hm).mono ?_
    rintro e w' ⟨rfl, n, rfl⟩
    exact ⟨by simp, bdrewN (Below.refl _ _) n⟩
  have HNU : Hid (∀ (m : List UInt8) W, m.length ≤ 100000 → Below w.heap.size w W → Calls Tryd.prog 40 #[.string ⟨m.toArray⟩] W (Ret (.tuple #[.int .i64 (numP m).1, .bool (numP m).2]) W)) := fun m W hm hW => number40 m hm W (hE.below hW)
  have HHD : Hid (∀ (m : List UInt8) W, m.length ≤ 100000 → Below w.heap.size w W → Calls Tryd.prog 39 #[.string ⟨m.toArray⟩] W (RetEB (headP m).1 (headP m).2 W)) := fun m W hm hW => head39 m hm W (hE.below hW)
  have HLN : Hid (∀ (e : Ev) W, okEv e → Below w.heap.size w W → Calls Tryd.prog 26 #[e.v] W (Ret (strV (lineL e)) W)) := fun e W he hW => line26 e he W (hE.below hW)
  have hc1 := (cut_len l [32, 42, 32]).1
  have hc2 := (cut_len l [32, 42, 32]).2
  have HP : Hid (readP l = (let c := Lib.cut l [32, 42, 32]; let h := headP c.1; let e := if c.2.2 = true then { h.1 with times := (numP c.2.1).1 } else h.1; let ok := if c.2.2 = true then h.2 && (numP c.2.1).2 else h.2; (e, ok && (decide (okEv e) && decide (lineL e = l))))) := rfl
  have HX := Lib.hid (HCU.out (w.alloc (.cells #[.bool false, .int .i64 0, .int .u8 0, .int .i64 0, .int .i64 0] 41)) (balloc (Below.refl _ _) _))
  have HV0 := Lib.hid (VarE.made w zeroEv)
  have HB0 : Hid (Below w.heap.size w (w.alloc (.cells #[.bool false, .int .i64 0, .int .u8 0, .int .i64 0, .int .i64 0] 41))) := balloc (Below.refl _ _) _
  have HF0 : Hid (∀ j, (w.alloc (.cells #[.bool false, .int .i64 0, .int .u8 0, .int .i64 0, .int .i64 0] 41)).frozen? ⟨w.heap.size, j, none⟩ = false) := fun j => by go_simp
  simp only at HP
  generalize (Lib.cut l [32, 42, 32]).1 = l1 at *
  generalize (Lib.cut l [32, 42, 32]).2.1 = l2 at *
  generalize (Lib.cut l [32, 42, 32]).2.2 = many at *
  have HHX := Lib.hid (HHD.out l1)
  have HNX := Lib.hid (HNU.out l2)
  generalize headP l1 = h at *
  obtain ⟨e0, ok0⟩ := h
  generalize numP l2 = nn at *
  obtain ⟨n1, n2⟩ := nn
  simp only at HP HHX HNX
  unfold strV
  clear hE HCU HNU HHD
  unfold RetEB
  unfold RetEB at HHX
  go_enter Tryd.func23, Tryd.ntmps23
  go_wp2_with (go_at_call 38; refine HX.out.mono ?_)
  rintro e w1 ⟨rfl, hb1⟩
  have HB1 := Lib.hid (bthen HB0.out hb1)
  have HV1 := Lib.hid (HV0.out.below hb1)
  have HF1 : Hid (∀ j, w1.frozen? ⟨w.heap.size, j, none⟩ = false) := fun j => (hb1.frozen (p := ⟨w.heap.size, j, none⟩) (by simp)).trans (HF0.out j)
  have HH2 := Lib.hid (HHX.out w1 (by omega) HB1.out)
  clear hb1 HX HV0 HF0 HHX HB0
  go_wp2_with (go_at_call 39; refine HH2.out.mono ?_)
  rintro e w2 ⟨rfl, hb2⟩
  have HB2 := Lib.hid (bthen HB1.out hb2)
  have HV2 := Lib.hid (HV1.out.below hb2)
  have HF2 : Hid (∀ j, w2.frozen? ⟨w.heap.size, j, none⟩ = false) := fun j => (hb2.frozen (p := ⟨w.heap.size, j, none⟩) (show w.heap.size < _ from World.block_lt_of_cell? _ _ HV1.out.c0)).trans (HF1.out j)
  clear hb2 HH2 HV1 HF1
  obtain ⟨t0, wh0, k0, tw0, n0⟩ := e0
  unfold Ev.v
  simp only
  have HR3 : Hid (RdV w (w2.alloc (.cells #[.bool t0, .int .i64 wh0, .int .u8 k0, .int .i64 tw0, .int .i64 n0] 41)) w2.heap.size ⟨t0, wh0, k0, tw0, n0⟩) := by
    have hb : Below w2.heap.size w2 (w2.alloc (.cells #[.bool t0, .int .i64 wh0, .int .u8 k0, .int .i64 tw0, .int .i64 n0] 41)) := balloc (Below.refl _ _) _
    have hlt : w.heap.size < w2.heap.size := World.block_lt_of_cell? _ _ HV2.out.c0
    exact ⟨HV2.out.below hb, fun j => (hb.frozen (p := ⟨w.heap.size, j, none⟩) hlt).trans (HF2.out j), VarE.made w2 ⟨t0, wh0, k0, tw0, n0⟩, by omega, bthen HB2.out hb, by omega⟩
  go_upto_region 3 with fail
  generalize (w2.alloc (.cells #[.bool t0, .int .i64 wh0, .int .u8 k0, .int .i64 tw0, .int .i64 n0] 41)) = w3 at *
  generalize w2.heap.size = b7 at *
  clear HV2 HF2 HB2
  cases many with
  | false =>
    simp only [Bool.false_eq_true, if_false] at HP
    clear HNX
    go_upto_region 6 with fail
    cases ok0 with
    | false =>
      rw [Bool.false_and] at HP
      refine wp_region_held_drew (S := fun W => W.cell? ⟨b7, 0, none⟩ = some (.bool t0) ∧ W.cell? ⟨b7, 1, none⟩ = some (.int .i64 wh0) ∧ W.cell? ⟨b7, 2, none⟩ = some (.int .u8 k0) ∧ W.cell? ⟨b7, 3, none⟩ = some (.int .i64 tw0) ∧ W.cell? ⟨b7, 4, none⟩ = some (.int .i64 n0)) (by kernel_rfl) (HR3.out.later (Below.refl _ _).drew).v7.five (fun hHeld => ?_)
      have HR6 := Lib.hid (HR3.out.later (Below.refl _ _).drew)
      generalize w3.drew = w6 at *
      refine wpAnyH_take (i := 0) (oi := _) (v := ?_) rfl (by kernel_rfl) (by kernel_rfl) (by kernel_rfl) (fun _ _ _ h => h) (Or.inl ⟨by rfl, ?_⟩) (by assumption) ?_
      rotate_left
      · intro w hSw
        try dsimp only at hSw
        obtain ⟨s0, s1, s2, s3, s4⟩ := hSw
        go_simp
        all_goals with_reducible rfl
      try simp only [Act.put, List.setIfInBounds_toArray, List.set_cons_zero, List.set_cons_succ, List.getElem_toArray, List.getElem_cons_zero, List.getElem_cons_succ]
      refine wpAnyH_take (i := 1) (oi := _) (v := ?_) rfl (by kernel_rfl) (by kernel_rfl) (by kernel_rfl) (fun _ _ _ h => h) (Or.inl ⟨by rfl, ?_⟩) (by assumption) ?_
      rotate_left
      · intro w hSw
        try dsimp only at hSw
        obtain ⟨s0, s1, s2, s3, s4⟩ := hSw
        go_simp
        all_goals with_reducible rfl
      try simp only [Act.put, List.setIfInBounds_toArray, List.set_cons_zero, List.set_cons_succ, List.getElem_toArray, List.getElem_cons_zero, List.getElem_cons_succ]
      refine wpAnyH_take (i := 2) (oi := _) (v := ?_) rfl (by kernel_rfl) (by kernel_rfl) (by kernel_rfl) (fun _ _ _ h => h) (Or.inl ⟨by rfl, ?_⟩) (by assumption) ?_
      rotate_left
      · intro w hSw
        try dsimp only at hSw
        obtain ⟨s0, s1, s2, s3, s4⟩ := hSw
        go_simp
        all_goals with_reducible rfl
      try simp only [Act.put, List.setIfInBounds_toArray, List.set_cons_zero, List.set_cons_succ, List.getElem_toArray, List.getElem_cons_zero, List.getElem_cons_succ]
      refine wpAnyH_take (i := 3) (oi := _) (v := undef) rfl (by kernel_rfl) (by kernel_rfl) (by kernel_rfl) (fun _ _ _ h => h) (Or.inr ⟨by rfl, rfl⟩) (by assumption) ?_
      try simp only [Act.put, List.setIfInBounds_toArray, List.set_cons_zero, List.set_cons_succ, List.getElem_toArray, List.getElem_cons_zero, List.getElem_cons_succ]
      refine wpAnyH_take (i := 4) (oi := _) (v := undef) rfl (by kernel_rfl) (by kernel_rfl) (by kernel_rfl) (fun _ _ _ h => h) (Or.inr ⟨by rfl, rfl⟩) (by assumption) ?_
      try simp only [Act.put, List.setIfInBounds_toArray, List.set_cons_zero, List.set_cons_succ, List.getElem_toArray, List.getElem_cons_zero, List.getElem_cons_succ]
      refine wpAnyH_take (i := 5) (oi := _) (v := ?_) rfl (by kernel_rfl) (by kernel_rfl) (by kernel_rfl) (fun _ _ _ h => h) (Or.inl ⟨by rfl, ?_⟩) (by assumption) ?_
      rotate_left
      · intro w hSw
        try dsimp only at hSw
        obtain ⟨s0, s1, s2, s3, s4⟩ := hSw
        go_simp
        all_goals with_reducible rfl
      try simp only [Act.put, List.setIfInBounds_toArray, List.set_cons_zero, List.set_cons_succ, List.getElem_toArray, List.getElem_cons_zero, List.getElem_cons_succ]
      refine wpAnyH_take (i := 6) (oi := _) (v := ?_) rfl (by kernel_rfl) (by kernel_rfl) (by kernel_rfl) (fun _ _ _ h => h) (Or.inl ⟨by rfl, ?_⟩) (by assumption) ?_
      rotate_left
      · intro w hSw
        try dsimp only at hSw
        obtain ⟨s0, s1, s2, s3, s4⟩ := hSw
        go_simp
        all_goals with_reducible rfl
      try simp only [Act.put, List.setIfInBounds_toArray, List.set_cons_zero, List.set_cons_succ, List.getElem_toArray, List.getElem_cons_zero, List.getElem_cons_succ]
      refine wpAnyH_take (i := 7) (oi := _) (v := undef) rfl (by kernel_rfl) (by kernel_rfl) (by kernel_rfl) (fun _ _ _ h => h) (Or.inr ⟨by rfl, rfl⟩) (by assumption) ?_
      try simp only [Act.put, List.setIfInBounds_toArray, List.set_cons_zero, List.set_cons_succ, List.getElem_toArray, List.getElem_cons_zero, List.getElem_cons_succ]
      refine wpAnyH_take (i := 8) (oi := _) (v := undef) rfl (by kernel_rfl) (by kernel_rfl) (by kernel_rfl) (fun _ _ _ h => h) (Or.inr ⟨by rfl, rfl⟩) (by assumption) ?_
      try simp only [Act.put, List.setIfInBounds_toArray, List.set_cons_zero, List.set_cons_succ, List.getElem_toArray, List.getElem_cons_zero, List.getElem_cons_succ]
      refine wpAnyH_take (i := 9) (oi := _) (v := undef) rfl (by kernel_rfl) (by kernel_rfl) (by kernel_rfl) (fun _ _ _ h => h) (Or.inr ⟨by rfl, rfl⟩) (by assumption) ?_
      try simp only [Act.put, List.setIfInBounds_toArray, List.set_cons_zero, List.set_cons_succ, List.getElem_toArray, List.getElem_cons_zero, List.getElem_cons_succ]
      refine wpAnyH_take (i := 10) (oi := _) (v := undef) rfl (by kernel_rfl) (by kernel_rfl) (by kernel_rfl) (fun _ _ _ h => h) (Or.inr ⟨by rfl, rfl⟩) (by assumption) ?_
      try simp only [Act.put, List.setIfInBounds_toArray, List.set_cons_zero, List.set_cons_succ, List.getElem_toArray, List.getElem_cons_zero, List.getElem_cons_succ]
      refine wpAnyH_take (i := 11) (oi := _) (v := ?_) rfl (by kernel_rfl) (by kernel_rfl) (by kernel_rfl) (fun _ _ _ h => h) (Or.inl ⟨by rfl, ?_⟩) (by assumption) ?_
      rotate_left
      · intro w hSw
        try dsimp only at hSw
        obtain ⟨s0, s1, s2, s3, s4⟩ := hSw
        go_simp
        all_goals with_reducible rfl
      try simp only [Act.put, List.setIfInBounds_toArray, List.set_cons_zero, List.set_cons_succ, List.getElem_toArray, List.getElem_cons_zero, List.getElem_cons_succ]
      obtain ⟨p0, p1, p2, p3, p4, -⟩ := HR6.out.v2
      simp only [zeroEv] at p0 p1 p2 p3 p4
      have y2 := HR6.out.f2
      have mp := World.block_lt_of_cell? _ _ p0
      refine wpAnyH_ready (rs := [12]) (by kernel_rfl) (by simp) ?_
      refine AllReadyH.cons (o := _) rfl (fun K hK => ?_) AllReadyH.nil
      go_simp
      refine hK.out _ _ (put5_other (e := ⟨t0, wh0, k0, tw0, n0⟩) HR6.out.v7 HR6.out.ne).five (fun hHeld => ?_)
      clear hK K
      try simp only [Act.put, List.setIfInBounds_toArray, List.set_cons_zero, List.set_cons_succ, List.getElem_toArray, List.getElem_cons_zero, List.getElem_cons_succ]
      clear p0 p1 p2 p3 p4 y2 mp
      refine wpAnyH_take (i := 13) (oi := _) (v := ?_) rfl (by kernel_rfl) (by kernel_rfl) (by kernel_rfl) (fun _ _ _ h => h) (Or.inl ⟨by rfl, ?_⟩) (by assumption) ?_
      rotate_left
      · intro w hSw
        try dsimp only at hSw
        obtain ⟨s0, s1, s2, s3, s4⟩ := hSw
        go_simp
        all_goals with_reducible rfl
      try simp only [Act.put, List.setIfInBounds_toArray, List.set_cons_zero, List.set_cons_succ, List.getElem_toArray, List.getElem_cons_zero, List.getElem_cons_succ]
      refine wpAnyH_done (by kernel_rfl) ?_ _
      go_wp2
      have hv := (HR6.out.v2).put (⟨t0, wh0, k0, tw0, n0⟩ : Ev)
      have hbl : Below w.heap.size w (put5 w6 w.heap.size (⟨t0, wh0, k0, tw0, n0⟩ : Ev)) := below_put5 (HR6.out.below) _
      unfold put5 at hv hbl
      obtain ⟨f0, f1, f2, f3, f4, -⟩ := hv
      try simp only [zeroEv] at f0 f1 f2 f3 f4 hbl
      refine bodyPost_ret (v := .tuple #[Ev.v (⟨t0, wh0, k0, tw0, n0⟩ : Ev), .bool false]) (by simp [results, Tryd.results23, go_sem, f0, f1, f2, f3, f4, Ev.v, zeroEv]) rfl ?_
      rw [HP.out]
      exact ⟨rfl, hbl⟩
    | true =>
      rw [Bool.true_and] at HP
      refine wp_region_held_drew (S := fun W => W.cell? ⟨b7, 0, none⟩ = some (.bool t0) ∧ W.cell? ⟨b7, 1, none⟩ = some (.int .i64 wh0) ∧ W.cell? ⟨b7, 2, none⟩ = some (.int .u8 k0) ∧ W.cell? ⟨b7, 3, none⟩ = some (.int .i64 tw0) ∧ W.cell? ⟨b7, 4, none⟩ = some (.int .i64 n0)) (by kernel_rfl) (HR3.out.later (Below.refl _ _).drew).v7.five (fun hHeld => ?_)
      have HR6 := Lib.hid (HR3.out.later (Below.refl _ _).drew)
      generalize w3.drew = w6 at *
      refine wpAnyH_take (i := 0) (oi := _) (v := ?_) rfl (by kernel_rfl) (by kernel_rfl) (by kernel_rfl) (fun _ _ _ h => h) (Or.inl ⟨by rfl, ?_⟩) (by assumption) ?_
      rotate_left
      · intro w hSw
        try dsimp only at hSw
        obtain ⟨s0, s1, s2, s3, s4⟩ := hSw
        go_simp
        all_goals with_reducible rfl
      try simp only [Act.put, List.setIfInBounds_toArray, List.set_cons_zero, List.set_cons_succ, List.getElem_toArray, List.getElem_cons_zero, List.getElem_cons_succ]
      refine wpAnyH_take (i := 1) (oi := _) (v := ?_) rfl (by kernel_rfl) (by kernel_rfl) (by kernel_rfl) (fun _ _ _ h => h) (Or.inl ⟨by rfl, ?_⟩) (by assumption) ?_
      rotate_left
      · intro w hSw
        try dsimp only at hSw
        obtain ⟨s0, s1, s2, s3, s4⟩ := hSw
        go_simp
        all_goals with_reducible rfl
      try simp only [Act.put, List.setIfInBounds_toArray, List.set_cons_zero, List.set_cons_succ, List.getElem_toArray, List.getElem_cons_zero, List.getElem_cons_succ]
      refine wpAnyH_take (i := 2) (oi := _) (v := ?_) rfl (by kernel_rfl) (by kernel_rfl) (by kernel_rfl) (fun _ _ _ h => h) (Or.inl ⟨by rfl, ?_⟩) (by assumption) ?_
      rotate_left
      · intro w hSw
        try dsimp only at hSw
        obtain ⟨s0, s1, s2, s3, s4⟩ := hSw
        go_simp
        all_goals with_reducible rfl
      try simp only [Act.put, List.setIfInBounds_toArray, List.set_cons_zero, List.set_cons_succ, List.getElem_toArray, List.getElem_cons_zero, List.getElem_cons_succ]
      refine wpAnyH_take (i := 3) (oi := _) (v := ?_) rfl (by kernel_rfl) (by kernel_rfl) (by kernel_rfl) (fun _ _ _ h => h) (Or.inl ⟨by rfl, ?_⟩) (by assumption) ?_
      rotate_left
      · intro w hSw
        try dsimp only at hSw
        obtain ⟨s0, s1, s2, s3, s4⟩ := hSw
        go_simp
        all_goals with_reducible rfl
      try simp only [Act.put, List.setIfInBounds_toArray, List.set_cons_zero, List.set_cons_succ, List.getElem_toArray, List.getElem_cons_zero, List.getElem_cons_succ]
      have HRT := Lib.hid (right35 ⟨t0, wh0, k0, tw0, n0⟩ w6)
      unfold Ev.v at HRT
      simp only at HRT
      by_cases hok : okEv ⟨t0, wh0, k0, tw0, n0⟩
      · rw [decide_eq_true hok] at HRT
        rw [decide_eq_true hok, Bool.true_and] at HP
        have HLX := Lib.hid (fun W hW => HLN.out _ W hok hW)
        unfold Ev.v at HLX
        simp only at HLX
        clear hok
        refine wpAnyH_ready (rs := [4]) (by kernel_rfl) (by simp) ?_
        refine AllReadyH.cons (o := _) rfl (fun K hK => ?_) AllReadyH.nil
        go_simp
        go_at_call 35
        refine HRT.out.mono ?_
        rintro e w7 ⟨rfl, hb7⟩
        have HR7 := Lib.hid (HR6.out.later hb7)
        have HLW := Lib.hid (HLX.out w7 HR7.out.below)
        clear hb7 HRT HLX HLN HR6
        go_simp
        refine hK.out _ _ HR7.out.v7.five (fun hHeld => ?_)
        clear hK K
        try simp only [Act.put, List.setIfInBounds_toArray, List.set_cons_zero, List.set_cons_succ, List.getElem_toArray, List.getElem_cons_zero, List.getElem_cons_succ]
        refine wpAnyH_take (i := 5) (oi := _) (v := ?_) rfl (by kernel_rfl) (by kernel_rfl) (by kernel_rfl) (fun _ _ _ h => h) (Or.inl ⟨by rfl, ?_⟩) (by assumption) ?_
        rotate_left
        · intro w hSw
          try dsimp only at hSw
          obtain ⟨s0, s1, s2, s3, s4⟩ := hSw
          go_simp
          all_goals with_reducible rfl
        try simp only [Act.put, List.setIfInBounds_toArray, List.set_cons_zero, List.set_cons_succ, List.getElem_toArray, List.getElem_cons_zero, List.getElem_cons_succ]
        refine wpAnyH_take (i := 6) (oi := _) (v := ?_) rfl (by kernel_rfl) (by kernel_rfl) (by kernel_rfl) (fun _ _ _ h => h) (Or.inl ⟨by rfl, ?_⟩) (by assumption) ?_
        rotate_left
        · intro w hSw
          try dsimp only at hSw
          obtain ⟨s0, s1, s2, s3, s4⟩ := hSw
          go_simp
          all_goals with_reducible rfl
        try simp only [Act.put, List.setIfInBounds_toArray, List.set_cons_zero, List.set_cons_succ, List.getElem_toArray, List.getElem_cons_zero, List.getElem_cons_succ]
        refine wpAnyH_take (i := 7) (oi := _) (v := ?_) rfl (by kernel_rfl) (by kernel_rfl) (by kernel_rfl) (fun _ _ _ h => h) (Or.inl ⟨by rfl, ?_⟩) (by assumption) ?_
        rotate_left
        · intro w hSw
          try dsimp only at hSw
          obtain ⟨s0, s1, s2, s3, s4⟩ := hSw
          go_simp
          all_goals with_reducible rfl
        try simp only [Act.put, List.setIfInBounds_toArray, List.set_cons_zero, List.set_cons_succ, List.getElem_toArray, List.getElem_cons_zero, List.getElem_cons_succ]
        refine wpAnyH_take (i := 9) (oi := _) (v := ?_) rfl (by kernel_rfl) (by kernel_rfl) (by kernel_rfl) (fun _ _ _ h => h) (Or.inl ⟨by rfl, ?_⟩) (by assumption) ?_
        rotate_left
        · intro w hSw
          try dsimp only at hSw
          obtain ⟨s0, s1, s2, s3, s4⟩ := hSw
          go_simp
          all_goals with_reducible rfl
        try simp only [Act.put, List.setIfInBounds_toArray, List.set_cons_zero, List.set_cons_succ, List.getElem_toArray, List.getElem_cons_zero, List.getElem_cons_succ]
        by_cases hle : lineL ⟨t0, wh0, k0, tw0, n0⟩ = l
        · rw [decide_eq_true hle] at HP
          rw [hle] at HLW
          unfold strV at HLW
          clear hle
          refine wpAnyH_ready (rs := [8]) (by kernel_rfl) (by simp) ?_
          refine AllReadyH.cons (o := _) rfl (fun K hK => ?_) AllReadyH.nil
          go_simp
          go_at_call 26
          refine HLW.out.mono ?_
          rintro e w8 ⟨rfl, hb8⟩
          have HR8 := Lib.hid (HR7.out.later hb8)
          clear hb8 HLW HR7
          go_simp
          refine hK.out _ _ HR8.out.v7.five (fun hHeld => ?_)
          clear hK K
          try simp only [Act.put, List.setIfInBounds_toArray, List.set_cons_zero, List.set_cons_succ, List.getElem_toArray, List.getElem_cons_zero, List.getElem_cons_succ]
          refine wpAnyH_take (i := 10) (oi := _) (v := ?_) rfl (by kernel_rfl) (by kernel_rfl) (by kernel_rfl) (fun _ _ _ h => h) (Or.inl ⟨by rfl, ?_⟩) (by assumption) ?_
          rotate_left
          · intro w hSw
            try dsimp only at hSw
            obtain ⟨s0, s1, s2, s3, s4⟩ := hSw
            go_simp
            all_goals with_reducible rfl
          try simp only [Act.put, List.setIfInBounds_toArray, List.set_cons_zero, List.set_cons_succ, List.getElem_toArray, List.getElem_cons_zero, List.getElem_cons_succ]
          refine wpAnyH_take (i := 11) (oi := _) (v := ?_) rfl (by kernel_rfl) (by kernel_rfl) (by kernel_rfl) (fun _ _ _ h => h) (Or.inl ⟨by rfl, ?_⟩) (by assumption) ?_
          rotate_left
          · intro w hSw
            try dsimp only at hSw
            obtain ⟨s0, s1, s2, s3, s4⟩ := hSw
            go_simp
            all_goals with_reducible rfl
          try simp only [Act.put, List.setIfInBounds_toArray, List.set_cons_zero, List.set_cons_succ, List.getElem_toArray, List.getElem_cons_zero, List.getElem_cons_succ]
          obtain ⟨p0, p1, p2, p3, p4, -⟩ := HR8.out.v2
          simp only [zeroEv] at p0 p1 p2 p3 p4
          have y2 := HR8.out.f2
          have mp := World.block_lt_of_cell? _ _ p0
          refine wpAnyH_ready (rs := [12]) (by kernel_rfl) (by simp) ?_
          refine AllReadyH.cons (o := _) rfl (fun K hK => ?_) AllReadyH.nil
          go_simp
          refine hK.out _ _ (put5_other (e := ⟨t0, wh0, k0, tw0, n0⟩) HR8.out.v7 HR8.out.ne).five (fun hHeld => ?_)
          clear hK K
          try simp only [Act.put, List.setIfInBounds_toArray, List.set_cons_zero, List.set_cons_succ, List.getElem_toArray, List.getElem_cons_zero, List.getElem_cons_succ]
          clear p0 p1 p2 p3 p4 y2 mp
          refine wpAnyH_take (i := 13) (oi := _) (v := ?_) rfl (by kernel_rfl) (by kernel_rfl) (by kernel_rfl) (fun _ _ _ h => h) (Or.inl ⟨by rfl, ?_⟩) (by assumption) ?_
          rotate_left
          · intro w hSw
            try dsimp only at hSw
            obtain ⟨s0, s1, s2, s3, s4⟩ := hSw
            go_simp
            all_goals with_reducible rfl
          try simp only [Act.put, List.setIfInBounds_toArray, List.set_cons_zero, List.set_cons_succ, List.getElem_toArray, List.getElem_cons_zero, List.getElem_cons_succ]
          refine wpAnyH_done (by kernel_rfl) ?_ _
          go_wp2
          have hv := (HR8.out.v2).put (⟨t0, wh0, k0, tw0, n0⟩ : Ev)
          have hbl : Below w.heap.size w (put5 w8 w.heap.size (⟨t0, wh0, k0, tw0, n0⟩ : Ev)) := below_put5 (HR8.out.below) _
          unfold put5 at hv hbl
          obtain ⟨f0, f1, f2, f3, f4, -⟩ := hv
          try simp only [zeroEv] at f0 f1 f2 f3 f4 hbl
          refine bodyPost_ret (v := .tuple #[Ev.v (⟨t0, wh0, k0, tw0, n0⟩ : Ev), .bool true]) (by simp [results, Tryd.results23, go_sem, f0, f1, f2, f3, f4, Ev.v, zeroEv]) rfl ?_
          rw [HP.out]
          exact ⟨rfl, hbl⟩
        · rw [decide_eq_false hle] at HP
          generalize lineL ⟨t0, wh0, k0, tw0, n0⟩ = ll at *
          obtain ⟨q1, q2, q3, q4⟩ := str_ne hle
          unfold strV at HLW
          refine wpAnyH_ready (rs := [8]) (by kernel_rfl) (by simp) ?_
          refine AllReadyH.cons (o := _) rfl (fun K hK => ?_) AllReadyH.nil
          go_simp
          go_at_call 26
          refine HLW.out.mono ?_
          rintro e w8 ⟨rfl, hb8⟩
          have HR8 := Lib.hid (HR7.out.later hb8)
          clear hb8 HLW HR7
          go_simp
          refine hK.out _ _ HR8.out.v7.five (fun hHeld => ?_)
          clear hK K
          try simp only [Act.put, List.setIfInBounds_toArray, List.set_cons_zero, List.set_cons_succ, List.getElem_toArray, List.getElem_cons_zero, List.getElem_cons_succ]
          refine wpAnyH_take (i := 10) (oi := _) (v := ?_) rfl (by kernel_rfl) (by kernel_rfl) (by kernel_rfl) (fun _ _ _ h => h) (Or.inl ⟨by rfl, ?_⟩) (by assumption) ?_
          rotate_left
          · intro w hSw
            try dsimp only at hSw
            obtain ⟨s0, s1, s2, s3, s4⟩ := hSw
            go_simp
            all_goals with_reducible rfl
          try simp only [Act.put, List.setIfInBounds_toArray, List.set_cons_zero, List.set_cons_succ, List.getElem_toArray, List.getElem_cons_zero, List.getElem_cons_succ]
          refine wpAnyH_take (i := 11) (oi := _) (v := ?_) rfl (by kernel_rfl) (by kernel_rfl) (by kernel_rfl) (fun _ _ _ h => h) (Or.inl ⟨by rfl, ?_⟩) (by assumption) ?_
          rotate_left
          · intro w hSw
            try dsimp only at hSw
            obtain ⟨s0, s1, s2, s3, s4⟩ := hSw
            go_simp
            all_goals with_reducible rfl
          try simp only [Act.put, List.setIfInBounds_toArray, List.set_cons_zero, List.set_cons_succ, List.getElem_toArray, List.getElem_cons_zero, List.getElem_cons_succ]
          obtain ⟨p0, p1, p2, p3, p4, -⟩ := HR8.out.v2
          simp only [zeroEv] at p0 p1 p2 p3 p4
          have y2 := HR8.out.f2
          have mp := World.block_lt_of_cell? _ _ p0
          refine wpAnyH_ready (rs := [12]) (by kernel_rfl) (by simp) ?_
          refine AllReadyH.cons (o := _) rfl (fun K hK => ?_) AllReadyH.nil
          go_simp
          refine hK.out _ _ (put5_other (e := ⟨t0, wh0, k0, tw0, n0⟩) HR8.out.v7 HR8.out.ne).five (fun hHeld => ?_)
          clear hK K
          try simp only [Act.put, List.setIfInBounds_toArray, List.set_cons_zero, List.set_cons_succ, List.getElem_toArray, List.getElem_cons_zero, List.getElem_cons_succ]
          clear p0 p1 p2 p3 p4 y2 mp
          refine wpAnyH_take (i := 13) (oi := _) (v := ?_) rfl (by kernel_rfl) (by kernel_rfl) (by kernel_rfl) (fun _ _ _ h => h) (Or.inl ⟨by rfl, ?_⟩) (by assumption) ?_
          rotate_left
          · intro w hSw
            try dsimp only at hSw
            obtain ⟨s0, s1, s2, s3, s4⟩ := hSw
            go_simp
            all_goals with_reducible rfl
          try simp only [Act.put, List.setIfInBounds_toArray, List.set_cons_zero, List.set_cons_succ, List.getElem_toArray, List.getElem_cons_zero, List.getElem_cons_succ]
          refine wpAnyH_done (by kernel_rfl) ?_ _
          go_wp2
          have hv := (HR8.out.v2).put (⟨t0, wh0, k0, tw0, n0⟩ : Ev)
          have hbl : Below w.heap.size w (put5 w8 w.heap.size (⟨t0, wh0, k0, tw0, n0⟩ : Ev)) := below_put5 (HR8.out.below) _
          unfold put5 at hv hbl
          obtain ⟨f0, f1, f2, f3, f4, -⟩ := hv
          try simp only [zeroEv] at f0 f1 f2 f3 f4 hbl
          refine bodyPost_ret (v := .tuple #[Ev.v (⟨t0, wh0, k0, tw0, n0⟩ : Ev), .bool false]) (by simp [results, Tryd.results23, go_sem, f0, f1, f2, f3, f4, Ev.v, zeroEv]) rfl ?_
          rw [HP.out]
          exact ⟨rfl, hbl⟩
      · rw [decide_eq_false hok] at HRT
        rw [decide_eq_false hok, Bool.false_and] at HP
        clear hok HLN
        refine wpAnyH_ready (rs := [4]) (by kernel_rfl) (by simp) ?_
        refine AllReadyH.cons (o := _) rfl (fun K hK => ?_) AllReadyH.nil
        go_simp
        go_at_call 35
        refine HRT.out.mono ?_
        rintro e w7 ⟨rfl, hb7⟩
        have HR7 := Lib.hid (HR6.out.later hb7)
        clear hb7 HRT HR6
        go_simp
        refine hK.out _ _ HR7.out.v7.five (fun hHeld => ?_)
        clear hK K
        try simp only [Act.put, List.setIfInBounds_toArray, List.set_cons_zero, List.set_cons_succ, List.getElem_toArray, List.getElem_cons_zero, List.getElem_cons_succ]
        refine wpAnyH_take (i := 5) (oi := _) (v := ?_) rfl (by kernel_rfl) (by kernel_rfl) (by kernel_rfl) (fun _ _ _ h => h) (Or.inl ⟨by rfl, ?_⟩) (by assumption) ?_
        rotate_left
        · intro w hSw
          try dsimp only at hSw
          obtain ⟨s0, s1, s2, s3, s4⟩ := hSw
          go_simp
          all_goals with_reducible rfl
        try simp only [Act.put, List.setIfInBounds_toArray, List.set_cons_zero, List.set_cons_succ, List.getElem_toArray, List.getElem_cons_zero, List.getElem_cons_succ]
        refine wpAnyH_take (i := 6) (oi := _) (v := ?_) rfl (by kernel_rfl) (by kernel_rfl) (by kernel_rfl) (fun _ _ _ h => h) (Or.inl ⟨by rfl, ?_⟩) (by assumption) ?_
        rotate_left
        · intro w hSw
          try dsimp only at hSw
          obtain ⟨s0, s1, s2, s3, s4⟩ := hSw
          go_simp
          all_goals with_reducible rfl
        try simp only [Act.put, List.setIfInBounds_toArray, List.set_cons_zero, List.set_cons_succ, List.getElem_toArray, List.getElem_cons_zero, List.getElem_cons_succ]
        refine wpAnyH_take (i := 7) (oi := _) (v := undef) rfl (by kernel_rfl) (by kernel_rfl) (by kernel_rfl) (fun _ _ _ h => h) (Or.inr ⟨by rfl, rfl⟩) (by assumption) ?_
        try simp only [Act.put, List.setIfInBounds_toArray, List.set_cons_zero, List.set_cons_succ, List.getElem_toArray, List.getElem_cons_zero, List.getElem_cons_succ]
        refine wpAnyH_take (i := 8) (oi := _) (v := undef) rfl (by kernel_rfl) (by kernel_rfl) (by kernel_rfl) (fun _ _ _ h => h) (Or.inr ⟨by rfl, rfl⟩) (by assumption) ?_
        try simp only [Act.put, List.setIfInBounds_toArray, List.set_cons_zero, List.set_cons_succ, List.getElem_toArray, List.getElem_cons_zero, List.getElem_cons_succ]
        refine wpAnyH_take (i := 9) (oi := _) (v := undef) rfl (by kernel_rfl) (by kernel_rfl) (by kernel_rfl) (fun _ _ _ h => h) (Or.inr ⟨by rfl, rfl⟩) (by assumption) ?_
        try simp only [Act.put, List.setIfInBounds_toArray, List.set_cons_zero, List.set_cons_succ, List.getElem_toArray, List.getElem_cons_zero, List.getElem_cons_succ]
        refine wpAnyH_take (i := 10) (oi := _) (v := undef) rfl (by kernel_rfl) (by kernel_rfl) (by kernel_rfl) (fun _ _ _ h => h) (Or.inr ⟨by rfl, rfl⟩) (by assumption) ?_
        try simp only [Act.put, List.setIfInBounds_toArray, List.set_cons_zero, List.set_cons_succ, List.getElem_toArray, List.getElem_cons_zero, List.getElem_cons_succ]
        refine wpAnyH_take (i := 11) (oi := _) (v := ?_) rfl (by kernel_rfl) (by kernel_rfl) (by kernel_rfl) (fun _ _ _ h => h) (Or.inl ⟨by rfl, ?_⟩) (by assumption) ?_
        rotate_left
        · intro w hSw
          try dsimp only at hSw
          obtain ⟨s0, s1, s2, s3, s4⟩ := hSw
          go_simp
          all_goals with_reducible rfl
        try simp only [Act.put, List.setIfInBounds_toArray, List.set_cons_zero, List.set_cons_succ, List.getElem_toArray, List.getElem_cons_zero, List.getElem_cons_succ]
        obtain ⟨p0, p1, p2, p3, p4, -⟩ := HR7.out.v2
        simp only [zeroEv] at p0 p1 p2 p3 p4
        have y2 := HR7.out.f2
        have mp := World.block_lt_of_cell? _ _ p0
        refine wpAnyH_ready (rs := [12]) (by kernel_rfl) (by simp) ?_
        refine AllReadyH.cons (o := _) rfl (fun K hK => ?_) AllReadyH.nil
        go_simp
        refine hK.out _ _ (put5_other (e := ⟨t0, wh0, k0, tw0, n0⟩) HR7.out.v7 HR7.out.ne).five (fun hHeld => ?_)
        clear hK K
        try simp only [Act.put, List.setIfInBounds_toArray, List.set_cons_zero, List.set_cons_succ, List.getElem_toArray, List.getElem_cons_zero, List.getElem_cons_succ]
        clear p0 p1 p2 p3 p4 y2 mp
        refine wpAnyH_take (i := 13) (oi := _) (v := ?_) rfl (by kernel_rfl) (by kernel_rfl) (by kernel_rfl) (fun _ _ _ h => h) (Or.inl ⟨by rfl, ?_⟩) (by assumption) ?_
        rotate_left
        · intro w hSw
          try dsimp only at hSw
          obtain ⟨s0, s1, s2, s3, s4⟩ := hSw
          go_simp
          all_goals with_reducible rfl
        try simp only [Act.put, List.setIfInBounds_toArray, List.set_cons_zero, List.set_cons_succ, List.getElem_toArray, List.getElem_cons_zero, List.getElem_cons_succ]
        refine wpAnyH_done (by kernel_rfl) ?_ _
        go_wp2
        have hv := (HR7.out.v2).put (⟨t0, wh0, k0, tw0, n0⟩ : Ev)
        have hbl : Below w.heap.size w (put5 w7 w.heap.size (⟨t0, wh0, k0, tw0, n0⟩ : Ev)) := below_put5 (HR7.out.below) _
        unfold put5 at hv hbl
        obtain ⟨f0, f1, f2, f3, f4, -⟩ := hv
        try simp only [zeroEv] at f0 f1 f2 f3 f4 hbl
        refine bodyPost_ret (v := .tuple #[Ev.v (⟨t0, wh0, k0, tw0, n0⟩ : Ev), .bool false]) (by simp [results, Tryd.results23, go_sem, f0, f1, f2, f3, f4, Ev.v, zeroEv]) rfl ?_
        rw [HP.out]
        exact ⟨rfl, hbl⟩
  | true =>
    simp only [if_true] at HP
    have HN3 := Lib.hid (HNX.out w3 (by omega) HR3.out.below)
    clear HNX
    go_wp2_with (go_at_call 40; refine HN3.out.mono ?_)
    rintro e w4 ⟨rfl, hb4⟩
    have HR4 := Lib.hid (HR3.out.later hb4)
    have HR5 := Lib.hid (HR4.out.setT n1)
    simp only at HR5
    obtain ⟨-, -, -, -, k4, kz⟩ := HR4.out.v7
    simp only at k4
    have mk := World.block_lt_of_cell? _ _ k4
    clear hb4 HN3 HR3
    cases ok0 with
    | false =>
      rw [Bool.false_and, Bool.false_and] at HP
      go_upto_region 6 with fail
      clear k4 kz mk HR4
      generalize w4.setCell ⟨b7, 4, none⟩ (.int .i64 n1) = w5 at *
      refine wp_region_held_drew (S := fun W => W.cell? ⟨b7, 0, none⟩ = some (.bool t0) ∧ W.cell? ⟨b7, 1, none⟩ = some (.int .i64 wh0) ∧ W.cell? ⟨b7, 2, none⟩ = some (.int .u8 k0) ∧ W.cell? ⟨b7, 3, none⟩ = some (.int .i64 tw0) ∧ W.cell? ⟨b7, 4, none⟩ = some (.int .i64 n1)) (by kernel_rfl) (HR5.out.later (Below.refl _ _).drew).v7.five (fun hHeld => ?_)
      have HR6 := Lib.hid (HR5.out.later (Below.refl _ _).drew)
      generalize w5.drew = w6 at *
      refine wpAnyH_take (i := 0) (oi := _) (v := ?_) rfl (by kernel_rfl) (by kernel_rfl) (by kernel_rfl) (fun _ _ _ h => h) (Or.inl ⟨by rfl, ?_⟩) (by assumption) ?_
      rotate_left
      · intro w hSw
        try dsimp only at hSw
        obtain ⟨s0, s1, s2, s3, s4⟩ := hSw
        go_simp
        all_goals with_reducible rfl
      try simp only [Act.put, List.setIfInBounds_toArray, List.set_cons_zero, List.set_cons_succ, List.getElem_toArray, List.getElem_cons_zero, List.getElem_cons_succ]
      refine wpAnyH_take (i := 1) (oi := _) (v := ?_) rfl (by kernel_rfl) (by kernel_rfl) (by kernel_rfl) (fun _ _ _ h => h) (Or.inl ⟨by rfl, ?_⟩) (by assumption) ?_
      rotate_left
      · intro w hSw
        try dsimp only at hSw
        obtain ⟨s0, s1, s2, s3, s4⟩ := hSw
        go_simp
        all_goals with_reducible rfl
      try simp only [Act.put, List.setIfInBounds_toArray, List.set_cons_zero, List.set_cons_succ, List.getElem_toArray, List.getElem_cons_zero, List.getElem_cons_succ]
      refine wpAnyH_take (i := 2) (oi := _) (v := ?_) rfl (by kernel_rfl) (by kernel_rfl) (by kernel_rfl) (fun _ _ _ h => h) (Or.inl ⟨by rfl, ?_⟩) (by assumption) ?_
      rotate_left
      · intro w hSw
        try dsimp only at hSw
        obtain ⟨s0, s1, s2, s3, s4⟩ := hSw
        go_simp
        all_goals with_reducible rfl
      try simp only [Act.put, List.setIfInBounds_toArray, List.set_cons_zero, List.set_cons_succ, List.getElem_toArray, List.getElem_cons_zero, List.getElem_cons_succ]
      refine wpAnyH_take (i := 3) (oi := _) (v := undef) rfl (by kernel_rfl) (by kernel_rfl) (by kernel_rfl) (fun _ _ _ h => h) (Or.inr ⟨by rfl, rfl⟩) (by assumption) ?_
      try simp only [Act.put, List.setIfInBounds_toArray, List.set_cons_zero, List.set_cons_succ, List.getElem_toArray, List.getElem_cons_zero, List.getElem_cons_succ]
      refine wpAnyH_take (i := 4) (oi := _) (v := undef) rfl (by kernel_rfl) (by kernel_rfl) (by kernel_rfl) (fun _ _ _ h => h) (Or.inr ⟨by rfl, rfl⟩) (by assumption) ?_
      try simp only [Act.put, List.setIfInBounds_toArray, List.set_cons_zero, List.set_cons_succ, List.getElem_toArray, List.getElem_cons_zero, List.getElem_cons_succ]
      refine wpAnyH_take (i := 5) (oi := _) (v := ?_) rfl (by kernel_rfl) (by kernel_rfl) (by kernel_rfl) (fun _ _ _ h => h) (Or.inl ⟨by rfl, ?_⟩) (by assumption) ?_
      rotate_left
      · intro w hSw
        try dsimp only at hSw
        obtain ⟨s0, s1, s2, s3, s4⟩ := hSw
        go_simp
        all_goals with_reducible rfl
      try simp only [Act.put, List.setIfInBounds_toArray, List.set_cons_zero, List.set_cons_succ, List.getElem_toArray, List.getElem_cons_zero, List.getElem_cons_succ]
      refine wpAnyH_take (i := 6) (oi := _) (v := ?_) rfl (by kernel_rfl) (by kernel_rfl) (by kernel_rfl) (fun _ _ _ h => h) (Or.inl ⟨by rfl, ?_⟩) (by assumption) ?_
      rotate_left
      · intro w hSw
        try dsimp only at hSw
        obtain ⟨s0, s1, s2, s3, s4⟩ := hSw
        go_simp
        all_goals with_reducible rfl
      try simp only [Act.put, List.setIfInBounds_toArray, List.set_cons_zero, List.set_cons_succ, List.getElem_toArray, List.getElem_cons_zero, List.getElem_cons_succ]
      refine wpAnyH_take (i := 7) (oi := _) (v := undef) rfl (by kernel_rfl) (by kernel_rfl) (by kernel_rfl) (fun _ _ _ h => h) (Or.inr ⟨by rfl, rfl⟩) (by assumption) ?_
      try simp only [Act.put, List.setIfInBounds_toArray, List.set_cons_zero, List.set_cons_succ, List.getElem_toArray, List.getElem_cons_zero, List.getElem_cons_succ]
      refine wpAnyH_take (i := 8) (oi := _) (v := undef) rfl (by kernel_rfl) (by kernel_rfl) (by kernel_rfl) (fun _ _ _ h => h) (Or.inr ⟨by rfl, rfl⟩) (by assumption) ?_
      try simp only [Act.put, List.setIfInBounds_toArray, List.set_cons_zero, List.set_cons_succ, List.getElem_toArray, List.getElem_cons_zero, List.getElem_cons_succ]
      refine wpAnyH_take (i := 9) (oi := _) (v := undef) rfl (by kernel_rfl) (by kernel_rfl) (by kernel_rfl) (fun _ _ _ h => h) (Or.inr ⟨by rfl, rfl⟩) (by assumption) ?_
      try simp only [Act.put, List.setIfInBounds_toArray, List.set_cons_zero, List.set_cons_succ, List.getElem_toArray, List.getElem_cons_zero, List.getElem_cons_succ]
      refine wpAnyH_take (i := 10) (oi := _) (v := undef) rfl (by kernel_rfl) (by kernel_rfl) (by kernel_rfl) (fun _ _ _ h => h) (Or.inr ⟨by rfl, rfl⟩) (by assumption) ?_
      try simp only [Act.put, List.setIfInBounds_toArray, List.set_cons_zero, List.set_cons_succ, List.getElem_toArray, List.getElem_cons_zero, List.getElem_cons_succ]
      refine wpAnyH_take (i := 11) (oi := _) (v := ?_) rfl (by kernel_rfl) (by kernel_rfl) (by kernel_rfl) (fun _ _ _ h => h) (Or.inl ⟨by rfl, ?_⟩) (by assumption) ?_
      rotate_left
      · intro w hSw
        try dsimp only at hSw
        obtain ⟨s0, s1, s2, s3, s4⟩ := hSw
        go_simp
        all_goals with_reducible rfl
      try simp only [Act.put, List.setIfInBounds_toArray, List.set_cons_zero, List.set_cons_succ, List.getElem_toArray, List.getElem_cons_zero, List.getElem_cons_succ]
      obtain ⟨p0, p1, p2, p3, p4, -⟩ := HR6.out.v2
      simp only [zeroEv] at p0 p1 p2 p3 p4
      have y2 := HR6.out.f2
      have mp := World.block_lt_of_cell? _ _ p0
      refine wpAnyH_ready (rs := [12]) (by kernel_rfl) (by simp) ?_
      refine AllReadyH.cons (o := _) rfl (fun K hK => ?_) AllReadyH.nil
      go_simp
      refine hK.out _ _ (put5_other (e := ⟨t0, wh0, k0, tw0, n1⟩) HR6.out.v7 HR6.out.ne).five (fun hHeld => ?_)
      clear hK K
      try simp only [Act.put, List.setIfInBounds_toArray, List.set_cons_zero, List.set_cons_succ, List.getElem_toArray, List.getElem_cons_zero, List.getElem_cons_succ]
      clear p0 p1 p2 p3 p4 y2 mp
      refine wpAnyH_take (i := 13) (oi := _) (v := ?_) rfl (by kernel_rfl) (by kernel_rfl) (by kernel_rfl) (fun _ _ _ h => h) (Or.inl ⟨by rfl, ?_⟩) (by assumption) ?_
      rotate_left
      · intro w hSw
        try dsimp only at hSw
        obtain ⟨s0, s1, s2, s3, s4⟩ := hSw
        go_simp
        all_goals with_reducible rfl
      try simp only [Act.put, List.setIfInBounds_toArray, List.set_cons_zero, List.set_cons_succ, List.getElem_toArray, List.getElem_cons_zero, List.getElem_cons_succ]
      refine wpAnyH_done (by kernel_rfl) ?_ _
      go_wp2
      have hv := (HR6.out.v2).put (⟨t0, wh0, k0, tw0, n1⟩ : Ev)
      have hbl : Below w.heap.size w (put5 w6 w.heap.size (⟨t0, wh0, k0, tw0, n1⟩ : Ev)) := below_put5 (HR6.out.below) _
      unfold put5 at hv hbl
      obtain ⟨f0, f1, f2, f3, f4, -⟩ := hv
      try simp only [zeroEv] at f0 f1 f2 f3 f4 hbl
      refine bodyPost_ret (v := .tuple #[Ev.v (⟨t0, wh0, k0, tw0, n1⟩ : Ev), .bool false]) (by simp [results, Tryd.results23, go_sem, f0, f1, f2, f3, f4, Ev.v, zeroEv]) rfl ?_
      rw [HP.out]
      exact ⟨rfl, hbl⟩
    | true =>
      rw [Bool.true_and] at HP
      go_upto_region 6 with fail
      clear k4 kz mk HR4
      generalize w4.setCell ⟨b7, 4, none⟩ (.int .i64 n1) = w5 at *
      cases n2 with
      | false =>
        rw [Bool.false_and] at HP
        refine wp_region_held_drew (S := fun W => W.cell? ⟨b7, 0, none⟩ = some (.bool t0) ∧ W.cell? ⟨b7, 1, none⟩ = some (.int .i64 wh0) ∧ W.cell? ⟨b7, 2, none⟩ = some (.int .u8 k0) ∧ W.cell? ⟨b7, 3, none⟩ = some (.int .i64 tw0) ∧ W.cell? ⟨b7, 4, none⟩ = some (.int .i64 n1)) (by kernel_rfl) (HR5.out.later (Below.refl _ _).drew).v7.five (fun hHeld => ?_)
        have HR6 := Lib.hid (HR5.out.later (Below.refl _ _).drew)
        generalize w5.drew = w6 at *
        refine wpAnyH_take (i := 0) (oi := _) (v := ?_) rfl (by kernel_rfl) (by kernel_rfl) (by kernel_rfl) (fun _ _ _ h => h) (Or.inl ⟨by rfl, ?_⟩) (by assumption) ?_
        rotate_left
        · intro w hSw
          try dsimp only at hSw
          obtain ⟨s0, s1, s2, s3, s4⟩ := hSw
          go_simp
          all_goals with_reducible rfl
        try simp only [Act.put, List.setIfInBounds_toArray, List.set_cons_zero, List.set_cons_succ, List.getElem_toArray, List.getElem_cons_zero, List.getElem_cons_succ]
        refine wpAnyH_take (i := 1) (oi := _) (v := ?_) rfl (by kernel_rfl) (by kernel_rfl) (by kernel_rfl) (fun _ _ _ h => h) (Or.inl ⟨by rfl, ?_⟩) (by assumption) ?_
        rotate_left
        · intro w hSw
          try dsimp only at hSw
          obtain ⟨s0, s1, s2, s3, s4⟩ := hSw
          go_simp
          all_goals with_reducible rfl
        try simp only [Act.put, List.setIfInBounds_toArray, List.set_cons_zero, List.set_cons_succ, List.getElem_toArray, List.getElem_cons_zero, List.getElem_cons_succ]
        refine wpAnyH_take (i := 2) (oi := _) (v := ?_) rfl (by kernel_rfl) (by kernel_rfl) (by kernel_rfl) (fun _ _ _ h => h) (Or.inl ⟨by rfl, ?_⟩) (by assumption) ?_
        rotate_left
        · intro w hSw
          try dsimp only at hSw
          obtain ⟨s0, s1, s2, s3, s4⟩ := hSw
          go_simp
          all_goals with_reducible rfl
        try simp only [Act.put, List.setIfInBounds_toArray, List.set_cons_zero, List.set_cons_succ, List.getElem_toArray, List.getElem_cons_zero, List.getElem_cons_succ]
        refine wpAnyH_take (i := 3) (oi := _) (v := undef) rfl (by kernel_rfl) (by kernel_rfl) (by kernel_rfl) (fun _ _ _ h => h) (Or.inr ⟨by rfl, rfl⟩) (by assumption) ?_
        try simp only [Act.put, List.setIfInBounds_toArray, List.set_cons_zero, List.set_cons_succ, List.getElem_toArray, List.getElem_cons_zero, List.getElem_cons_succ]
        refine wpAnyH_take (i := 4) (oi := _) (v := undef) rfl (by kernel_rfl) (by kernel_rfl) (by kernel_rfl) (fun _ _ _ h => h) (Or.inr ⟨by rfl, rfl⟩) (by assumption) ?_
        try simp only [Act.put, List.setIfInBounds_toArray, List.set_cons_zero, List.set_cons_succ, List.getElem_toArray, List.getElem_cons_zero, List.getElem_cons_succ]
        refine wpAnyH_take (i := 5) (oi := _) (v := ?_) rfl (by kernel_rfl) (by kernel_rfl) (by kernel_rfl) (fun _ _ _ h => h) (Or.inl ⟨by rfl, ?_⟩) (by assumption) ?_
        rotate_left
        · intro w hSw
          try dsimp only at hSw
          obtain ⟨s0, s1, s2, s3, s4⟩ := hSw
          go_simp
          all_goals with_reducible rfl
        try simp only [Act.put, List.setIfInBounds_toArray, List.set_cons_zero, List.set_cons_succ, List.getElem_toArray, List.getElem_cons_zero, List.getElem_cons_succ]
        refine wpAnyH_take (i := 6) (oi := _) (v := ?_) rfl (by kernel_rfl) (by kernel_rfl) (by kernel_rfl) (fun _ _ _ h => h) (Or.inl ⟨by rfl, ?_⟩) (by assumption) ?_
        rotate_left
        · intro w hSw
          try dsimp only at hSw
          obtain ⟨s0, s1, s2, s3, s4⟩ := hSw
          go_simp
          all_goals with_reducible rfl
        try simp only [Act.put, List.setIfInBounds_toArray, List.set_cons_zero, List.set_cons_succ, List.getElem_toArray, List.getElem_cons_zero, List.getElem_cons_succ]
        refine wpAnyH_take (i := 7) (oi := _) (v := undef) rfl (by kernel_rfl) (by kernel_rfl) (by kernel_rfl) (fun _ _ _ h => h) (Or.inr ⟨by rfl, rfl⟩) (by assumption) ?_
        try simp only [Act.put, List.setIfInBounds_toArray, List.set_cons_zero, List.set_cons_succ, List.getElem_toArray, List.getElem_cons_zero, List.getElem_cons_succ]
        refine wpAnyH_take (i := 8) (oi := _) (v := undef) rfl (by kernel_rfl) (by kernel_rfl) (by kernel_rfl) (fun _ _ _ h => h) (Or.inr ⟨by rfl, rfl⟩) (by assumption) ?_
        try simp only [Act.put, List.setIfInBounds_toArray, List.set_cons_zero, List.set_cons_succ, List.getElem_toArray, List.getElem_cons_zero, List.getElem_cons_succ]
        refine wpAnyH_take (i := 9) (oi := _) (v := undef) rfl (by kernel_rfl) (by kernel_rfl) (by kernel_rfl) (fun _ _ _ h => h) (Or.inr ⟨by rfl, rfl⟩) (by assumption) ?_
        try simp only [Act.put, List.setIfInBounds_toArray, List.set_cons_zero, List.set_cons_succ, List.getElem_toArray, List.getElem_cons_zero, List.getElem_cons_succ]
        refine wpAnyH_take (i := 10) (oi := _) (v := undef) rfl (by kernel_rfl) (by kernel_rfl) (by kernel_rfl) (fun _ _ _ h => h) (Or.inr ⟨by rfl, rfl⟩) (by assumption) ?_
        try simp only [Act.put, List.setIfInBounds_toArray, List.set_cons_zero, List.set_cons_succ, List.getElem_toArray, List.getElem_cons_zero, List.getElem_cons_succ]
        refine wpAnyH_take (i := 11) (oi := _) (v := ?_) rfl (by kernel_rfl) (by kernel_rfl) (by kernel_rfl) (fun _ _ _ h => h) (Or.inl ⟨by rfl, ?_⟩) (by assumption) ?_
        rotate_left
        · intro w hSw
          try dsimp only at hSw
          obtain ⟨s0, s1, s2, s3, s4⟩ := hSw
          go_simp
          all_goals with_reducible rfl
        try simp only [Act.put, List.setIfInBounds_toArray, List.set_cons_zero, List.set_cons_succ, List.getElem_toArray, List.getElem_cons_zero, List.getElem_cons_succ]
        obtain ⟨p0, p1, p2, p3, p4, -⟩ := HR6.out.v2
        simp only [zeroEv] at p0 p1 p2 p3 p4
        have y2 := HR6.out.f2
        have mp := World.block_lt_of_cell? _ _ p0
        refine wpAnyH_ready (rs := [12]) (by kernel_rfl) (by simp) ?_
        refine AllReadyH.cons (o := _) rfl (fun K hK => ?_) AllReadyH.nil
        go_simp
        refine hK.out _ _ (put5_other (e := ⟨t0, wh0, k0, tw0, n1⟩) HR6.out.v7 HR6.out.ne).five (fun hHeld => ?_)
        clear hK K
        try simp only [Act.put, List.setIfInBounds_toArray, List.set_cons_zero, List.set_cons_succ, List.getElem_toArray, List.getElem_cons_zero, List.getElem_cons_succ]
        clear p0 p1 p2 p3 p4 y2 mp
        refine wpAnyH_take (i := 13) (oi := _) (v := ?_) rfl (by kernel_rfl) (by kernel_rfl) (by kernel_rfl) (fun _ _ _ h => h) (Or.inl ⟨by rfl, ?_⟩) (by assumption) ?_
        rotate_left
        · intro w hSw
          try dsimp only at hSw
          obtain ⟨s0, s1, s2, s3, s4⟩ := hSw
          go_simp
          all_goals with_reducible rfl
        try simp only [Act.put, List.setIfInBounds_toArray, List.set_cons_zero, List.set_cons_succ, List.getElem_toArray, List.getElem_cons_zero, List.getElem_cons_succ]
        refine wpAnyH_done (by kernel_rfl) ?_ _
        go_wp2
        have hv := (HR6.out.v2).put (⟨t0, wh0, k0, tw0, n1⟩ : Ev)
        have hbl : Below w.heap.size w (put5 w6 w.heap.size (⟨t0, wh0, k0, tw0, n1⟩ : Ev)) := below_put5 (HR6.out.below) _
        unfold put5 at hv hbl
        obtain ⟨f0, f1, f2, f3, f4, -⟩ := hv
        try simp only [zeroEv] at f0 f1 f2 f3 f4 hbl
        refine bodyPost_ret (v := .tuple #[Ev.v (⟨t0, wh0, k0, tw0, n1⟩ : Ev), .bool false]) (by simp [results, Tryd.results23, go_sem, f0, f1, f2, f3, f4, Ev.v, zeroEv]) rfl ?_
        rw [HP.out]
        exact ⟨rfl, hbl⟩
      | true =>
        rw [Bool.true_and] at HP
        refine wp_region_held_drew (S := fun W => W.cell? ⟨b7, 0, none⟩ = some (.bool t0) ∧ W.cell? ⟨b7, 1, none⟩ = some (.int .i64 wh0) ∧ W.cell? ⟨b7, 2, none⟩ = some (.int .u8 k0) ∧ W.cell? ⟨b7, 3, none⟩ = some (.int .i64 tw0) ∧ W.cell? ⟨b7, 4, none⟩ = some (.int .i64 n1)) (by kernel_rfl) (HR5.out.later (Below.refl _ _).drew).v7.five (fun hHeld => ?_)
        have HR6 := Lib.hid (HR5.out.later (Below.refl _ _).drew)
        generalize w5.drew = w6 at *
        refine wpAnyH_take (i := 0) (oi := _) (v := ?_) rfl (by kernel_rfl) (by kernel_rfl) (by kernel_rfl) (fun _ _ _ h => h) (Or.inl ⟨by rfl, ?_⟩) (by assumption) ?_
        rotate_left
        · intro w hSw
          try dsimp only at hSw
          obtain ⟨s0, s1, s2, s3, s4⟩ := hSw
          go_simp
          all_goals with_reducible rfl
        try simp only [Act.put, List.setIfInBounds_toArray, List.set_cons_zero, List.set_cons_succ, List.getElem_toArray, List.getElem_cons_zero, List.getElem_cons_succ]
        refine wpAnyH_take (i := 1) (oi := _) (v := ?_) rfl (by kernel_rfl) (by kernel_rfl) (by kernel_rfl) (fun _ _ _ h => h) (Or.inl ⟨by rfl, ?_⟩) (by assumption) ?_
        rotate_left
        · intro w hSw
          try dsimp only at hSw
          obtain ⟨s0, s1, s2, s3, s4⟩ := hSw
          go_simp
          all_goals with_reducible rfl
        try simp only [Act.put, List.setIfInBounds_toArray, List.set_cons_zero, List.set_cons_succ, List.getElem_toArray, List.getElem_cons_zero, List.getElem_cons_succ]
        refine wpAnyH_take (i := 2) (oi := _) (v := ?_) rfl (by kernel_rfl) (by kernel_rfl) (by kernel_rfl) (fun _ _ _ h => h) (Or.inl ⟨by rfl, ?_⟩) (by assumption) ?_
        rotate_left
        · intro w hSw
          try dsimp only at hSw
          obtain ⟨s0, s1, s2, s3, s4⟩ := hSw
          go_simp
          all_goals with_reducible rfl
        try simp only [Act.put, List.setIfInBounds_toArray, List.set_cons_zero, List.set_cons_succ, List.getElem_toArray, List.getElem_cons_zero, List.getElem_cons_succ]
        refine wpAnyH_take (i := 3) (oi := _) (v := ?_) rfl (by kernel_rfl) (by kernel_rfl) (by kernel_rfl) (fun _ _ _ h => h) (Or.inl ⟨by rfl, ?_⟩) (by assumption) ?_
        rotate_left
        · intro w hSw
          try dsimp only at hSw
          obtain ⟨s0, s1, s2, s3, s4⟩ := hSw
          go_simp
          all_goals with_reducible rfl
        try simp only [Act.put, List.setIfInBounds_toArray, List.set_cons_zero, List.set_cons_succ, List.getElem_toArray, List.getElem_cons_zero, List.getElem_cons_succ]
        have HRT := Lib.hid (right35 ⟨t0, wh0, k0, tw0, n1⟩ w6)
        unfold Ev.v at HRT
        simp only at HRT
        by_cases hok : okEv ⟨t0, wh0, k0, tw0, n1⟩
        · rw [decide_eq_true hok] at HRT
          rw [decide_eq_true hok, Bool.true_and] at HP
          have HLX := Lib.hid (fun W hW => HLN.out _ W hok hW)
          unfold Ev.v at HLX
          simp only at HLX
          clear hok
          refine wpAnyH_ready (rs := [4]) (by kernel_rfl) (by simp) ?_
          refine AllReadyH.cons (o := _) rfl (fun K hK => ?_) AllReadyH.nil
          go_simp
          go_at_call 35
          refine HRT.out.mono ?_
          rintro e w7 ⟨rfl, hb7⟩
          have HR7 := Lib.hid (HR6.out.later hb7)
          have HLW := Lib.hid (HLX.out w7 HR7.out.below)
          clear hb7 HRT HLX HLN HR6
          go_simp
          refine hK.out _ _ HR7.out.v7.five (fun hHeld => ?_)
          clear hK K
          try simp only [Act.put, List.setIfInBounds_toArray, List.set_cons_zero, List.set_cons_succ, List.getElem_toArray, List.getElem_cons_zero, List.getElem_cons_succ]
          refine wpAnyH_take (i := 5) (oi := _) (v := ?_) rfl (by kernel_rfl) (by kernel_rfl) (by kernel_rfl) (fun _ _ _ h => h) (Or.inl ⟨by rfl, ?_⟩) (by assumption) ?_
          rotate_left
          · intro w hSw
            try dsimp only at hSw
            obtain ⟨s0, s1, s2, s3, s4⟩ := hSw
            go_simp
            all_goals with_reducible rfl
          try simp only [Act.put, List.setIfInBounds_toArray, List.set_cons_zero, List.set_cons_succ, List.getElem_toArray, List.getElem_cons_zero, List.getElem_cons_succ]
          refine wpAnyH_take (i := 6) (oi := _) (v := ?_) rfl (by kernel_rfl) (by kernel_rfl) (by kernel_rfl) (fun _ _ _ h => h) (Or.inl ⟨by rfl, ?_⟩) (by assumption) ?_
          rotate_left
          · intro w hSw
            try dsimp only at hSw
            obtain ⟨s0, s1, s2, s3, s4⟩ := hSw
            go_simp
            all_goals with_reducible rfl
          try simp only [Act.put, List.setIfInBounds_toArray, List.set_cons_zero, List.set_cons_succ, List.getElem_toArray, List.getElem_cons_zero, List.getElem_cons_succ]
          refine wpAnyH_take (i := 7) (oi := _) (v := ?_) rfl (by kernel_rfl) (by kernel_rfl) (by kernel_rfl) (fun _ _ _ h => h) (Or.inl ⟨by rfl, ?_⟩) (by assumption) ?_
          rotate_left
          · intro w hSw
            try dsimp only at hSw
            obtain ⟨s0, s1, s2, s3, s4⟩ := hSw
            go_simp
            all_goals with_reducible rfl
          try simp only [Act.put, List.setIfInBounds_toArray, List.set_cons_zero, List.set_cons_succ, List.getElem_toArray, List.getElem_cons_zero, List.getElem_cons_succ]
          refine wpAnyH_take (i := 9) (oi := _) (v := ?_) rfl (by kernel_rfl) (by kernel_rfl) (by kernel_rfl) (fun _ _ _ h => h) (Or.inl ⟨by rfl, ?_⟩) (by assumption) ?_
          rotate_left
          · intro w hSw
            try dsimp only at hSw
            obtain ⟨s0, s1, s2, s3, s4⟩ := hSw
            go_simp
            all_goals with_reducible rfl
          try simp only [Act.put, List.setIfInBounds_toArray, List.set_cons_zero, List.set_cons_succ, List.getElem_toArray, List.getElem_cons_zero, List.getElem_cons_succ]
          by_cases hle : lineL ⟨t0, wh0, k0, tw0, n1⟩ = l
          · rw [decide_eq_true hle] at HP
            rw [hle] at HLW
            unfold strV at HLW
            clear hle
            refine wpAnyH_ready (rs := [8]) (by kernel_rfl) (by simp) ?_
            refine AllReadyH.cons (o := _) rfl (fun K hK => ?_) AllReadyH.nil
            go_simp
            go_at_call 26
            refine HLW.out.mono ?_
            rintro e w8 ⟨rfl, hb8⟩
            have HR8 := Lib.hid (HR7.out.later hb8)
            clear hb8 HLW HR7
            go_simp
            refine hK.out _ _ HR8.out.v7.five (fun hHeld => ?_)
            clear hK K
            try simp only [Act.put, List.setIfInBounds_toArray, List.set_cons_zero, List.set_cons_succ, List.getElem_toArray, List.getElem_cons_zero, List.getElem_cons_succ]
            refine wpAnyH_take (i := 10) (oi := _) (v := ?_) rfl (by kernel_rfl) (by kernel_rfl) (by kernel_rfl) (fun _ _ _ h => h) (Or.inl ⟨by rfl, ?_⟩) (by assumption) ?_
            rotate_left
            · intro w hSw
              try dsimp only at hSw
              obtain ⟨s0, s1, s2, s3, s4⟩ := hSw
              go_simp
              all_goals with_reducible rfl
            try simp only [Act.put, List.setIfInBounds_toArray, List.set_cons_zero, List.set_cons_succ, List.getElem_toArray, List.getElem_cons_zero, List.getElem_cons_succ]
            refine wpAnyH_take (i := 11) (oi := _) (v := ?_) rfl (by kernel_rfl) (by kernel_rfl) (by kernel_rfl) (fun _ _ _ h => h) (Or.inl ⟨by rfl, ?_⟩) (by assumption) ?_
            rotate_left
            · intro w hSw
              try dsimp only at hSw
              obtain ⟨s0, s1, s2, s3, s4⟩ := hSw
              go_simp
              all_goals with_reducible rfl
            try simp only [Act.put, List.setIfInBounds_toArray, List.set_cons_zero, List.set_cons_succ, List.getElem_toArray, List.getElem_cons_zero, List.getElem_cons_succ]
            obtain ⟨p0, p1, p2, p3, p4, -⟩ := HR8.out.v2
            simp only [zeroEv] at p0 p1 p2 p3 p4
            have y2 := HR8.out.f2
            have mp := World.block_lt_of_cell? _ _ p0
            refine wpAnyH_ready (rs := [12]) (by kernel_rfl) (by simp) ?_
            refine AllReadyH.cons (o := _) rfl (fun K hK => ?_) AllReadyH.nil
            go_simp
            refine hK.out _ _ (put5_other (e := ⟨t0, wh0, k0, tw0, n1⟩) HR8.out.v7 HR8.out.ne).five (fun hHeld => ?_)
            clear hK K
            try simp only [Act.put, List.setIfInBounds_toArray, List.set_cons_zero, List.set_cons_succ, List.getElem_toArray, List.getElem_cons_zero, List.getElem_cons_succ]
            clear p0 p1 p2 p3 p4 y2 mp
            refine wpAnyH_take (i := 13) (oi := _) (v := ?_) rfl (by kernel_rfl) (by kernel_rfl) (by kernel_rfl) (fun _ _ _ h => h) (Or.inl ⟨by rfl, ?_⟩) (by assumption) ?_
            rotate_left
            · intro w hSw
              try dsimp only at hSw
              obtain ⟨s0, s1, s2, s3, s4⟩ := hSw
              go_simp
              all_goals with_reducible rfl
            try simp only [Act.put, List.setIfInBounds_toArray, List.set_cons_zero, List.set_cons_succ, List.getElem_toArray, List.getElem_cons_zero, List.getElem_cons_succ]
            refine wpAnyH_done (by kernel_rfl) ?_ _
            go_wp2
            have hv := (HR8.out.v2).put (⟨t0, wh0, k0, tw0, n1⟩ : Ev)
            have hbl : Below w.heap.size w (put5 w8 w.heap.size (⟨t0, wh0, k0, tw0, n1⟩ : Ev)) := below_put5 (HR8.out.below) _
            unfold put5 at hv hbl
            obtain ⟨f0, f1, f2, f3, f4, -⟩ := hv
            try simp only [zeroEv] at f0 f1 f2 f3 f4 hbl
            refine bodyPost_ret (v := .tuple #[Ev.v (⟨t0, wh0, k0, tw0, n1⟩ : Ev), .bool true]) (by simp [results, Tryd.results23, go_sem, f0, f1, f2, f3, f4, Ev.v, zeroEv]) rfl ?_
            rw [HP.out]
            exact ⟨rfl, hbl⟩
          · rw [decide_eq_false hle] at HP
            generalize lineL ⟨t0, wh0, k0, tw0, n1⟩ = ll at *
            obtain ⟨q1, q2, q3, q4⟩ := str_ne hle
            unfold strV at HLW
            refine wpAnyH_ready (rs := [8]) (by kernel_rfl) (by simp) ?_
            refine AllReadyH.cons (o := _) rfl (fun K hK => ?_) AllReadyH.nil
            go_simp
            go_at_call 26
            refine HLW.out.mono ?_
            rintro e w8 ⟨rfl, hb8⟩
            have HR8 := Lib.hid (HR7.out.later hb8)
            clear hb8 HLW HR7
            go_simp
            refine hK.out _ _ HR8.out.v7.five (fun hHeld => ?_)
            clear hK K
            try simp only [Act.put, List.setIfInBounds_toArray, List.set_cons_zero, List.set_cons_succ, List.getElem_toArray, List.getElem_cons_zero, List.getElem_cons_succ]
            refine wpAnyH_take (i := 10) (oi := _) (v := ?_) rfl (by kernel_rfl) (by kernel_rfl) (by kernel_rfl) (fun _ _ _ h => h) (Or.inl ⟨by rfl, ?_⟩) (by assumption) ?_
            rotate_left
            · intro w hSw
              try dsimp only at hSw
              obtain ⟨s0, s1, s2, s3, s4⟩ := hSw
              go_simp
              all_goals with_reducible rfl
            try simp only [Act.put, List.setIfInBounds_toArray, List.set_cons_zero, List.set_cons_succ, List.getElem_toArray, List.getElem_cons_zero, List.getElem_cons_succ]
            refine wpAnyH_take (i := 11) (oi := _) (v := ?_) rfl (by kernel_rfl) (by kernel_rfl) (by kernel_rfl) (fun _ _ _ h => h) (Or.inl ⟨by rfl, ?_⟩) (by assumption) ?_
            rotate_left
            · intro w hSw
              try dsimp only at hSw
              obtain ⟨s0, s1, s2, s3, s4⟩ := hSw
              go_simp
              all_goals with_reducible rfl
            try simp only [Act.put, List.setIfInBounds_toArray, List.set_cons_zero, List.set_cons_succ, List.getElem_toArray, List.getElem_cons_zero, List.getElem_cons_succ]
            obtain ⟨p0, p1, p2, p3, p4, -⟩ := HR8.out.v2
            simp only [zeroEv] at p0 p1 p2 p3 p4
            have y2 := HR8.out.f2
            have mp := World.block_lt_of_cell? _ _ p0
            refine wpAnyH_ready (rs := [12]) (by kernel_rfl) (by simp) ?_
            refine AllReadyH.cons (o := _) rfl (fun K hK => ?_) AllReadyH.nil
            go_simp
            refine hK.out _ _ (put5_other (e := ⟨t0, wh0, k0, tw0, n1⟩) HR8.out.v7 HR8.out.ne).five (fun hHeld => ?_)
            clear hK K
            try simp only [Act.put, List.setIfInBounds_toArray, List.set_cons_zero, List.set_cons_succ, List.getElem_toArray, List.getElem_cons_zero, List.getElem_cons_succ]
            clear p0 p1 p2 p3 p4 y2 mp
            refine wpAnyH_take (i := 13) (oi := _) (v := ?_) rfl (by kernel_rfl) (by kernel_rfl) (by kernel_rfl) (fun _ _ _ h => h) (Or.inl ⟨by rfl, ?_⟩) (by assumption) ?_
            rotate_left
            · intro w hSw
              try dsimp only at hSw
              obtain ⟨s0, s1, s2, s3, s4⟩ := hSw
              go_simp
              all_goals with_reducible rfl
            try simp only [Act.put, List.setIfInBounds_toArray, List.set_cons_zero, List.set_cons_succ, List.getElem_toArray, List.getElem_cons_zero, List.getElem_cons_succ]
            refine wpAnyH_done (by kernel_rfl) ?_ _
            go_wp2
            have hv := (HR8.out.v2).put (⟨t0, wh0, k0, tw0, n1⟩ : Ev)
            have hbl : Below w.heap.size w (put5 w8 w.heap.size (⟨t0, wh0, k0, tw0, n1⟩ : Ev)) := below_put5 (HR8.out.below) _
            unfold put5 at hv hbl
            obtain ⟨f0, f1, f2, f3, f4, -⟩ := hv
            try simp only [zeroEv] at f0 f1 f2 f3 f4 hbl
            refine bodyPost_ret (v := .tuple #[Ev.v (⟨t0, wh0, k0, tw0, n1⟩ : Ev), .bool false]) (by simp [results, Tryd.results23, go_sem, f0, f1, f2, f3, f4, Ev.v, zeroEv]) rfl ?_
            rw [HP.out]
            exact ⟨rfl, hbl⟩
        · rw [decide_eq_false hok] at HRT
          rw [decide_eq_false hok, Bool.false_and] at HP
          clear hok HLN
          refine wpAnyH_ready (rs := [4]) (by kernel_rfl) (by simp) ?_
          refine AllReadyH.cons (o := _) rfl (fun K hK => ?_) AllReadyH.nil
          go_simp
          go_at_call 35
          refine HRT.out.mono ?_
          rintro e w7 ⟨rfl, hb7⟩
          have HR7 := Lib.hid (HR6.out.later hb7)
          clear hb7 HRT HR6
          go_simp
          refine hK.out _ _ HR7.out.v7.five (fun hHeld => ?_)
          clear hK K
          try simp only [Act.put, List.setIfInBounds_toArray, List.set_cons_zero, List.set_cons_succ, List.getElem_toArray, List.getElem_cons_zero, List.getElem_cons_succ]
          refine wpAnyH_take (i := 5) (oi := _) (v := ?_) rfl (by kernel_rfl) (by kernel_rfl) (by kernel_rfl) (fun _ _ _ h => h) (Or.inl ⟨by rfl, ?_⟩) (by assumption) ?_
          rotate_left
          · intro w hSw
            try dsimp only at hSw
            obtain ⟨s0, s1, s2, s3, s4⟩ := hSw
            go_simp
            all_goals with_reducible rfl
          try simp only [Act.put, List.setIfInBounds_toArray, List.set_cons_zero, List.set_cons_succ, List.getElem_toArray, List.getElem_cons_zero, List.getElem_cons_succ]
          refine wpAnyH_take (i := 6) (oi := _) (v := ?_) rfl (by kernel_rfl) (by kernel_rfl) (by kernel_rfl) (fun _ _ _ h => h) (Or.inl ⟨by rfl, ?_⟩) (by assumption) ?_
          rotate_left
          · intro w hSw
            try dsimp only at hSw
            obtain ⟨s0, s1, s2, s3, s4⟩ := hSw
            go_simp
            all_goals with_reducible rfl
          try simp only [Act.put, List.setIfInBounds_toArray, List.set_cons_zero, List.set_cons_succ, List.getElem_toArray, List.getElem_cons_zero, List.getElem_cons_succ]
          refine wpAnyH_take (i := 7) (oi := _) (v := undef) rfl (by kernel_rfl) (by kernel_rfl) (by kernel_rfl) (fun _ _ _ h => h) (Or.inr ⟨by rfl, rfl⟩) (by assumption) ?_
          try simp only [Act.put, List.setIfInBounds_toArray, List.set_cons_zero, List.set_cons_succ, List.getElem_toArray, List.getElem_cons_zero, List.getElem_cons_succ]
          refine wpAnyH_take (i := 8) (oi := _) (v := undef) rfl (by kernel_rfl) (by kernel_rfl) (by kernel_rfl) (fun _ _ _ h => h) (Or.inr ⟨by rfl, rfl⟩) (by assumption) ?_
          try simp only [Act.put, List.setIfInBounds_toArray, List.set_cons_zero, List.set_cons_succ, List.getElem_toArray, List.getElem_cons_zero, List.getElem_cons_succ]
          refine wpAnyH_take (i := 9) (oi := _) (v := undef) rfl (by kernel_rfl) (by kernel_rfl) (by kernel_rfl) (fun _ _ _ h => h) (Or.inr ⟨by rfl, rfl⟩) (by assumption) ?_
          try simp only [Act.put, List.setIfInBounds_toArray, List.set_cons_zero, List.set_cons_succ, List.getElem_toArray, List.getElem_cons_zero, List.getElem_cons_succ]
          refine wpAnyH_take (i := 10) (oi := _) (v := undef) rfl (by kernel_rfl) (by kernel_rfl) (by kernel_rfl) (fun _ _ _ h => h) (Or.inr ⟨by rfl, rfl⟩) (by assumption) ?_
          try simp only [Act.put, List.setIfInBounds_toArray, List.set_cons_zero, List.set_cons_succ, List.getElem_toArray, List.getElem_cons_zero, List.getElem_cons_succ]
          refine wpAnyH_take (i := 11) (oi := _) (v := ?_) rfl (by kernel_rfl) (by kernel_rfl) (by kernel_rfl) (fun _ _ _ h => h) (Or.inl ⟨by rfl, ?_⟩) (by assumption) ?_
          rotate_left
          · intro w hSw
            try dsimp only at hSw
            obtain ⟨s0, s1, s2, s3, s4⟩ := hSw
            go_simp
            all_goals with_reducible rfl
          try simp only [Act.put, List.setIfInBounds_toArray, List.set_cons_zero, List.set_cons_succ, List.getElem_toArray, List.getElem_cons_zero, List.getElem_cons_succ]
          obtain ⟨p0, p1, p2, p3, p4, -⟩ := HR7.out.v2
          simp only [zeroEv] at p0 p1 p2 p3 p4
          have y2 := HR7.out.f2
          have mp := World.block_lt_of_cell? _ _ p0
          refine wpAnyH_ready (rs := [12]) (by kernel_rfl) (by simp) ?_
          refine AllReadyH.cons (o := _) rfl (fun K hK => ?_) AllReadyH.nil
          go_simp
          refine hK.out _ _ (put5_other (e := ⟨t0, wh0, k0, tw0, n1⟩) HR7.out.v7 HR7.out.ne).five (fun hHeld => ?_)
          clear hK K
          try simp only [Act.put, List.setIfInBounds_toArray, List.set_cons_zero, List.set_cons_succ, List.getElem_toArray, List.getElem_cons_zero, List.getElem_cons_succ]
          clear p0 p1 p2 p3 p4 y2 mp
          refine wpAnyH_take (i := 13) (oi := _) (v := ?_) rfl (by kernel_rfl) (by kernel_rfl) (by kernel_rfl) (fun _ _ _ h => h) (Or.inl ⟨by rfl, ?_⟩) (by assumption) ?_
          rotate_left
          · intro w hSw
            try dsimp only at hSw
            obtain ⟨s0, s1, s2, s3, s4⟩ := hSw
            go_simp
            all_goals with_reducible rfl
          try simp only [Act.put, List.setIfInBounds_toArray, List.set_cons_zero, List.set_cons_succ, List.getElem_toArray, List.getElem_cons_zero, List.getElem_cons_succ]
          refine wpAnyH_done (by kernel_rfl) ?_ _
          go_wp2
          have hv := (HR7.out.v2).put (⟨t0, wh0, k0, tw0, n1⟩ : Ev)
          have hbl : Below w.heap.size w (put5 w7 w.heap.size (⟨t0, wh0, k0, tw0, n1⟩ : Ev)) := below_put5 (HR7.out.below) _
          unfold put5 at hv hbl
          obtain ⟨f0, f1, f2, f3, f4, -⟩ := hv
          try simp only [zeroEv] at f0 f1 f2 f3 f4 hbl
          refine bodyPost_ret (v := .tuple #[Ev.v (⟨t0, wh0, k0, tw0, n1⟩ : Ev), .bool false]) (by simp [results, Tryd.results23, go_sem, f0, f1, f2, f3, f4, Ev.v, zeroEv]) rfl ?_
          rw [HP.out]
          exact ⟨rfl, hbl⟩
end Go.Proofs.YtfgeomdfgjefdaaDoor
