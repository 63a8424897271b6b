/- The walk of heap's grow. -/
import Derived.Test.YtieijfefnedifaaGreatDoorMDE
namespace Go.Proofs.YtieijfefnedifaaGreatDoor
open Go.RowKit
set_option linter.unusedVariables false
set_option linter.unusedSimpArgs false

theorem clo71 (s : SpanV) (x : Int) (b : Nat) (w : World) (hc : w.cell? ⟨b, 0, none⟩ = some (.int .i64 x)) : Calls Tryz.prog 71 (#[s.v] ++ #[.pointer (some ⟨b, 0, none⟩)]) w (Ret (.bool (s.first == x)) w) := by
  have hl := World.block_lt_of_cell? _ _ hc
  have hc1 := cell_later (balloc (Below.refl _ w) (.cells #[.int .i64 s.first, .int .i64 s.pages, .int .i64 s.size, .int .i64 s.al.n, .slice s.al.A s.al.m s.al.c, .int .i64 s.ma.n, .slice s.ma.A s.ma.m s.ma.c, .bool s.sw] 44)) hc
  unfold SpanV.v
  show Calls _ _ #[_, _] _ _
  generalize s.first = f at *
  go_enter Tryz.func71, Tryz.ntmps71
  go_wp2
  go_ret
  exact ⟨rfl, balloc (Below.refl _ _) _⟩
theorem enters71 : Enters 71 := fun args w => by kernel_rfl
def idxL (l : List SpanB) (f : Int) : Int := match l.findIdx? (fun s => s.first == f) with | some i => (i : Int) | none => -1
theorem idx_eq {vs : List SpanV} {l : List SpanB} (hl : vs.length = l.length) (h : ∀ (i : Nat) x s, vs[i]? = some x → l[i]? = some s → x.first = s.first) (f : Int) : idxP vs (fun s => s.first == f) = idxL l f := by
  unfold idxP idxL
  have e : vs.findIdx? (fun s => s.first == f) = l.findIdx? (fun s => s.first == f) := by
    have h1 : vs.map (fun s => s.first) = l.map (fun s => s.first) := by
      apply List.ext_getElem
      · simp [hl]
      · intro i a b
        simp only [List.length_map] at a b
        simp only [List.getElem_map]
        exact h i _ _ (List.getElem?_eq_getElem a) (List.getElem?_eq_getElem b)
    have h2 : (vs.map (fun s => s.first)).findIdx? (fun y => y == f) = (l.map (fun s => s.first)).findIdx? (fun y => y == f) := by rw [h1]
    rw [List.findIdx?_map, List.findIdx?_map] at h2
    exact h2
  rw [e]
  cases l.findIdx? (fun s => s.first == f) <;> rfl
theorem makeS_wf (f p z : Int) (hf : -9223372036854775808 ≤ f ∧ f ≤ 9223372036854775807) : WfS (makeS f p z) := by
  unfold makeS
  split
  · rename_i hfit
    have hsh : shapedP p z = true := hfit.1
    have hm := manyP_of hsh
    have hp := shapedP_pages hsh
    have hz := shapedP_size hsh
    have hw : WfB ⟨manyP z, [0]⟩ := ⟨by show _ ≤ manyP z; omega, by show manyP z ≤ _; omega, by intro x hx; simp at hx; omega⟩
    exact ⟨hw, hw, hf, by show _ ≤ p ∧ p ≤ _; omega, by show _ ≤ z ∧ z ≤ _; omega⟩
  · exact ⟨⟨by decide, by decide, by decide⟩, ⟨by decide, by decide, by decide⟩, by decide, by decide, by decide⟩
theorem Mine.regrow {w : World} {base b c : Nat} {v v' : HeapV} {h : HeapB} {os : List Obj} {A : Option Addr} {us' : BitB} {sp' : List SpanB} (m : Mine w base b v h os A c) (e0 : v'.aA = v.aA ∧ v'.aN = v.aN ∧ v'.aC = v.aC)
    (hus : OwU w (b + 1) (.slice v'.us.A v'.us.m v'.us.c) us'.w) (un : v'.us.n = us'.n ∧ v'.us.m = us'.w.length ∧ v'.us.m ≤ v'.us.c) (sn : v'.sN = sp'.length ∧ v'.sN ≤ v'.sC) (hsp : OwS w (b + 1) (.slice v'.sA v'.sN v'.sC) v'.vs) (hal : AllN w (b + 1) v'.vs sp') (ap : ApartH v') :
    Mine (((w.setCell ⟨b, 1, none⟩ (.int .i64 v'.us.n)).setCell ⟨b, 2, none⟩ (.slice v'.us.A v'.us.m v'.us.c)).setCell ⟨b, 3, none⟩ (.slice v'.sA v'.sN v'.sC)) base b v' { ar := h.ar, us := us', sp := sp' } os A c := by
  have hne : ∀ i j : Nat, i ≠ j → (⟨b, i, none⟩ : Addr) ≠ ⟨b, j, none⟩ := fun i j h e => h (congrArg Addr.off e)
  have ot : ∀ (W : World) (i j : Nat) (u : Value), i ≠ j → (W.setCell ⟨b, i, none⟩ u).cell? ⟨b, j, none⟩ = W.cell? ⟨b, j, none⟩ := fun W i j u h => World.cell?_setCell_other (h := hne i j h) ..
  obtain ⟨a1, a2, a3⟩ := e0
  obtain ⟨s0, s1, s2, s3, s4⟩ := m.st
  refine ⟨⟨?_, ?_, ?_, ?_, ?_⟩, ?_, ?_, ?_, m.lo, ?_⟩
  · rw [ot _ 3 0 _ (by omega), ot _ 2 0 _ (by omega), ot _ 1 0 _ (by omega), a1, a2, a3]; exact s0
  · rw [ot _ 3 1 _ (by omega), ot _ 2 1 _ (by omega)]; exact World.cell?_setCell_same _ _ _ s1
  · rw [ot _ 3 2 _ (by omega)]; exact World.cell?_setCell_same _ _ _ ((ot _ 1 2 _ (by omega)).trans s2)
  · exact World.cell?_setCell_same _ _ _ ((ot _ 2 3 _ (by omega)).trans ((ot _ 1 3 _ (by omega)).trans s3))
  · rw [ot _ 3 4 _ (by omega), ot _ 2 4 _ (by omega), ot _ 1 4 _ (by omega)]; exact s4
  · refine OwnH.set_lo (OwnH.set_lo (OwnH.set_lo ?_ (by simp) _) (by simp) _) (by simp) _
    refine ⟨by rw [a2]; exact m.own.n, by rw [a2, a3]; exact m.own.c, by rw [a1, a2, a3]; exact m.own.ar, un.1, un.2.1, un.2.2, hus, sn.1, sn.2, hsp, hal, ap⟩
  · exact ((m.ob.set_lo (by simp) _).set_lo (by simp) _).set_lo (by simp) _
  · intro j
    rw [World.frozen?_setCell, World.frozen?_setCell, World.frozen?_setCell]
    exact m.fr j
  · have := m.lt
    simp
    exact this
def growS (h : HeapB) (z n : Int) : SpanB := makeS (runI h.us n) n z
def growOk (h : HeapB) (z n : Int) : Prop := takeE h.us n = 0 ∧ addE h.sp (growS h z n) = 0
def growH (h : HeapB) (z n : Int) : HeapB := { ar := h.ar, us := takeB h.us n, sp := addL h.sp (growS h z n) }
def GrowP (base b : Nat) (h : HeapB) (z n : Int) (os : List Obj) (A : Option Addr) (c : Nat) (w : World) (e : Ending) (w' : World) : Prop :=
  Below b w w' ∧ (growOk h z n → ∃ v, e = .returned (.tuple #[.int .i64 (idxL (addL h.sp (growS h z n)) (runI h.us n)), .int .i64 0]) ∧ Mine w' base b v (growH h z n) os A c) ∧
    (¬ growOk h z n → e = .returned (.tuple #[.int .i64 0, .int .i64 6]) ∧ ∃ v, Mine w' base b v h os A c)
set_option maxRecDepth 100000 in
set_option maxHeartbeats 16000000 in
theorem grow35 (base b c : Nat) (v : HeapV) (h : HeapB) (os : List Obj) (A : Option Addr) (z n : Int) (w : World) (hm : Mine w base b v h os A c) (hwf : WfH h) (hT : Tab w) :
    Calls Tryz.prog 35 #[.pointer (some ⟨b, 0, none⟩), .int .i64 z, .int .i64 n] w (GrowP base b h z n os A c w) := by
  have HM := Lib.hid hm
  have HWF := Lib.hid hwf
  have hrd := hm.own.rd hwf
  have CT := Lib.hid (take30 v.us h.us n w hrd.us hT)
  have s1 := hm.st.c1
  have s2 := hm.st.c2
  have s3 := hm.st.c3
  have hbl := hm.lt
  obtain ⟨aA, aN, aC, ⟨un, uA, um, uc⟩, sA, sN, sC, vs⟩ := v
  simp only at s1 s2 s3
  unfold BitV.v at CT
  simp only at CT
  clear hm hwf hrd hT
  by_cases ht : takeE h.us n = 0
  · rw [ht] at CT
    have hte : runE h.us n = 0 := by
      unfold takeE at ht
      split at ht
      · omega
      · exact ht
    have hfit := run_fit hte
    have hob := okB_parts hfit.2
    have hfr : 0 ≤ runI h.us n ∧ runI h.us n ≤ 4096 := by
      have h1 := hfit.1
      unfold fillE at h1
      rw [if_pos hfit.2] at h1
      by_cases hi : fillIn h.us (runI h.us n) n
      · obtain ⟨a1, a2, a3, a4⟩ := hi; omega
      · rw [if_neg hi] at h1; omega
    have HWX : Hid (WfS (growS h z n)) := makeS_wf _ _ _ (by omega)
    have CMK : Hid (∀ W, Calls Tryz.prog 68 #[.int .i64 (runI h.us n), .int .i64 n, .int .i64 z] W (RetNE (growS h z n) (makeSE (runI h.us n) n z) W)) := fun W => make11 _ _ _ W (by omega)
    have EGH : Hid (growOk h z n ↔ addE h.sp (growS h z n) = 0) := by show _ ↔ _; unfold growOk; rw [ht]; simp
    have EG : Hid (growH h z n = { ar := h.ar, us := takeB h.us n, sp := addL h.sp (growS h z n) }) := rfl
    generalize hgs : growS h z n = gs at *
    generalize hru : runI h.us n = f at *
    generalize makeSE f n z = me at *
    have HGS := Lib.hid hgs
    have HRU := Lib.hid hru
    clear hte hfit hob hgs hru
    go_enter Tryz.func35, Tryz.ntmps35
    go_wp2_with (go_at_call 30; refine CT.out.mono ?_)
    rintro e w1 ⟨⟨n1, A1, m1, c1⟩, rfl, hn1, hm1, hcap1, ho1, hb1⟩
    simp only at hn1 hm1 hcap1 ho1
    subst hn1
    subst hm1
    have HB1 := Lib.hid hb1
    have HM1 := Lib.hid (HM.out.below hb1)
    have HO1 := Lib.hid ho1
    have HC1 := Lib.hid hcap1
    have hz1 := hb1.size
    clear hb1 hcap1 ho1 CT s1 s2 s3
    unfold BitV.v
    simp only
    go_upto_region 4 with fail
    obtain ⟨W2, hW2⟩ : ∃ W2, W2 = (w1.alloc (.cells #[.int .i64 (takeB h.us n).n, .slice A1 (takeB h.us n).w.length c1] 28)).alloc (.cells #[.int .i64 f] 3) := ⟨_, rfl⟩
    rw [← hW2]
    have hb2 : Below w1.heap.size w1 W2 := by rw [hW2]; exact balloc (balloc (Below.refl _ _) _) _
    have HB2 := Lib.hid (bthen HB1.out hb2)
    have HM2 := Lib.hid (HM1.out.below hb2)
    have HO2 := Lib.hid (HO1.out.below hb2)
    have HQ2 : Hid (W2.cell? ⟨w1.heap.size, 0, none⟩ = some (.int .i64 (takeB h.us n).n) ∧ W2.cell? ⟨w1.heap.size, 1, none⟩ = some (.slice A1 (takeB h.us n).w.length c1) ∧ W2.cell? ⟨w1.heap.size + 1, 0, none⟩ = some (.int .i64 f)) := by
      show _ ∧ _
      rw [hW2]
      exact ⟨by go_simp, by go_simp, by go_simp⟩
    have HZ2 : Hid (w1.heap.size + 2 ≤ W2.heap.size) := by show _ ≤ _; rw [hW2]; simp
    have HZ1 := Lib.hid hz1
    have hq2 := HQ2.out.2.2
    have hz2 : w1.heap.size + 1 < W2.heap.size := by have := HZ2.out; omega
    clear hW2 hb2 HB1 HM1 HO1 hz1
    go_wp2_with (go_at_call 68; refine (CMK.out _).mono ?_)
    rintro e w3 ⟨x3, rfl, hN3, hb3⟩
    have HB3 := Lib.hid (bthen HB2.out hb3)
    have HM3 := Lib.hid (HM2.out.below hb3)
    have HO3 := Lib.hid (HO2.out.below hb3)
    have HN3 := Lib.hid hN3
    have HQ3 : Hid (w3.cell? ⟨w1.heap.size, 0, none⟩ = some (.int .i64 (takeB h.us n).n) ∧ w3.cell? ⟨w1.heap.size, 1, none⟩ = some (.slice A1 (takeB h.us n).w.length c1) ∧ w3.cell? ⟨w1.heap.size + 1, 0, none⟩ = some (.int .i64 f)) := ⟨cell_later hb3 HQ2.out.1, cell_later hb3 HQ2.out.2.1, cell_later hb3 HQ2.out.2.2⟩
    have HZ3 : Hid (w1.heap.size + 2 ≤ w3.heap.size) := Nat.le_trans HZ2.out hb3.size
    clear hb3 hN3 HB2 HM2 HO2 HQ2 HZ2 hq2 hz2 CMK
    obtain ⟨xf, xp, xz, ⟨xn, xA, xm, xc⟩, ⟨yn, yA, ym, yc⟩, xw⟩ := x3
    unfold SpanV.v
    simp only
    go_upto_region 5 with fail
    obtain ⟨W4, hW4⟩ : ∃ W4, W4 = w3.alloc (.cells #[.int .i64 xf, .int .i64 xp, .int .i64 xz, .int .i64 xn, .slice xA xm xc, .int .i64 yn, .slice yA ym yc, .bool xw] 44) := ⟨_, rfl⟩
    rw [← hW4]
    have hb4 : Below w3.heap.size w3 W4 := by rw [hW4]; exact balloc (Below.refl _ _) _
    have hd : Below W4.heap.size W4 W4.drew := (Below.refl _ _).drew
    have hbd := bthen hb4 hd
    have HV4 : Hid (VarS W4.drew w3.heap.size ⟨xf, xp, xz, ⟨xn, xA, xm, xc⟩, ⟨yn, yA, ym, yc⟩, xw⟩) := by
      refine VarS.below ?_ hd
      rw [hW4]
      exact VarS.made w3 ⟨xf, xp, xz, ⟨xn, xA, xm, xc⟩, ⟨yn, yA, ym, yc⟩, xw⟩ _ rfl
    have HB5 := Lib.hid (bthen HB3.out hbd)
    have HM5 := Lib.hid (HM3.out.below hbd)
    have HO5 := Lib.hid (HO3.out.below hbd)
    have HN5 := Lib.hid (HN3.out.below hbd)
    have HQ5 : Hid (W4.drew.cell? ⟨w1.heap.size, 0, none⟩ = some (.int .i64 (takeB h.us n).n) ∧ W4.drew.cell? ⟨w1.heap.size, 1, none⟩ = some (.slice A1 (takeB h.us n).w.length c1) ∧ W4.drew.cell? ⟨w1.heap.size + 1, 0, none⟩ = some (.int .i64 f)) := ⟨cell_later hbd HQ3.out.1, cell_later hbd HQ3.out.2.1, cell_later hbd HQ3.out.2.2⟩
    have HZ5 : Hid (w1.heap.size + 2 ≤ W4.drew.heap.size) := Nat.le_trans HZ3.out hbd.size
    have HV5 := HV4.out
    obtain ⟨v0, v1, v2, v3, v4, v5, v6, v7⟩ := HV5
    simp only at v0 v1 v2 v3 v4 v5 v6 v7
    have HS5 : Hid (W4.drew.cell? ⟨b, 3, none⟩ = some (.slice sA sN sC) ∧ W4.drew.cell? ⟨w3.heap.size, 0, none⟩ = some (.int .i64 xf) ∧ W4.drew.cell? ⟨w3.heap.size, 1, none⟩ = some (.int .i64 xp) ∧ W4.drew.cell? ⟨w3.heap.size, 2, none⟩ = some (.int .i64 xz) ∧ W4.drew.cell? ⟨w3.heap.size, 3, none⟩ = some (.int .i64 xn) ∧ W4.drew.cell? ⟨w3.heap.size, 4, none⟩ = some (.slice xA xm xc) ∧ W4.drew.cell? ⟨w3.heap.size, 5, none⟩ = some (.int .i64 yn) ∧ W4.drew.cell? ⟨w3.heap.size, 6, none⟩ = some (.slice yA ym yc) ∧ W4.drew.cell? ⟨w3.heap.size, 7, none⟩ = some (.bool xw)) := ⟨HM5.out.st.c3, v0, v1, v2, v3, v4, v5, v6, v7⟩
    clear hW4 hb4 hd hbd HB3 HM3 HO3 HN3 HQ3 HZ3 HV4 v0 v1 v2 v3 v4 v5 v6 v7
    refine wp_region_held_drew (S := fun W => W.cell? ⟨b, 3, none⟩ = some (.slice sA sN sC) ∧ W.cell? ⟨w3.heap.size, 0, none⟩ = some (.int .i64 xf) ∧ W.cell? ⟨w3.heap.size, 1, none⟩ = some (.int .i64 xp) ∧ W.cell? ⟨w3.heap.size, 2, none⟩ = some (.int .i64 xz) ∧ W.cell? ⟨w3.heap.size, 3, none⟩ = some (.int .i64 xn) ∧ W.cell? ⟨w3.heap.size, 4, none⟩ = some (.slice xA xm xc) ∧ W.cell? ⟨w3.heap.size, 5, none⟩ = some (.int .i64 yn) ∧ W.cell? ⟨w3.heap.size, 6, none⟩ = some (.slice yA ym yc) ∧ W.cell? ⟨w3.heap.size, 7, none⟩ = some (.bool xw)) (by kernel_rfl) HS5.out (fun hHeld => ?_)
    generalize W4.drew = W5 at *
    have hsn := HM5.out.own.sn
    simp only at hsn
    subst hsn
    have hal := HM5.out.own.al.1
    simp only at hal
    have CAD := Lib.hid (add26 sA sC vs h.sp ⟨xf, xp, xz, ⟨xn, xA, xm, xc⟩, ⟨yn, yA, ym, yc⟩, xw⟩ gs W5 (HM5.out.own.rd HWF.out).sp (HN5.out.rd HWX.out))
    unfold SpanV.v at CAD
    simp only at CAD
    clear hal
    refine wpAnyH_take (i := 0) (oi := _) (v := ?_) rfl (by kernel_rfl) (by kernel_rfl) (by kernel_rfl) (fun _ _ _ h => h) (Or.inl ⟨by rfl, ?_⟩) (by assumption) ?_
    rotate_left
    · intro w' hSw
      try dsimp only at hSw
      obtain ⟨t0, p0, p1, p2, p3, p4, p5, p6, p7⟩ := hSw
      go_simp
      all_goals with_reducible rfl
    try simp only [Act.put, List.setIfInBounds_toArray, List.set_cons_zero, List.set_cons_succ, List.getElem_toArray, List.getElem_cons_zero, List.getElem_cons_succ]
    refine wpAnyH_take (i := 1) (oi := _) (v := ?_) rfl (by kernel_rfl) (by kernel_rfl) (by kernel_rfl) (fun _ _ _ h => h) (Or.inl ⟨by rfl, ?_⟩) (by assumption) ?_
    rotate_left
    · intro w' hSw
      try dsimp only at hSw
      obtain ⟨t0, p0, p1, p2, p3, p4, p5, p6, p7⟩ := hSw
      go_simp
      all_goals with_reducible rfl
    try simp only [Act.put, List.setIfInBounds_toArray, List.set_cons_zero, List.set_cons_succ, List.getElem_toArray, List.getElem_cons_zero, List.getElem_cons_succ]
    refine wpAnyH_take (i := 2) (oi := _) (v := ?_) rfl (by kernel_rfl) (by kernel_rfl) (by kernel_rfl) (fun _ _ _ h => h) (Or.inl ⟨by rfl, ?_⟩) (by assumption) ?_
    rotate_left
    · intro w' hSw
      try dsimp only at hSw
      obtain ⟨t0, p0, p1, p2, p3, p4, p5, p6, p7⟩ := hSw
      go_simp
      all_goals with_reducible rfl
    try simp only [Act.put, List.setIfInBounds_toArray, List.set_cons_zero, List.set_cons_succ, List.getElem_toArray, List.getElem_cons_zero, List.getElem_cons_succ]
    refine wpAnyH_take (i := 3) (oi := _) (v := ?_) rfl (by kernel_rfl) (by kernel_rfl) (by kernel_rfl) (fun _ _ _ h => h) (Or.inl ⟨by rfl, ?_⟩) (by assumption) ?_
    rotate_left
    · intro w' hSw
      try dsimp only at hSw
      obtain ⟨t0, p0, p1, p2, p3, p4, p5, p6, p7⟩ := hSw
      go_simp
      all_goals with_reducible rfl
    try simp only [Act.put, List.setIfInBounds_toArray, List.set_cons_zero, List.set_cons_succ, List.getElem_toArray, List.getElem_cons_zero, List.getElem_cons_succ]
    refine wpAnyH_take (i := 4) (oi := _) (v := ?_) rfl (by kernel_rfl) (by kernel_rfl) (by kernel_rfl) (fun _ _ _ h => h) (Or.inl ⟨by rfl, ?_⟩) (by assumption) ?_
    rotate_left
    · intro w' hSw
      try dsimp only at hSw
      obtain ⟨t0, p0, p1, p2, p3, p4, p5, p6, p7⟩ := hSw
      go_simp
      all_goals with_reducible rfl
    try simp only [Act.put, List.setIfInBounds_toArray, List.set_cons_zero, List.set_cons_succ, List.getElem_toArray, List.getElem_cons_zero, List.getElem_cons_succ]
    refine wpAnyH_take (i := 5) (oi := _) (v := ?_) rfl (by kernel_rfl) (by kernel_rfl) (by kernel_rfl) (fun _ _ _ h => h) (Or.inl ⟨by rfl, ?_⟩) (by assumption) ?_
    rotate_left
    · intro w' hSw
      try dsimp only at hSw
      obtain ⟨t0, p0, p1, p2, p3, p4, p5, p6, p7⟩ := hSw
      go_simp
      all_goals with_reducible rfl
    try simp only [Act.put, List.setIfInBounds_toArray, List.set_cons_zero, List.set_cons_succ, List.getElem_toArray, List.getElem_cons_zero, List.getElem_cons_succ]
    refine wpAnyH_ready (rs := [6]) (by kernel_rfl) (by simp) ?_
    refine AllReadyH.cons (o := _) rfl (fun K hK => ?_) AllReadyH.nil
    go_simp
    go_at_call 69
    refine CAD.out.mono ?_
    rintro e w6 ⟨v6, rfl, ⟨vs6, ho6, hal6⟩, hb6⟩
    obtain ⟨A6, c6, rfl, hc6, hr6⟩ := ho6.shape
    have HB6 := Lib.hid (bthen HB5.out hb6)
    have HM6 := Lib.hid (HM5.out.below hb6)
    have HO6 := Lib.hid (HO5.out.below hb6)
    have HQ6 : Hid (w6.cell? ⟨w1.heap.size, 0, none⟩ = some (.int .i64 (takeB h.us n).n) ∧ w6.cell? ⟨w1.heap.size, 1, none⟩ = some (.slice A1 (takeB h.us n).w.length c1) ∧ w6.cell? ⟨w1.heap.size + 1, 0, none⟩ = some (.int .i64 f)) := ⟨cell_later hb6 HQ5.out.1, cell_later hb6 HQ5.out.2.1, cell_later hb6 HQ5.out.2.2⟩
    have HS6 : Hid (w6.cell? ⟨b, 3, none⟩ = some (.slice sA h.sp.length sC) ∧ w6.cell? ⟨w3.heap.size, 0, none⟩ = some (.int .i64 xf) ∧ w6.cell? ⟨w3.heap.size, 1, none⟩ = some (.int .i64 xp) ∧ w6.cell? ⟨w3.heap.size, 2, none⟩ = some (.int .i64 xz) ∧ w6.cell? ⟨w3.heap.size, 3, none⟩ = some (.int .i64 xn) ∧ w6.cell? ⟨w3.heap.size, 4, none⟩ = some (.slice xA xm xc) ∧ w6.cell? ⟨w3.heap.size, 5, none⟩ = some (.int .i64 yn) ∧ w6.cell? ⟨w3.heap.size, 6, none⟩ = some (.slice yA ym yc) ∧ w6.cell? ⟨w3.heap.size, 7, none⟩ = some (.bool xw)) :=
      ⟨cell_later hb6 HS5.out.1, cell_later hb6 HS5.out.2.1, cell_later hb6 HS5.out.2.2.1, cell_later hb6 HS5.out.2.2.2.1, cell_later hb6 HS5.out.2.2.2.2.1, cell_later hb6 HS5.out.2.2.2.2.2.1, cell_later hb6 HS5.out.2.2.2.2.2.2.1, cell_later hb6 HS5.out.2.2.2.2.2.2.2.1, cell_later hb6 HS5.out.2.2.2.2.2.2.2.2⟩
    have HZ6 : Hid (w1.heap.size + 2 ≤ w6.heap.size) := Nat.le_trans HZ5.out hb6.size
    have HZ56 : Hid (w.heap.size ≤ W5.heap.size) := HB5.out.size
    have HSP6 : Hid (OwS w6 W5.heap.size (.slice A6 vs6.length c6) vs6 ∧ AllN w6 W5.heap.size vs6 (addL h.sp gs) ∧ vs6.length ≤ c6 ∧ RdS w6 A6 vs6) := ⟨ho6, hal6, hc6, hr6⟩
    clear hb6 ho6 hal6 hc6 hr6 CAD HB5 HM5 HO5 HN5 HQ5 HS5 HZ5
    go_simp
    refine hK.out _ _ HS6.out (fun hHeld => ?_)
    clear hK K
    try simp only [Act.put, List.setIfInBounds_toArray, List.set_cons_zero, List.set_cons_succ, List.getElem_toArray, List.getElem_cons_zero, List.getElem_cons_succ]
    refine wpAnyH_take (i := 7) (oi := _) (v := ?_) rfl (by kernel_rfl) (by kernel_rfl) (by kernel_rfl) (fun _ _ _ h => h) (Or.inl ⟨by rfl, ?_⟩) (by assumption) ?_
    rotate_left
    · intro w' hSw
      try dsimp only at hSw
      obtain ⟨t0, p0, p1, p2, p3, p4, p5, p6, p7⟩ := hSw
      go_simp
      all_goals with_reducible rfl
    try simp only [Act.put, List.setIfInBounds_toArray, List.set_cons_zero, List.set_cons_succ, List.getElem_toArray, List.getElem_cons_zero, List.getElem_cons_succ]
    refine wpAnyH_take (i := 8) (oi := _) (v := ?_) rfl (by kernel_rfl) (by kernel_rfl) (by kernel_rfl) (fun _ _ _ h => h) (Or.inl ⟨by rfl, ?_⟩) (by assumption) ?_
    rotate_left
    · intro w' hSw
      try dsimp only at hSw
      obtain ⟨t0, p0, p1, p2, p3, p4, p5, p6, p7⟩ := hSw
      go_simp
      all_goals with_reducible rfl
    try simp only [Act.put, List.setIfInBounds_toArray, List.set_cons_zero, List.set_cons_succ, List.getElem_toArray, List.getElem_cons_zero, List.getElem_cons_succ]
    refine wpAnyH_take (i := 9) (oi := _) (v := ?_) rfl (by kernel_rfl) (by kernel_rfl) (by kernel_rfl) (fun _ _ _ h => h) (Or.inl ⟨by rfl, ?_⟩) (by assumption) ?_
    rotate_left
    · intro w' hSw
      try dsimp only at hSw
      obtain ⟨t0, p0, p1, p2, p3, p4, p5, p6, p7⟩ := hSw
      go_simp
      all_goals with_reducible rfl
    try simp only [Act.put, List.setIfInBounds_toArray, List.set_cons_zero, List.set_cons_succ, List.getElem_toArray, List.getElem_cons_zero, List.getElem_cons_succ]
    refine wpAnyH_take (i := 10) (oi := _) (v := ?_) rfl (by kernel_rfl) (by kernel_rfl) (by kernel_rfl) (fun _ _ _ h => h) (Or.inl ⟨by rfl, ?_⟩) (by assumption) ?_
    rotate_left
    · intro w' hSw
      try dsimp only at hSw
      obtain ⟨t0, p0, p1, p2, p3, p4, p5, p6, p7⟩ := hSw
      go_simp
      all_goals with_reducible rfl
    try simp only [Act.put, List.setIfInBounds_toArray, List.set_cons_zero, List.set_cons_succ, List.getElem_toArray, List.getElem_cons_zero, List.getElem_cons_succ]
    refine wpAnyH_take (i := 11) (oi := _) (v := ?_) rfl (by kernel_rfl) (by kernel_rfl) (by kernel_rfl) (fun _ _ _ h => h) (Or.inl ⟨by rfl, ?_⟩) (by assumption) ?_
    rotate_left
    · intro w' hSw
      try dsimp only at hSw
      obtain ⟨t0, p0, p1, p2, p3, p4, p5, p6, p7⟩ := hSw
      go_simp
      all_goals with_reducible rfl
    try simp only [Act.put, List.setIfInBounds_toArray, List.set_cons_zero, List.set_cons_succ, List.getElem_toArray, List.getElem_cons_zero, List.getElem_cons_succ]
    refine wpAnyH_done (by kernel_rfl) ?_ _
    by_cases ha : addE h.sp gs = 0
    · have HOKG : Hid (growOk h z n) := EGH.out.2 ha
      rw [ha]
      have HAL : Hid (vs6.length = (addL h.sp gs).length ∧ ∀ (i : Nat) x s, vs6[i]? = some x → (addL h.sp gs)[i]? = some s → x.first = s.first) := ⟨HSP6.out.2.1.1, fun i x s hx hs => (HSP6.out.2.1.2 i x s hx hs).first⟩
      have HAP : Hid (ApartH ⟨aA, aN, aC, ⟨(takeB h.us n).n, A1, (takeB h.us n).w.length, c1⟩, A6, vs6.length, c6, vs6⟩) := by
        intro k hk
        have hkl := (World.ownsRow.lt HM.out.own.ar k hk).2
        have h56 := HZ56.out
        refine ⟨fun e => by have := (World.ownsRow.lt HO6.out k e).1; omega, fun x hx => ?_⟩
        obtain ⟨i, hi, rfl⟩ := List.getElem_of_mem hx
        have hi3 : i < vs6.length := hi
        have hi2 : i < (addL h.sp gs).length := by have := HAL.out.1; omega
        have hN := HSP6.out.2.1.2 i vs6[i] (addL h.sp gs)[i] (List.getElem?_eq_getElem hi) (List.getElem?_eq_getElem hi2)
        exact ⟨fun e => by have := (World.ownsRow.lt hN.al k e).1; omega, fun e => by have := (World.ownsRow.lt hN.ma k e).1; omega⟩
      have HM7 := Lib.hid (HM6.out.regrow (v' := ⟨aA, aN, aC, ⟨(takeB h.us n).n, A1, (takeB h.us n).w.length, c1⟩, A6, vs6.length, c6, vs6⟩) (us' := takeB h.us n) (sp' := addL h.sp gs) ⟨rfl, rfl, rfl⟩ (HO6.out.mono hbl) ⟨rfl, rfl, HC1.out⟩ ⟨HAL.out.1, HSP6.out.2.2.1⟩ (HSP6.out.1.mono (by have := HZ56.out; omega)) (HSP6.out.2.1.mono (by have := HZ56.out; omega)) HAP.out)
      simp only at HM7
      obtain ⟨s0, s1, s2, s3, s4⟩ := HM6.out.st
      have ff := HM6.out.fr
      have l6 := HM6.out.lt
      obtain ⟨k0, k1, k2⟩ := HQ6.out
      simp only at s0 s1 s2 s3 s4
      have hz6 : w1.heap.size < w6.heap.size := by have := HZ6.out; omega
      have hbq : b < w1.heap.size := by have := HZ1.out; omega
      clear ha
      go_upto_region 9 with fail
      clear s0 s1 s2 s3 s4 ff l6 k0 k1 k2 hz6
      obtain ⟨W7, hW7⟩ : ∃ W7, W7 = ((w6.setCell ⟨b, 1, none⟩ (.int .i64 (takeB h.us n).n)).setCell ⟨b, 2, none⟩ (.slice A1 (takeB h.us n).w.length c1)).setCell ⟨b, 3, none⟩ (.slice A6 vs6.length c6) := ⟨_, rfl⟩
      have HBW7 : Hid (Below b w W7) := by
        show Below _ _ _
        rw [hW7]
        exact (((HB6.out.mono (Nat.le_of_lt hbl)).setCell (Nat.le_refl _) _).setCell (Nat.le_refl _) _).setCell (Nat.le_refl _) _
      have HQ7 : Hid (W7.cell? ⟨w1.heap.size + 1, 0, none⟩ = some (.int .i64 f)) := by
        show _ = _
        rw [hW7, World.cell?_setCell_far _ _ _ _ (by simp; omega), World.cell?_setCell_far _ _ _ _ (by simp; omega), World.cell?_setCell_far _ _ _ _ (by simp; omega)]
        exact HQ6.out.2.2
      rw [← hW7] at HM7 ⊢
      have CI : Hid (Calls Tryz.prog 70 #[.slice A6 vs6.length c6, .func (.func 71) #[] #[.pointer (some ⟨w1.heap.size + 1, 0, none⟩)]] W7 (Ret (.int .i64 (idxL (addL h.sp gs) f)) W7)) := by
        have hrs : RdS W7 A6 vs6 := HM7.out.own.sp.rd rfl
        have := index_any vs6 A6 c6 71 #[.pointer (some ⟨w1.heap.size + 1, 0, none⟩)] (fun s => s.first == f) W7 hrs enters71 (fun s hs W' hb => clo71 s f _ W' (cell_later hb HQ7.out))
        rwa [idx_eq HAL.out.1 HAL.out.2] at this
      clear hW7 HB6 HM6 HO6 HQ6 HS6 HZ6 HZ56 HSP6 HAP HAL
      go_wp2_with (go_at_call 70; refine CI.out.mono ?_)
      rintro e w8 ⟨rfl, hb8⟩
      have HM8 := Lib.hid (HM7.out.below hb8)
      have HB8 : Hid (Below b w w8) := HBW7.out.trans (hb8.mono (Nat.le_of_lt HM7.out.lt))
      clear hb8 CI
      go_wp2
      go_ret2
      refine ⟨HB8.out, (fun _ => ⟨⟨aA, aN, aC, ⟨(takeB h.us n).n, A1, (takeB h.us n).w.length, c1⟩, A6, vs6.length, c6, vs6⟩, ?_, ?_⟩), (fun hh => absurd HOKG.out hh)⟩
      · rw [HGS.out, HRU.out]
        rfl
      · rw [EG.out]
        exact HM8.out
    · have E : Hid (¬ growOk h z n) := fun hh => ha (EGH.out.1 hh)
      have d1 : (addE h.sp gs != 0) = true := by simpa using ha
      generalize addE h.sp gs = ae at *
      clear ha
      go_wp2
      go_ret2
      exact ⟨HB6.out.mono (Nat.le_of_lt hbl), (fun hh => absurd hh E.out), (fun _ => ⟨rfl, _, HM6.out⟩)⟩
  · have E : Hid (¬ growOk h z n) := fun hh => ht hh.1
    have d1 : (takeE h.us n != 0) = true := by simpa using ht
    generalize takeE h.us n = te at *
    clear ht
    go_enter Tryz.func35, Tryz.ntmps35
    go_wp2_with (go_at_call 30; refine CT.out.mono ?_)
    rintro e w1 ⟨⟨n1, A1, m1, c1⟩, rfl, hn1, hm1, hcap1, ho1, hb1⟩
    have HB1 := Lib.hid hb1
    clear hb1 hn1 hm1 hcap1 ho1 CT s1 s2 s3
    unfold BitV.v
    simp only
    go_wp2
    go_ret2
    refine ⟨?_, (fun hh => absurd hh E.out), (fun _ => ⟨rfl, _, (HM.out.below HB1.out).below (balloc (balloc (Below.refl _ _) _) _)⟩)⟩
    exact (HB1.out.mono (Nat.le_of_lt hbl)).trans ((balloc (balloc (Below.refl w1.heap.size w1) _) _).mono (by have := HB1.out.size; omega))
end Go.Proofs.YtieijfefnedifaaGreatDoor

/- The walk of heap.Make. -/
namespace Go.Proofs.YtieijfefnedifaaGreatDoor
open Go.RowKit
set_option linter.unusedVariables false
set_option linter.unusedSimpArgs false

def makeHok (n : Int) : Prop := 1 ≤ n ∧ n ≤ 1024
instance (n : Int) : Decidable (makeHok n) := by unfold makeHok; infer_instance
def zeroH : HeapB := ⟨[], ⟨0, []⟩, []⟩
def makeH (n : Int) : HeapB := if makeHok n then ⟨makeAL (n * 16), takeB (makeB n) 1, []⟩ else zeroH
def makeHE (n : Int) : Int := if makeHok n then 0 else 1
def RetHE (h : HeapB) (x : Int) (w : World) (e : Ending) (w' : World) : Prop := ∃ v : HeapV, e = .returned (.tuple #[v.v, .int .i64 x]) ∧ OwnH w' w.heap.size v h ∧ Below w.heap.size w w'
theorem OwnH.zero (w : World) (base : Nat) : OwnH w base ⟨none, 0, 0, ⟨0, none, 0, 0⟩, none, 0, 0, []⟩ zeroH :=
  ⟨rfl, Nat.le_refl _, OwU.nil_ _ _, rfl, rfl, Nat.le_refl _, OwU.nil_ _ _, rfl, Nat.le_refl _, OwS.nil_ _ _, AllN.nil_ _ _, fun k hk => by simp [Value.ownBlock] at hk⟩
set_option maxRecDepth 100000 in
set_option maxHeartbeats 8000000 in
theorem hmake15 (n : Int) (w : World) (hT : Tab w) : Calls Tryz.prog 15 #[.int .i64 n] w (RetHE (makeH n) (makeHE n) w) := by
  by_cases h : makeHok n
  · have EB : Hid (makeH n = ⟨makeAL (n * 16), takeB (makeB n) 1, []⟩) := by show _ = _; unfold makeH; rw [if_pos h]
    have EE : Hid (makeHE n = 0) := by show _ = _; unfold makeHE; rw [if_pos h]
    obtain ⟨h0, h1⟩ := h
    have HT := Lib.hid hT
    have HMD := Lib.hid (ok_made (n := n) (by omega) (by omega))
    have HME : Hid (makeE n = 0) := by show _ = _; unfold makeE; rw [if_pos (show makeOk n from ⟨by omega, by omega⟩)]
    have HAE : Hid (makeAE (n * 16) = 0) := by show _ = _; unfold makeAE; rw [if_pos (show makeAok (n * 16) from ⟨by omega, by omega⟩)]
    have CA : Hid (∀ W, Calls Tryz.prog 28 #[.int .i64 (n * 16)] W (RetAE (makeAL (n * 16)) 0 W)) := fun W => by
      have := armake (n * 16) W
      rwa [HAE.out] at this
    have CP : Hid (∀ W, Calls Tryz.prog 29 #[.int .i64 n] W (RetBE (makeB n) 0 W)) := fun W => by
      have := pgmake n W
      rwa [HME.out] at this
    generalize makeAL (n * 16) = al at *
    have q1 : ¬ n < 1 := by omega
    have q2 : ¬ 1024 < n := by omega
    have HB0 : Hid (Below w.heap.size w (w.alloc (.cells #[.slice none 0 0, .int .i64 0, .slice none 0 0, .slice none 0 0] 31))) := balloc (Below.refl _ _) _
    clear hT
    go_enter Tryz.func15, Tryz.ntmps15
    go_wp2_with (go_at_call 28; refine (CA.out _).mono ?_)
    rintro e w1 ⟨A1, c1, rfl, hk1, ho1, hb1⟩
    obtain ⟨hc1, hf1, hs1⟩ := bcellB (B := w.heap.size + 1) hb1 (by simp)
    have HB1 := Lib.hid (bthen HB0.out hb1)
    have HO1 := Lib.hid (OwU.mono (base' := w.heap.size + 1) ho1 (by simp))
    have HK1 := Lib.hid hk1
    have HL1 : Hid (∀ k, (Value.slice A1 al.length c1).ownBlock = some k → k < w1.heap.size) := fun k hk => (World.ownsRow.lt ho1 k hk).2
    have y1 : w.heap.size < w1.heap.size := by omega
    have HBA := Lib.hid (balloc HB1.out (.cells #[.slice A1 al.length c1] 24))
    clear hb1 ho1 hk1 CA
    go_wp2_with (go_at_call 29; refine (CP.out _).mono ?_)
    rintro e w2 ⟨⟨n2, A2, m2, c2⟩, rfl, hn2, hm2, hk2, ho2, hb2⟩
    simp only at hn2 hm2 hk2 ho2
    obtain ⟨hc2, hf2, hs2⟩ := bcellB (B := w1.heap.size + 1) hb2 (by simp)
    have HB2 := Lib.hid (bthen HBA.out hb2)
    have HO12 : Hid (OwU w2 (w.heap.size + 1) (.slice A1 al.length c1) al) := (HO1.out.below (balloc (Below.refl _ _) _)).below hb2
    have HR2 := Lib.hid (RdB.own (v := ⟨n2, A2, m2, c2⟩) hn2 hm2 hk2 ho2 HMD.out.1 HMD.out.2.2)
    have y2 : w1.heap.size < w2.heap.size := by omega
    have y3 : w.heap.size < w2.heap.size := by omega
    have HBB := Lib.hid (balloc HB2.out (.cells #[.int .i64 n2, .slice A2 m2 c2] 28))
    have CT := Lib.hid (take30 ⟨n2, A2, m2, c2⟩ (makeB n) 1 (w2.alloc (.cells #[.int .i64 n2, .slice A2 m2 c2] 28)) (HR2.out.below (balloc (Below.refl _ _) _)) (HT.out.below HBB.out))
    unfold BitV.v at CT ⊢
    simp only at CT ⊢
    clear hb2 ho2 hn2 hm2 hk2 CP HR2
    go_wp2_with (go_at_call 30; refine CT.out.mono ?_)
    rintro e w3 ⟨⟨n3, A3, m3, c3⟩, rfl, hn3, hm3, hk3, ho3, hb3⟩
    simp only at hn3 hm3 hk3 ho3
    obtain ⟨hc3, hf3, hs3⟩ := bcellB (B := w2.heap.size + 1) hb3 (by simp)
    have HB3 := Lib.hid (bthen HBB.out hb3)
    have HO13 : Hid (OwU w3 (w.heap.size + 1) (.slice A1 al.length c1) al) := (HO12.out.below (balloc (Below.refl _ _) _)).below hb3
    have HO3 : Hid (OwU w3 (w.heap.size + 1) (.slice A3 m3 c3) (takeB (makeB n) 1).w) := ho3.mono (by simp; omega)
    have HL3 : Hid (∀ k, (Value.slice A3 m3 c3).ownBlock = some k → w1.heap.size ≤ k) := fun k hk => by have := (World.ownsRow.lt ho3 k hk).1; simp at this; omega
    have HL4 : Hid (∀ k, (Value.slice A3 m3 c3).ownBlock = some k → w2.heap.size + 1 ≤ k) := fun k hk => by have := (World.ownsRow.lt ho3 k hk).1; simpa using this
    have HE3 : Hid (n3 = (takeB (makeB n) 1).n ∧ m3 = (takeB (makeB n) 1).w.length ∧ m3 ≤ c3) := ⟨hn3, hm3, hk3⟩
    have y4 : w2.heap.size < w3.heap.size := by omega
    have y5 : w1.heap.size < w3.heap.size := by omega
    have y6 : w.heap.size < w3.heap.size := by omega
    clear hb3 ho3 hn3 hm3 hk3 CT
    unfold BitV.v
    simp only
    have g : ∀ o u, (w.alloc (.cells #[.slice none 0 0, .int .i64 0, .slice none 0 0, .slice none 0 0] 31)).cell? ⟨w.heap.size, o, none⟩ = some u → w3.cell? ⟨w.heap.size, o, none⟩ = some u := fun o u h =>
      (hc3 _ _ (by omega)).trans (cell_later (balloc (Below.refl _ _) _) ((hc2 _ _ (by omega)).trans (cell_later (balloc (Below.refl _ _) _) ((hc1 _ _ (by omega)).trans h))))
    have g0 := g 0 (.slice none 0 0) (by go_simp)
    have g1 := g 1 (.int .i64 0) (by go_simp)
    have g2 := g 2 (.slice none 0 0) (by go_simp)
    have g3 := g 3 (.slice none 0 0) (by go_simp)
    have HG3 := Lib.hid (And.intro g0 (And.intro g1 (And.intro g2 g3)))
    clear g g0 g1 g2 g3
    go_wp2
    obtain ⟨W4, hW4⟩ : ∃ W4, W4 = (w3.setCell ⟨w2.heap.size, 0, none⟩ (.int .i64 n3)).setCell ⟨w2.heap.size, 1, none⟩ (.slice A3 m3 c3) := ⟨_, rfl⟩
    have far : ∀ o, W4.cell? ⟨w.heap.size, o, none⟩ = w3.cell? ⟨w.heap.size, o, none⟩ := fun o => by
      rw [hW4, World.cell?_setCell_far _ _ _ _ (by simp; omega), World.cell?_setCell_far _ _ _ _ (by simp; omega)]
    obtain ⟨_, k0, k1, k2, k3⟩ := set4 (b0 := .slice A1 al.length c1) (b1 := .int .i64 n3) (b2 := .slice A3 m3 c3) (b3 := .slice none 0 0) ((far 0).trans HG3.out.1) ((far 1).trans HG3.out.2.1) ((far 2).trans HG3.out.2.2.1) ((far 3).trans HG3.out.2.2.2)
    have hne1 : (Value.slice A1 al.length c1).ownBlock ≠ some w2.heap.size := fun e => by have := HL1.out _ e; omega
    have hne3 : (Value.slice A3 m3 c3).ownBlock ≠ some w2.heap.size := fun e => by have := HL4.out _ e; omega
    have HO4 : Hid (OwnH W4 (w.heap.size + 1) ⟨A1, al.length, c1, ⟨n3, A3, m3, c3⟩, none, 0, 0, []⟩ ⟨al, takeB (makeB n) 1, []⟩) := by
      show OwnH _ _ _ _
      rw [hW4]
      exact ⟨rfl, HK1.out, ownsRow_setCell_other (ownsRow_setCell_other HO13.out hne1 _) hne1 _, HE3.out.1, HE3.out.2.1, HE3.out.2.2, ownsRow_setCell_other (ownsRow_setCell_other HO3.out hne3 _) hne3 _, rfl, Nat.le_refl _, OwS.nil_ _ _, AllN.nil_ _ _,
        fun k hk => ⟨fun e => by have h1 := HL3.out k e; have h2 := HL1.out k hk; omega, fun x hx => by simp at hx⟩⟩
    have HB4 : Hid (Below w.heap.size w W4) := by
      show Below _ _ _
      rw [hW4]
      exact (HB3.out.setCell (by simp; omega) _).setCell (by simp; omega) _
    rw [← hW4]
    clear hW4 far hc1 hc2 hc3
    refine bodyPost_ret (v := .tuple #[.agg #[.slice A1 al.length c1, .int .i64 n3, .slice A3 m3 c3, .slice none 0 0], .int .i64 0]) (by simp [results, Tryz.results15, go_sem, k0, k1, k2, k3]) rfl ?_
    rw [EB.out, EE.out]
    refine ⟨⟨A1, al.length, c1, ⟨n3, A3, m3, c3⟩, none, 0, 0, []⟩, rfl, ?_, ?_⟩
    · refine OwnH.mono (base := w.heap.size + 1) ?_ (by omega)
      repeat (refine OwnH.set_lo ?_ (by simp) _)
      exact HO4.out
    · repeat (refine Below.setCell ?_ (by simp) _)
      exact HB4.out
  · have EB : Hid (makeH n = zeroH) := by show _ = _; unfold makeH; rw [if_neg h]
    have EE : Hid (makeHE n = 1) := by show _ = _; unfold makeHE; rw [if_neg h]
    have hc : n < 1 ∨ (¬ n < 1 ∧ 1024 < n) := by unfold makeHok at h; omega
    clear h hT
    rcases hc with h | ⟨h0, h⟩
    all_goals
      go_enter Tryz.func15, Tryz.ntmps15
      go_wp2
      refine bodyPost_ret (v := .tuple #[.agg #[.slice none 0 0, .int .i64 0, .slice none 0 0, .slice none 0 0], .int .i64 1]) (by simp [results, Tryz.results15, go_sem]) rfl ?_
      rw [EB.out, EE.out]
      exact ⟨_, rfl, OwnH.zero _ _, balloc (Below.refl _ _) _⟩
end Go.Proofs.YtieijfefnedifaaGreatDoor

/- The walk of heap.New, where a span is made for the object. -/
namespace Go.Proofs.YtieijfefnedifaaGreatDoor
open Go.RowKit
set_option linter.unusedVariables false
set_option linter.unusedSimpArgs false

def RetHNE (h : HeapB) (a : Nat) (x : Int) (w : World) (e : Ending) (w' : World) : Prop := ∃ v : HeapV, e = .returned (.tuple #[v.v, .int .u64 a, .int .i64 x]) ∧ OwnH w' w.heap.size v h ∧ Below w.heap.size w w'
/-- What put asks of a slot. -/
structure PutFit (h : HeapB) (i k : Nat) (s : SpanB) : Prop where
  at_ : h.sp[i]? = some s
  right : rightP s = true
  slot : (k : Int) < s.al.n
  fit : (⟨i, s, k⟩ : Cand).a < h.ar.length
  max : h.ar.length ≤ 16384
  few : i < 256
  wf : WfH h
/-- The call's own variables, as they were. -/
structure NewV (w W : World) (n m : Int) : Prop where
  n : W.cell? ⟨w.heap.size + 1, 0, none⟩ = some (.int .i64 n)
  m : W.cell? ⟨w.heap.size + 1, 1, none⟩ = some (.int .u64 m)
  r0 : W.cell? ⟨w.heap.size + 2, 0, none⟩ = some (.slice none 0 0)
  r1 : W.cell? ⟨w.heap.size + 2, 1, none⟩ = some (.int .i64 0)
  r2 : W.cell? ⟨w.heap.size + 2, 2, none⟩ = some (.slice none 0 0)
  r3 : W.cell? ⟨w.heap.size + 2, 3, none⟩ = some (.slice none 0 0)
  fr : ∀ j, W.frozen? ⟨w.heap.size + 2, j, none⟩ = false
  lt : w.heap.size + 3 ≤ W.heap.size
theorem NewV.later {w W W1 : World} {n m : Int} (h : NewV w W n m) {k : Nat} (hb : Below k W W1) (hk : w.heap.size + 3 ≤ k) : NewV w W1 n m := by
  have c : ∀ (p o : Nat), p < w.heap.size + 3 → W1.cell? ⟨p, o, none⟩ = W.cell? ⟨p, o, none⟩ := fun p o hp => hb.cell (p := ⟨p, o, none⟩) (show p < k by omega)
  exact ⟨(c _ _ (by omega)).trans h.n, (c _ _ (by omega)).trans h.m, (c _ _ (by omega)).trans h.r0, (c _ _ (by omega)).trans h.r1, (c _ _ (by omega)).trans h.r2, (c _ _ (by omega)).trans h.r3,
    fun j => (hb.frozen (p := ⟨w.heap.size + 2, j, none⟩) (show w.heap.size + 2 < k by omega)).trans (h.fr j), Nat.le_trans h.lt hb.size⟩
set_option maxRecDepth 100000 in
set_option maxHeartbeats 16000000 in
theorem new_grown (v : HeapV) (h : HeapB) (n : Nat) (m : Int) (bl : Bool) (i : Nat) (s : SpanB) (w : World) (hr : RdH w v h) (hT : Tab w) (hh : heapP h = true) (hsh : shOk n m = true) (hmr : 0 ≤ m ∧ m < 18446744073709551616)
    (hro : (roomP h.sp (sizeP n)).e ≠ 0) (hg : growOk h (sizeP n) (pageP n)) (hi : idxL (addL h.sp (growS h (sizeP n) (pageP n))) (runI h.us (pageP n)) = (i : Int)) (hp : PutFit (growH h (sizeP n) (pageP n)) i 0 s) :
    Calls Tryz.prog 16 #[v.v, .agg #[.int .i64 (n : Int), .int .u64 m], .bool bl] w (RetHNE (putH (growH h (sizeP n) (pageP n)) i 0 s n m bl) (⟨i, s, 0⟩ : Cand).a 0 w) := by
  obtain ⟨hsn1, hsn2⟩ : 0 ≤ (n : Int) ∧ n ≤ 48 := by
    have h1 := hsh
    unfold shOk at h1
    simp only [Bool.and_eq_true, decide_eq_true_eq] at h1
    omega
  have CM : Hid (∀ W, Below w.heap.size w W → Calls Tryz.prog 31 #[v.v] W (MineP h W)) := fun W hW => mine31 v h W (hr.below hW)
  have CK : Hid (∀ W, Calls Tryz.prog 32 #[.agg #[.int .i64 (n : Int), .int .u64 m]] W (Ret (.int .i64 0) W)) := fun W => by
    have := hcheck (n : Int) m W hmr
    rwa [show shE (n : Int) m = 0 from by unfold shE; rw [if_pos hsh]] at this
  have CZ : Hid (∀ W, Calls Tryz.prog 33 #[.int .i64 ((n : Int) + 1)] W (Ret (.tuple #[.int .i64 (sizeP n), .int .i64 (pageP n)]) W)) := fun W => sizes33 n W hsn2
  have HT := Lib.hid hT
  have HH := Lib.hid hh
  have HSH := Lib.hid hsh
  have HMR := Lib.hid hmr
  have HWF := Lib.hid hr.wf
  unfold HeapV.v at CM ⊢
  obtain ⟨W0, hW0⟩ : ∃ W0, W0 = ((w.alloc (.cells #[.slice v.aA v.aN v.aC, .int .i64 v.us.n, .slice v.us.A v.us.m v.us.c, .slice v.sA v.sN v.sC] 31)).alloc (.cells #[.int .i64 (n : Int), .int .u64 m] 56)).alloc (.cells #[.slice none 0 0, .int .i64 0, .slice none 0 0, .slice none 0 0] 31) := ⟨_, rfl⟩
  have HB0 : Hid (Below w.heap.size w W0) := by show Below _ _ _; rw [hW0]; exact balloc (balloc (balloc (Below.refl _ _) _) _) _
  have HZ0 : Hid (W0.heap.size = w.heap.size + 3) := by show _ = _; rw [hW0]; simp
  have HV0 : Hid ((W0.cell? ⟨w.heap.size + 1, 0, none⟩ = some (.int .i64 (n : Int)) ∧ W0.cell? ⟨w.heap.size + 1, 1, none⟩ = some (.int .u64 m)) ∧ W0.cell? ⟨w.heap.size + 2, 0, none⟩ = some (.slice none 0 0) ∧ W0.cell? ⟨w.heap.size + 2, 1, none⟩ = some (.int .i64 0) ∧ W0.cell? ⟨w.heap.size + 2, 2, none⟩ = some (.slice none 0 0) ∧ W0.cell? ⟨w.heap.size + 2, 3, none⟩ = some (.slice none 0 0)) := by
    show _ ∧ _
    rw [hW0]
    exact ⟨⟨by go_simp, by go_simp⟩, by go_simp, by go_simp, by go_simp, by go_simp⟩
  have HF0 : Hid (∀ j, W0.frozen? ⟨w.heap.size + 2, j, none⟩ = false) := by show ∀ j, _; rw [hW0]; intro j; go_simp
  have HNV0 : Hid (NewV w W0 n m) := ⟨HV0.out.1.1, HV0.out.1.2, HV0.out.2.1, HV0.out.2.2.1, HV0.out.2.2.2.1, HV0.out.2.2.2.2, HF0.out, by rw [HZ0.out]; omega⟩
  have HG := Lib.hid hg
  have HI := Lib.hid hi
  have HP := Lib.hid hp
  have d1 : ((roomP h.sp (sizeP n)).e != 0) = true := by simpa using hro
  clear hr hT hh hsh hmr hro hg hi hp HV0 HF0
  go_enter Tryz.func16, Tryz.ntmps16
  rw [hW0] at HB0 HNV0
  go_wp2_with (go_at_call 31; refine (CM.out _ HB0.out).mono ?_)
  rintro e w1 ⟨hb1, ho, -⟩
  obtain ⟨b, v1, A, c, rfl, hmi⟩ := ho HH.out
  rw [← hW0] at hb1 hmi HB0 HNV0
  have HB1 := Lib.hid (bthen HB0.out hb1)
  have HM1 := Lib.hid hmi
  have HNV1 := Lib.hid (HNV0.out.later hb1 (by rw [HZ0.out]; omega))
  have HLO : Hid (w.heap.size + 3 ≤ b) := by have := hmi.lo; rw [HZ0.out] at this; exact this
  have k0 := HNV1.out.n
  have k1 := HNV1.out.m
  clear hb1 ho hmi CM HB0 HNV0
  go_wp2_with (go_at_call 32; refine (CK.out _).mono ?_)
  rintro e w2 ⟨rfl, hb2⟩
  have HB2 := Lib.hid (bthen HB1.out hb2)
  have HM2 := Lib.hid (HM1.out.below hb2)
  have HNV2 := Lib.hid (HNV1.out.later hb2 (by have := HNV1.out.lt; omega))
  clear hb2 k0 k1 CK HB1 HM1 HNV1
  have k0 := HNV2.out.n
  have k1 := HNV2.out.m
  go_wp2_with (go_at_call 33; refine (CZ.out _).mono ?_)
  rintro e w3 ⟨rfl, hb3⟩
  have HB3 := Lib.hid (bthen HB2.out hb3)
  have HM3 := Lib.hid (HM2.out.below hb3)
  have HNV3 := Lib.hid (HNV2.out.later hb3 (by have := HNV2.out.lt; omega))
  clear hb3 k0 k1 CZ HB2 HM2 HNV2
  obtain ⟨aA, aN, aC, ⟨un, uA, um, uc⟩, sA, sN, sC, vs⟩ := v1
  have hsn := HM3.out.own.sn
  simp only at hsn
  subst hsn
  have s3 := HM3.out.st.c3
  simp only at s3
  have CR := Lib.hid (room23 sA sC vs h.sp (sizeP n) w3 (HM3.out.own.rd HWF.out).sp (HT.out.below HB3.out))
  generalize (roomP h.sp (sizeP n)).e = re at *
  generalize (roomP h.sp (sizeP n)).i = ri at *
  generalize (roomP h.sp (sizeP n)).k = rk at *
  go_wp2_with (go_at_call 34; refine CR.out.mono ?_)
  rintro e w4 ⟨rfl, hb4⟩
  have HB4 := Lib.hid (bthen HB3.out hb4)
  have HM4 := Lib.hid (HM3.out.below hb4)
  have HNV4 := Lib.hid (HNV3.out.later hb4 (by have := HNV3.out.lt; omega))
  have CG := Lib.hid (grow35 W0.heap.size b c _ h (objs h) A (sizeP n) (pageP n) w4 HM4.out HWF.out (HT.out.below HB4.out))
  clear hb4 s3 CR HB3 HM3 HNV3
  go_wp2_with (go_at_call 35; refine CG.out.mono ?_)
  rintro e w5 ⟨hb5, hok, -⟩
  obtain ⟨v5, rfl, hm5⟩ := hok HG.out
  rw [HI.out]
  have HB5 : Hid (Below w.heap.size w w5) := HB4.out.trans (hb5.mono (by have := HLO.out; omega))
  have HM5 := Lib.hid hm5
  have HNV5 := Lib.hid (HNV4.out.later hb5 HLO.out)
  have k0 := HNV5.out.n
  have k1 := HNV5.out.m
  have CPU : Hid (Calls Tryz.prog 36 #[.pointer (some ⟨b, 0, none⟩), .int .i64 (i : Int), .int .i64 0, .agg #[.int .i64 (n : Int), .int .u64 m], .bool bl] w5 (PutHP W0.heap.size b (putH (growH h (sizeP n) (pageP n)) i 0 s n m bl) (objs h) A c (⟨i, s, 0⟩ : Cand).a w5)) :=
    put36 W0.heap.size b c i 0 n v5 _ (objs h) A m bl s w5 HM5.out HP.out.wf HP.out.at_ HP.out.right HP.out.slot HSH.out HMR.out HP.out.fit HP.out.max HP.out.few
  clear hb5 hok hm5 CG HB4 HM4 HNV4
  go_wp2_with (go_at_call 36; refine CPU.out.mono ?_)
  rintro e w6 ⟨v6, rfl, hm6, hb6⟩
  have HB6 : Hid (Below w.heap.size w w6) := HB5.out.trans (hb6.mono (by have := HLO.out; omega))
  have HM6 := Lib.hid hm6
  have HNV6 := Lib.hid (HNV5.out.later hb6 HLO.out)
  clear hb6 hm6 k0 k1 CPU HB5 HM5 HNV5
  obtain ⟨s0, s1, s2, s3, s4⟩ := HM6.out.st
  have r0 := HNV6.out.r0
  have r1 := HNV6.out.r1
  have r2 := HNV6.out.r2
  have r3 := HNV6.out.r3
  have ff := HNV6.out.fr
  have ll : w.heap.size + 2 < w6.heap.size := by have := HNV6.out.lt; omega
  obtain ⟨kf, k0, k1, k2, k3⟩ := set4 (b0 := .slice v6.aA v6.aN v6.aC) (b1 := .int .i64 v6.us.n) (b2 := .slice v6.us.A v6.us.m v6.us.c) (b3 := .slice v6.sA v6.sN v6.sC) r0 r1 r2 r3
  have K0 := Lib.hid k0
  have K1 := Lib.hid k1
  have K2 := Lib.hid k2
  have K3 := Lib.hid k3
  clear kf k0 k1 k2 k3
  go_wp2
  clear s0 s1 s2 s3 s4 r0 r1 r2 r3 ff ll
  have k0 := K0.out
  have k1 := K1.out
  have k2 := K2.out
  have k3 := K3.out
  refine bodyPost_ret (v := .tuple #[.agg #[.slice v6.aA v6.aN v6.aC, .int .i64 v6.us.n, .slice v6.us.A v6.us.m v6.us.c, .slice v6.sA v6.sN v6.sC], .int .u64 ((⟨i, s, 0⟩ : Cand).a : Int), .int .i64 0]) (by simp [results, Tryz.results16, go_sem, k0, k1, k2, k3]) rfl ?_
  refine ⟨v6, rfl, ?_, ?_⟩
  · have := HLO.out
    refine OwnH.mono (base := b + 1) ?_ (by omega)
    repeat (refine OwnH.set_lo ?_ (show w.heap.size + 2 < b + 1 by omega) _)
    exact HM6.out.own
  · repeat (refine Below.setCell ?_ (show w.heap.size ≤ w.heap.size + 2 by omega) _)
    exact HB6.out
end Go.Proofs.YtieijfefnedifaaGreatDoor
