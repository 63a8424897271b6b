/- The walk of drop. -/
import Derived.Test.YtieijfefnedifaaGreatDoorMVNVQ
namespace Go.Proofs.YtieijfefnedifaaGreatDoor
open Go.RowKit
set_option linter.unusedVariables false
set_option linter.unusedSimpArgs false

theorem own_some {w : World} {base n c size : Nat} {e : TypeId} {A : Option Addr} {xs : List Value} (h : w.ownsRow base e size (.slice A n c) n xs) (hn : 0 < n) : ∃ g, A = some ⟨g, 0, none⟩ := by
  rcases h.2 with ⟨h', _⟩ | ⟨g, cap, cur, h', _⟩
  · simp only [Value.slice.injEq] at h'
    omega
  · simp only [Value.slice.injEq] at h'
    exact ⟨g, h'.1⟩
def dropS (s : SpanB) (k : Nat) : SpanB := { s with al := putB s.al k false, ma := putB s.ma k false }
def dropO (o : VObj) (s : SpanB) (h : HeapB) : HeapB := ⟨clearL h.ar o.a o.r, h.us, h.sp.set o.i (dropS s o.k)⟩
/-- All blocks but two are as they were. -/
structure Kept (w w' : World) (g ga : Nat) : Prop where
  size : w.heap.size ≤ w'.heap.size
  block : ∀ k, k < w.heap.size → k ≠ g → k ≠ ga → w'.heap[k]? = w.heap[k]?
theorem Kept.refl (w : World) (g ga : Nat) : Kept w w g ga := ⟨Nat.le_refl _, fun _ _ _ _ => rfl⟩
theorem Kept.below {w w1 w2 : World} {g ga : Nat} (h : Kept w w1 g ga) (hb : Below w1.heap.size w1 w2) : Kept w w2 g ga :=
  ⟨Nat.le_trans h.size hb.size, fun k h1 h2 h3 => (hb.block k (Nat.lt_of_lt_of_le h1 h.size)).trans (h.block k h1 h2 h3)⟩
theorem Kept.gro {w w1 w2 : World} {g ga r : Nat} (h : Kept w w1 g ga) (hg : w1.grownBy w2 (some r)) (hr : r = g ∨ r = ga) : Kept w w2 g ga :=
  ⟨Nat.le_trans h.size hg.size, fun k h1 h2 h3 => (hg.block k (Nat.lt_of_lt_of_le h1 h.size) (fun e => by cases e; rcases hr with rfl | rfl <;> contradiction)).trans (h.block k h1 h2 h3)⟩
def DropP (w : World) (g ga : Nat) (w0 : World) (b : Nat) (h : HeapB) (fs : List Flt) (FA : Option Addr) (fc : Nat) (os : List VObj) (OA : Option Addr) (oc : Nat) (e : Ending) (w' : World) : Prop :=
  e = .returned (.tuple #[]) ∧ (∃ v', MS w0 w' b v' h fs FA fc os OA oc ∧ v'.aA = some ⟨ga, 0, none⟩ ∧ v'.sA = some ⟨g, 0, none⟩) ∧ Kept w w' g ga
set_option maxRecDepth 100000 in
set_option maxHeartbeats 8000000 in
theorem drop52 (w0 w : World) (b fc oc ix g ga : Nat) (v : HeapV) (h : HeapB) (fs : List Flt) (FA OA : Option Addr) (os : List VObj) (o : VObj) (s : SpanB) (m : MS w0 w b v h fs FA fc os OA oc) (ho : os[ix]? = some o) (hix : idxA os o.a = (ix : Int)) (hs : h.sp[o.i]? = some s)
    (hka : okB s.al = true) (hwa : Words s.al.w) (hkm : okB s.ma = true) (hwm : Words s.ma.w) (hfew : os.length ≤ 100000) (har : h.ar.length ≤ 16384) (hroom : o.a + o.r ≤ h.ar.length) (hpos : 0 < o.r) (hg : v.sA = some ⟨g, 0, none⟩) (hga : v.aA = some ⟨ga, 0, none⟩) :
    Calls Tryz.prog 52 #[.pointer (some ⟨b, 0, none⟩), .int .u64 o.a] w (DropP w g ga w0 b (dropO o s h) fs FA fc os OA oc) := by
  have HM := Lib.hid m
  have HOX := Lib.hid ho
  have HS := Lib.hid hs
  have HAR : Hid (h.ar.length ≤ 16384 ∧ o.a + o.r ≤ h.ar.length ∧ 0 < o.r) := ⟨har, hroom, hpos⟩
  have HKA : Hid (okB s.al = true ∧ Words s.al.w ∧ okB s.ma = true ∧ Words s.ma.w) := ⟨hka, hwa, hkm, hwm⟩
  have hil : o.i < h.sp.length := (List.getElem?_eq_some_iff.1 hs).1
  have hxl : o.i < v.vs.length := by rw [m.own.al.1]; exact hil
  obtain ⟨x, hx⟩ : ∃ x, v.vs[o.i]? = some x := ⟨_, List.getElem?_eq_getElem hxl⟩
  have HX := Lib.hid hx
  have hsn := m.own.sn
  have HG : Hid (v.sA = some ⟨g, 0, none⟩ ∧ v.aA = some ⟨ga, 0, none⟩) := ⟨hg, hga⟩
  have ba := balloc (Below.refl w.heap.size w) (.cells #[.int .u64 (o.a : Int)] 46)
  have CI := Lib.hid (index93 os OA oc w.heap.size o.a (w.alloc (.cells #[.int .u64 (o.a : Int)] 46)) ((m.s.oo.rd rfl).below ba) (by go_simp) hfew)
  rw [hix] at CI
  have HBA := Lib.hid ba
  have s5 := m.s.st.c5
  have hb := m.s.lt
  clear m ho hs hka hwa hkm hwm har hroom hpos hx hg hga ba hix hil hxl hsn hfew
  go_enter Tryz.func52, Tryz.ntmps52
  go_wp2_with (go_at_call 93; refine CI.out.mono ?_)
  rintro e w1 ⟨rfl, hb1⟩
  have HM1 := Lib.hid (HM.out.later (bthen HBA.out hb1))
  have HK1 := Lib.hid ((Kept.refl w g ga).below (bthen HBA.out hb1))
  clear hb1 CI s5 HBA
  have s5 := HM1.out.s.st.c5
  have hixl : (ix : Int) < (os.length : Int) := by have := (List.getElem?_eq_some_iff.1 HOX.out).1; omega
  obtain ⟨bk, oo, hA, hbk, c0, c1, c2, c3, c4, c5, c6, c7⟩ := (HM1.out.s.oo.rd rfl).at_ HOX.out
  subst hA
  clear hbk
  go_upto_region 3 with fail
  have hba := balloc (Below.refl w1.heap.size w1) (.cells #[.int .i64 o.i, .int .i64 o.k, .int .u64 o.a, .int .u64 o.r, .int .i64 o.n, .int .u64 o.m, .bool o.cur, .bool o.ok] 124)
  have HM2 := Lib.hid (HM1.out.later hba)
  have HK2 := Lib.hid (HK1.out.below hba)
  have HQ2 : Hid (VarQ (w1.alloc (.cells #[.int .i64 o.i, .int .i64 o.k, .int .u64 o.a, .int .u64 o.r, .int .i64 o.n, .int .u64 o.m, .bool o.cur, .bool o.ok] 124)) w1.heap.size o) := VarQ.made w1 o _ rfl
  generalize hWA : w1.alloc (.cells #[.int .i64 o.i, .int .i64 o.k, .int .u64 o.a, .int .u64 o.r, .int .i64 o.n, .int .u64 o.m, .bool o.cur, .bool o.ok] 124) = WA at *
  have HGQ : Hid (g ≠ w1.heap.size ∧ ga ≠ w1.heap.size) := by
    have h1 := HM1.out.own.sp
    have h2 := HM1.out.own.ar
    rw [HG.out.1] at h1
    rw [HG.out.2] at h2
    have h3 := (World.ownsRow.lt h1 g rfl).2
    have h4 := (World.ownsRow.lt h2 ga rfl).2
    exact ⟨by omega, by omega⟩
  generalize hqq : w1.heap.size = q at *
  clear hWA hqq c0 c1 c2 c3 c4 c5 c6 c7 s5 hba hixl HM1 HK1
  have s3 := HM2.out.s.st.c3
  rw [HG.out.1] at s3
  have q0 := HQ2.out.c0
  have hil : (o.i : Int) < (v.sN : Int) := by have h1 := (List.getElem?_eq_some_iff.1 HS.out).1; have h2 := HM2.out.own.sn; omega
  go_cut [6] (fun t6 wx => t6 = .pointer (some ⟨g, o.i * 8, none⟩) ∧ Below WA.heap.size WA wx)
  case first =>
    go_still (by kernel_rfl)
    go_wp2_with fail
    go_meet
    exact ⟨rfl, (Below.refl _ _).drew⟩
  obtain ⟨rfl, bd0⟩ := hcut
  obtain ⟨wB, hwB⟩ : ∃ wB, wB = wc := ⟨_, rfl⟩
  subst hwB
  have bd1 : Below WA.heap.size WA wB.drew := bd0.drew
  go_upto_region 4 with fail
  have HM3 := Lib.hid (HM2.out.later bd1)
  have HK3 := Lib.hid (HK2.out.below bd1)
  have HQ3 := Lib.hid (HQ2.out.below bd1)
  clear s3 q0 hil HM2 HQ2 bd1 bd0 HK2
  refine wp_region_held_drew (S := fun W => W.cell? ⟨q, 1, none⟩ = some (.int .i64 (o.k : Int))) (by kernel_rfl) HQ3.out.c1 (fun hHeld => ?_)
  generalize wB.drew = w6 at *
  have a0 := (HM3.out.own.cells HG.out.1 HX.out 3 _ rfl).1
  have a1 := (HM3.out.own.cells HG.out.1 HX.out 4 _ rfl).1
  have al := World.block_lt_of_cell? _ _ a0
  have CP := Lib.hid (put44 x.al s.al o.k false w6 (RdB.own (HM3.out.own.al.2 _ _ _ HX.out HS.out).an (HM3.out.own.al.2 _ _ _ HX.out HS.out).am (HM3.out.own.al.2 _ _ _ HX.out HS.out).ac (HM3.out.own.al.2 _ _ _ HX.out HS.out).al HKA.out.1 HKA.out.2.1))
  unfold BitV.v at CP
  generalize putE s.al o.k = ee at CP
  refine wpAnyH_take (i := 0) (oi := _) (v := ?_) rfl (by kernel_rfl) (by kernel_rfl) (by kernel_rfl) (fun _ _ _ h => h) (Or.inl ⟨by rfl, ?_⟩) (by assumption) ?_
  rotate_left
  · intro w hSw
    try dsimp only at hSw
    have t0 := hSw
    go_simp
    all_goals with_reducible rfl
  try simp only [Act.put, List.setIfInBounds_toArray, List.set_cons_zero, List.set_cons_succ, List.getElem_toArray, List.getElem_cons_zero, List.getElem_cons_succ]
  refine wpAnyH_take (i := 1) (oi := _) (v := ?_) rfl (by kernel_rfl) (by kernel_rfl) (by kernel_rfl) (fun _ _ _ h => h) (Or.inl ⟨by rfl, ?_⟩) (by assumption) ?_
  rotate_left
  · intro w hSw
    try dsimp only at hSw
    have t0 := hSw
    go_simp
    all_goals with_reducible rfl
  try simp only [Act.put, List.setIfInBounds_toArray, List.set_cons_zero, List.set_cons_succ, List.getElem_toArray, List.getElem_cons_zero, List.getElem_cons_succ]
  refine wpAnyH_take (i := 2) (oi := _) (v := ?_) rfl (by kernel_rfl) (by kernel_rfl) (by kernel_rfl) (fun _ _ _ h => h) (Or.inl ⟨by rfl, ?_⟩) (by assumption) ?_
  rotate_left
  · intro w hSw
    try dsimp only at hSw
    have t0 := hSw
    go_simp
    all_goals with_reducible rfl
  try simp only [Act.put, List.setIfInBounds_toArray, List.set_cons_zero, List.set_cons_succ, List.getElem_toArray, List.getElem_cons_zero, List.getElem_cons_succ]
  refine wpAnyH_take (i := 3) (oi := _) (v := ?_) rfl (by kernel_rfl) (by kernel_rfl) (by kernel_rfl) (fun _ _ _ h => h) (Or.inl ⟨by rfl, ?_⟩) (by assumption) ?_
  rotate_left
  · intro w hSw
    try dsimp only at hSw
    have t0 := hSw
    go_simp
    all_goals with_reducible rfl
  try simp only [Act.put, List.setIfInBounds_toArray, List.set_cons_zero, List.set_cons_succ, List.getElem_toArray, List.getElem_cons_zero, List.getElem_cons_succ]
  refine wpAnyH_take (i := 5) (oi := _) (v := ?_) rfl (by kernel_rfl) (by kernel_rfl) (by kernel_rfl) (fun _ _ _ h => h) (Or.inl ⟨by rfl, ?_⟩) (by assumption) ?_
  rotate_left
  · intro w hSw
    try dsimp only at hSw
    have t0 := hSw
    go_simp
    all_goals with_reducible rfl
  try simp only [Act.put, List.setIfInBounds_toArray, List.set_cons_zero, List.set_cons_succ, List.getElem_toArray, List.getElem_cons_zero, List.getElem_cons_succ]
  refine wpAnyH_take (i := 6) (oi := _) (v := ?_) rfl (by kernel_rfl) (by kernel_rfl) (by kernel_rfl) (fun _ _ _ h => h) (Or.inl ⟨by rfl, ?_⟩) (by assumption) ?_
  rotate_left
  · intro w hSw
    try dsimp only at hSw
    have t0 := hSw
    go_simp
    all_goals with_reducible rfl
  try simp only [Act.put, List.setIfInBounds_toArray, List.set_cons_zero, List.set_cons_succ, List.getElem_toArray, List.getElem_cons_zero, List.getElem_cons_succ]
  refine wpAnyH_ready (rs := [4]) (by kernel_rfl) (by simp) ?_
  refine AllReadyH.cons (o := _) rfl (fun KQ hKQ => ?_) AllReadyH.nil
  go_simp
  refine hKQ.out _ _ HQ3.out.c1 (fun hHeld => ?_)
  clear hKQ KQ
  try simp only [Act.put, List.setIfInBounds_toArray, List.set_cons_zero, List.set_cons_succ, List.getElem_toArray, List.getElem_cons_zero, List.getElem_cons_succ]
  clear a0 a1 al
  refine wpAnyH_ready (rs := [7]) (by kernel_rfl) (by simp) ?_
  refine AllReadyH.cons (o := _) rfl (fun KQ hKQ => ?_) AllReadyH.nil
  go_simp
  go_at_call 50
  refine CP.out.mono ?_
  rintro e w7 ⟨⟨n7, A7, m7, c7⟩, rfl, hn7, hm7, hcap7, ho7, hb7⟩
  unfold BitV.v
  simp only at hn7 hm7 hcap7 ho7
  simp only
  have HV7 := Lib.hid (HQ3.out.below hb7)
  have HM7 := Lib.hid (HM3.out.later hb7)
  have HK7 := Lib.hid (HK3.out.below hb7)
  have HPA := Lib.hid (HM3.out.putAl (bv := ⟨n7, A7, m7, c7⟩) (bb := putB s.al o.k false) hb7 HG.out.1 HX.out HS.out hn7 hm7 hcap7 ho7)
  clear hb7 ho7 hn7 hm7 hcap7 CP HM3 HQ3 HK3
  obtain ⟨a0, f0⟩ := HM7.out.own.cells HG.out.1 HX.out 3 _ rfl
  obtain ⟨a1, f1⟩ := HM7.out.own.cells HG.out.1 HX.out 4 _ rfl
  have al := World.block_lt_of_cell? _ _ a0
  have hgq : g ≠ q := HGQ.out.1
  refine hKQ.out _ _ HV7.out.c1 (fun hHeld => ?_)
  clear hKQ KQ
  try simp only [Act.put, List.setIfInBounds_toArray, List.set_cons_zero, List.set_cons_succ, List.getElem_toArray, List.getElem_cons_zero, List.getElem_cons_succ]
  refine wpAnyH_take (i := 8) (oi := _) (v := ?_) rfl (by kernel_rfl) (by kernel_rfl) (by kernel_rfl) (fun _ _ _ h => h) (Or.inl ⟨by rfl, ?_⟩) (by assumption) ?_
  rotate_left
  · intro w hSw
    try dsimp only at hSw
    have t0 := hSw
    go_simp
    all_goals with_reducible rfl
  try simp only [Act.put, List.setIfInBounds_toArray, List.set_cons_zero, List.set_cons_succ, List.getElem_toArray, List.getElem_cons_zero, List.getElem_cons_succ]
  refine wpAnyH_take (i := 9) (oi := _) (v := ?_) rfl (by kernel_rfl) (by kernel_rfl) (by kernel_rfl) (fun _ _ _ h => h) (Or.inl ⟨by rfl, ?_⟩) (by assumption) ?_
  rotate_left
  · intro w hSw
    try dsimp only at hSw
    have t0 := hSw
    go_simp
    all_goals with_reducible rfl
  try simp only [Act.put, List.setIfInBounds_toArray, List.set_cons_zero, List.set_cons_succ, List.getElem_toArray, List.getElem_cons_zero, List.getElem_cons_succ]
  refine wpAnyH_take (i := 10) (oi := _) (v := ?_) rfl (by kernel_rfl) (by kernel_rfl) (by kernel_rfl) (fun _ _ _ h => h) (Or.inl ⟨by rfl, ?_⟩) (by assumption) ?_
  rotate_left
  · intro w hSw
    try dsimp only at hSw
    have t0 := hSw
    go_simp
    all_goals with_reducible rfl
  try simp only [Act.put, List.setIfInBounds_toArray, List.set_cons_zero, List.set_cons_succ, List.getElem_toArray, List.getElem_cons_zero, List.getElem_cons_succ]
  refine wpAnyH_take (i := 11) (oi := _) (v := ?_) rfl (by kernel_rfl) (by kernel_rfl) (by kernel_rfl) (fun _ _ _ h => h) (Or.inl ⟨by rfl, ?_⟩) (by assumption) ?_
  rotate_left
  · intro w hSw
    try dsimp only at hSw
    have t0 := hSw
    go_simp
    all_goals with_reducible rfl
  try simp only [Act.put, List.setIfInBounds_toArray, List.set_cons_zero, List.set_cons_succ, List.getElem_toArray, List.getElem_cons_zero, List.getElem_cons_succ]
  refine wpAnyH_take (i := 12) (oi := _) (v := ?_) rfl (by kernel_rfl) (by kernel_rfl) (by kernel_rfl) (fun _ _ _ h => h) (Or.inl ⟨by rfl, ?_⟩) (by assumption) ?_
  rotate_left
  · intro w hSw
    try dsimp only at hSw
    have t0 := hSw
    go_simp
    all_goals with_reducible rfl
  try simp only [Act.put, List.setIfInBounds_toArray, List.set_cons_zero, List.set_cons_succ, List.getElem_toArray, List.getElem_cons_zero, List.getElem_cons_succ]
  refine wpAnyH_ready (rs := [13]) (by kernel_rfl) (by simp) ?_
  refine AllReadyH.cons (o := _) rfl (fun KQ hKQ => ?_) AllReadyH.nil
  go_simp
  refine hKQ.out _ _ ((World.cell?_setCell_far _ _ _ _ (by simpa using hgq)).trans ((World.cell?_setCell_far _ _ _ _ (by simpa using hgq)).trans HV7.out.c1)) (fun hHeld => ?_)
  clear hKQ KQ
  try simp only [Act.put, List.setIfInBounds_toArray, List.set_cons_zero, List.set_cons_succ, List.getElem_toArray, List.getElem_cons_zero, List.getElem_cons_succ]
  refine wpAnyH_done (by kernel_rfl) ?_ _
  clear a0 a1 f0 f1 al
  have HV8 := Lib.hid ((HV7.out.set_ne (p := ⟨g, o.i * 8 + 3, none⟩) hgq (.int .i64 n7)).set_ne (p := ⟨g, o.i * 8 + 4, none⟩) hgq (.slice A7 m7 c7))
  have HK8 := Lib.hid (HK7.out.gro (gset (gset (World.grownBy.refl w7 (some g)) (o.i * 8 + 3) (.int .i64 n7)) (o.i * 8 + 4) (.slice A7 m7 c7)) (Or.inl rfl))
  clear HV7 HM7 HK7
  generalize (w7.setCell ⟨g, o.i * 8 + 3, none⟩ (.int .i64 n7)).setCell ⟨g, o.i * 8 + 4, none⟩ (.slice A7 m7 c7) = wE at *
  obtain ⟨v1, x1, s1, HM8, HX1, HS1, HG1, HE1⟩ : ∃ (v1 : HeapV) (x1 : SpanV) (s1 : SpanB), Hid (MS w0 wE b v1 { h with sp := h.sp.set o.i s1 } fs FA fc os (some ⟨bk, oo, none⟩) oc) ∧ Hid (v1.vs[o.i]? = some x1) ∧ Hid ((h.sp.set o.i s1)[o.i]? = some s1) ∧ Hid (v1.sA = some ⟨g, 0, none⟩ ∧ v1.aA = some ⟨ga, 0, none⟩) ∧ Hid (s1 = { s with al := putB s.al o.k false }) := by
    refine ⟨{ v with vs := v.vs.set o.i { x with al := ⟨n7, A7, m7, c7⟩ } }, { x with al := ⟨n7, A7, m7, c7⟩ }, { s with al := putB s.al o.k false }, HPA.out, ?_, ?_, HG.out, rfl⟩
    · exact List.getElem?_set_self (List.getElem?_eq_some_iff.1 HX.out).1
    · exact List.getElem?_set_self (List.getElem?_eq_some_iff.1 HS.out).1
  clear HPA HX
  go_upto_region 5 with fail
  have HM3 := Lib.hid (HM8.out.later (Below.refl wE.heap.size wE).drew)
  have HK3 := Lib.hid (HK8.out.below (Below.refl wE.heap.size wE).drew)
  have HQ3 := Lib.hid (HV8.out.below (Below.refl wE.heap.size wE).drew)
  clear HM8 HV8 HK8
  refine wp_region_held_drew (S := fun W => W.cell? ⟨q, 1, none⟩ = some (.int .i64 (o.k : Int))) (by kernel_rfl) HQ3.out.c1 (fun hHeld => ?_)
  generalize wE.drew = w6 at *
  have a0 := (HM3.out.own.cells HG1.out.1 HX1.out 5 _ rfl).1
  have a1 := (HM3.out.own.cells HG1.out.1 HX1.out 6 _ rfl).1
  have al := World.block_lt_of_cell? _ _ a0
  have HN3 := Lib.hid (HM3.out.own.al.2 _ _ _ HX1.out HS1.out)
  have HSM : Hid (s1.ma = s.ma) := by show _ = _; rw [HE1.out]
  have CP := Lib.hid (put44 x1.ma s1.ma o.k false w6 (RdB.own HN3.out.mn HN3.out.mm HN3.out.mc HN3.out.ma (by rw [HSM.out]; exact HKA.out.2.2.1) (by rw [HSM.out]; exact HKA.out.2.2.2)))
  unfold BitV.v at CP
  generalize putE s1.ma o.k = ee at CP
  clear HN3
  refine wpAnyH_take (i := 0) (oi := _) (v := ?_) rfl (by kernel_rfl) (by kernel_rfl) (by kernel_rfl) (fun _ _ _ h => h) (Or.inl ⟨by rfl, ?_⟩) (by assumption) ?_
  rotate_left
  · intro w hSw
    try dsimp only at hSw
    have t0 := hSw
    go_simp
    all_goals with_reducible rfl
  try simp only [Act.put, List.setIfInBounds_toArray, List.set_cons_zero, List.set_cons_succ, List.getElem_toArray, List.getElem_cons_zero, List.getElem_cons_succ]
  refine wpAnyH_take (i := 1) (oi := _) (v := ?_) rfl (by kernel_rfl) (by kernel_rfl) (by kernel_rfl) (fun _ _ _ h => h) (Or.inl ⟨by rfl, ?_⟩) (by assumption) ?_
  rotate_left
  · intro w hSw
    try dsimp only at hSw
    have t0 := hSw
    go_simp
    all_goals with_reducible rfl
  try simp only [Act.put, List.setIfInBounds_toArray, List.set_cons_zero, List.set_cons_succ, List.getElem_toArray, List.getElem_cons_zero, List.getElem_cons_succ]
  refine wpAnyH_take (i := 2) (oi := _) (v := ?_) rfl (by kernel_rfl) (by kernel_rfl) (by kernel_rfl) (fun _ _ _ h => h) (Or.inl ⟨by rfl, ?_⟩) (by assumption) ?_
  rotate_left
  · intro w hSw
    try dsimp only at hSw
    have t0 := hSw
    go_simp
    all_goals with_reducible rfl
  try simp only [Act.put, List.setIfInBounds_toArray, List.set_cons_zero, List.set_cons_succ, List.getElem_toArray, List.getElem_cons_zero, List.getElem_cons_succ]
  refine wpAnyH_take (i := 3) (oi := _) (v := ?_) rfl (by kernel_rfl) (by kernel_rfl) (by kernel_rfl) (fun _ _ _ h => h) (Or.inl ⟨by rfl, ?_⟩) (by assumption) ?_
  rotate_left
  · intro w hSw
    try dsimp only at hSw
    have t0 := hSw
    go_simp
    all_goals with_reducible rfl
  try simp only [Act.put, List.setIfInBounds_toArray, List.set_cons_zero, List.set_cons_succ, List.getElem_toArray, List.getElem_cons_zero, List.getElem_cons_succ]
  refine wpAnyH_take (i := 5) (oi := _) (v := ?_) rfl (by kernel_rfl) (by kernel_rfl) (by kernel_rfl) (fun _ _ _ h => h) (Or.inl ⟨by rfl, ?_⟩) (by assumption) ?_
  rotate_left
  · intro w hSw
    try dsimp only at hSw
    have t0 := hSw
    go_simp
    all_goals with_reducible rfl
  try simp only [Act.put, List.setIfInBounds_toArray, List.set_cons_zero, List.set_cons_succ, List.getElem_toArray, List.getElem_cons_zero, List.getElem_cons_succ]
  refine wpAnyH_take (i := 6) (oi := _) (v := ?_) rfl (by kernel_rfl) (by kernel_rfl) (by kernel_rfl) (fun _ _ _ h => h) (Or.inl ⟨by rfl, ?_⟩) (by assumption) ?_
  rotate_left
  · intro w hSw
    try dsimp only at hSw
    have t0 := hSw
    go_simp
    all_goals with_reducible rfl
  try simp only [Act.put, List.setIfInBounds_toArray, List.set_cons_zero, List.set_cons_succ, List.getElem_toArray, List.getElem_cons_zero, List.getElem_cons_succ]
  refine wpAnyH_ready (rs := [4]) (by kernel_rfl) (by simp) ?_
  refine AllReadyH.cons (o := _) rfl (fun KQ hKQ => ?_) AllReadyH.nil
  go_simp
  refine hKQ.out _ _ HQ3.out.c1 (fun hHeld => ?_)
  clear hKQ KQ
  try simp only [Act.put, List.setIfInBounds_toArray, List.set_cons_zero, List.set_cons_succ, List.getElem_toArray, List.getElem_cons_zero, List.getElem_cons_succ]
  clear a0 a1 al
  refine wpAnyH_ready (rs := [7]) (by kernel_rfl) (by simp) ?_
  refine AllReadyH.cons (o := _) rfl (fun KQ hKQ => ?_) AllReadyH.nil
  go_simp
  go_at_call 50
  refine CP.out.mono ?_
  rintro e w7 ⟨⟨n7, A7, m7, c7⟩, rfl, hn7, hm7, hcap7, ho7, hb7⟩
  unfold BitV.v
  simp only at hn7 hm7 hcap7 ho7
  simp only
  have HV7 := Lib.hid (HQ3.out.below hb7)
  have HM7 := Lib.hid (HM3.out.later hb7)
  have HK7 := Lib.hid (HK3.out.below hb7)
  have HPA := Lib.hid (HM3.out.putMa (bv := ⟨n7, A7, m7, c7⟩) (bb := putB s1.ma o.k false) hb7 HG1.out.1 HX1.out HS1.out hn7 hm7 hcap7 ho7)
  clear hb7 ho7 hn7 hm7 hcap7 CP HM3 HQ3 HK3
  obtain ⟨a0, f0⟩ := HM7.out.own.cells HG1.out.1 HX1.out 5 _ rfl
  obtain ⟨a1, f1⟩ := HM7.out.own.cells HG1.out.1 HX1.out 6 _ rfl
  have al := World.block_lt_of_cell? _ _ a0
  have hgq : g ≠ q := HGQ.out.1
  refine hKQ.out _ _ HV7.out.c1 (fun hHeld => ?_)
  clear hKQ KQ
  try simp only [Act.put, List.setIfInBounds_toArray, List.set_cons_zero, List.set_cons_succ, List.getElem_toArray, List.getElem_cons_zero, List.getElem_cons_succ]
  refine wpAnyH_take (i := 8) (oi := _) (v := ?_) rfl (by kernel_rfl) (by kernel_rfl) (by kernel_rfl) (fun _ _ _ h => h) (Or.inl ⟨by rfl, ?_⟩) (by assumption) ?_
  rotate_left
  · intro w hSw
    try dsimp only at hSw
    have t0 := hSw
    go_simp
    all_goals with_reducible rfl
  try simp only [Act.put, List.setIfInBounds_toArray, List.set_cons_zero, List.set_cons_succ, List.getElem_toArray, List.getElem_cons_zero, List.getElem_cons_succ]
  refine wpAnyH_take (i := 9) (oi := _) (v := ?_) rfl (by kernel_rfl) (by kernel_rfl) (by kernel_rfl) (fun _ _ _ h => h) (Or.inl ⟨by rfl, ?_⟩) (by assumption) ?_
  rotate_left
  · intro w hSw
    try dsimp only at hSw
    have t0 := hSw
    go_simp
    all_goals with_reducible rfl
  try simp only [Act.put, List.setIfInBounds_toArray, List.set_cons_zero, List.set_cons_succ, List.getElem_toArray, List.getElem_cons_zero, List.getElem_cons_succ]
  refine wpAnyH_take (i := 10) (oi := _) (v := ?_) rfl (by kernel_rfl) (by kernel_rfl) (by kernel_rfl) (fun _ _ _ h => h) (Or.inl ⟨by rfl, ?_⟩) (by assumption) ?_
  rotate_left
  · intro w hSw
    try dsimp only at hSw
    have t0 := hSw
    go_simp
    all_goals with_reducible rfl
  try simp only [Act.put, List.setIfInBounds_toArray, List.set_cons_zero, List.set_cons_succ, List.getElem_toArray, List.getElem_cons_zero, List.getElem_cons_succ]
  refine wpAnyH_take (i := 11) (oi := _) (v := ?_) rfl (by kernel_rfl) (by kernel_rfl) (by kernel_rfl) (fun _ _ _ h => h) (Or.inl ⟨by rfl, ?_⟩) (by assumption) ?_
  rotate_left
  · intro w hSw
    try dsimp only at hSw
    have t0 := hSw
    go_simp
    all_goals with_reducible rfl
  try simp only [Act.put, List.setIfInBounds_toArray, List.set_cons_zero, List.set_cons_succ, List.getElem_toArray, List.getElem_cons_zero, List.getElem_cons_succ]
  refine wpAnyH_take (i := 12) (oi := _) (v := ?_) rfl (by kernel_rfl) (by kernel_rfl) (by kernel_rfl) (fun _ _ _ h => h) (Or.inl ⟨by rfl, ?_⟩) (by assumption) ?_
  rotate_left
  · intro w hSw
    try dsimp only at hSw
    have t0 := hSw
    go_simp
    all_goals with_reducible rfl
  try simp only [Act.put, List.setIfInBounds_toArray, List.set_cons_zero, List.set_cons_succ, List.getElem_toArray, List.getElem_cons_zero, List.getElem_cons_succ]
  refine wpAnyH_ready (rs := [13]) (by kernel_rfl) (by simp) ?_
  refine AllReadyH.cons (o := _) rfl (fun KQ hKQ => ?_) AllReadyH.nil
  go_simp
  refine hKQ.out _ _ ((World.cell?_setCell_far _ _ _ _ (by simpa using hgq)).trans ((World.cell?_setCell_far _ _ _ _ (by simpa using hgq)).trans HV7.out.c1)) (fun hHeld => ?_)
  clear hKQ KQ
  try simp only [Act.put, List.setIfInBounds_toArray, List.set_cons_zero, List.set_cons_succ, List.getElem_toArray, List.getElem_cons_zero, List.getElem_cons_succ]
  refine wpAnyH_done (by kernel_rfl) ?_ _
  clear a0 a1 f0 f1 al
  have HV8 := Lib.hid ((HV7.out.set_ne (p := ⟨g, o.i * 8 + 5, none⟩) hgq (.int .i64 n7)).set_ne (p := ⟨g, o.i * 8 + 6, none⟩) hgq (.slice A7 m7 c7))
  have HK8 := Lib.hid (HK7.out.gro (gset (gset (World.grownBy.refl w7 (some g)) (o.i * 8 + 5) (.int .i64 n7)) (o.i * 8 + 6) (.slice A7 m7 c7)) (Or.inl rfl))
  clear HV7 HM7 HK7
  generalize (w7.setCell ⟨g, o.i * 8 + 5, none⟩ (.int .i64 n7)).setCell ⟨g, o.i * 8 + 6, none⟩ (.slice A7 m7 c7) = wF at *
  obtain ⟨v2, HM9, HG2, HG3⟩ : ∃ (v2 : HeapV), Hid (MS w0 wF b v2 { h with sp := h.sp.set o.i (dropS s o.k) } fs FA fc os (some ⟨bk, oo, none⟩) oc) ∧ Hid (v2.aA = some ⟨ga, 0, none⟩) ∧ Hid (v2.sA = some ⟨g, 0, none⟩) := by
    refine ⟨{ v1 with vs := v1.vs.set o.i { x1 with ma := ⟨n7, A7, m7, c7⟩ } }, ?_, HG1.out.2, HG1.out.1⟩
    have h1 := HPA.out
    have e1 := HE1.out
    subst e1
    rw [List.set_set] at h1
    exact h1
  clear HPA HX1 HS1 HG1 HSM
  go_upto_region 6 with fail
  have HM3 := Lib.hid (HM9.out.later (Below.refl wF.heap.size wF).drew)
  have HK3 := Lib.hid (HK8.out.below (Below.refl wF.heap.size wF).drew)
  have HQ3 := Lib.hid (HV8.out.below (Below.refl wF.heap.size wF).drew)
  clear HM9 HV8 HK8
  have s0 := HM3.out.s.st.c0
  rw [HG2.out] at s0
  obtain ⟨hi, hhi⟩ : ∃ hi, hi = o.a + o.r := ⟨_, rfl⟩
  have hw : IntKind.u64.wrap ((o.a : Int) + (o.r : Int)) = (hi : Int) := by rw [u64_wrap_]; have := HAR.out; omega
  have HHI : Hid (hi = o.a + o.r) := hhi
  have HNN : Hid (v2.aN = h.ar.length ∧ v2.aN ≤ v2.aC) := ⟨HM3.out.own.n, HM3.out.own.c⟩
  have HSL : Hid (∀ W, (Instr.sliceAt 22 (.slice (some ⟨ga, 0, none⟩) v2.aN v2.aC) (some (.int .u64 (o.a : Int))) (some (.int .u64 (hi : Int))) none).run Tryz.prog W = .ok (.slice (if v2.aC = o.a then some ⟨ga, 0, none⟩ else some ⟨ga, 0 + o.a, none⟩) (hi - o.a) (v2.aC - o.a)) W) := fun W => slice_u64 W ga 0 v2.aN v2.aC o.a hi (by have := HHI.out; omega) (by have := HAR.out; have := HNN.out; omega)
  have HXA : Hid ((if v2.aC = o.a then some (⟨ga, 0, none⟩ : Addr) else some ⟨ga, 0 + o.a, none⟩) = some ⟨ga, o.a, none⟩) := by
    show _ = _
    rw [if_neg (by have := HAR.out; have := HNN.out; omega), Nat.zero_add]
  rw [HXA.out] at HSL
  have HRR : Hid (hi - o.a = o.r) := by show _ = _; omega
  rw [HRR.out] at HSL
  generalize v2.aC - o.a = cc at HSL
  clear hhi HXA HRR
  refine wp_region_held_drew (S := fun W => W.cell? ⟨b, 0, none⟩ = some (.slice (some ⟨ga, 0, none⟩) v2.aN v2.aC) ∧ W.cell? ⟨q, 2, none⟩ = some (.int .u64 (o.a : Int)) ∧ W.cell? ⟨q, 3, none⟩ = some (.int .u64 (o.r : Int))) (by kernel_rfl) ⟨s0, HQ3.out.c2, HQ3.out.c3⟩ (fun hHeld => ?_)
  generalize wF.drew = w6 at *
  clear s0
  refine wpAnyH_take (i := 0) (oi := _) (v := ?_) rfl (by kernel_rfl) (by kernel_rfl) (by kernel_rfl) (fun _ _ _ h => h) (Or.inl ⟨by rfl, ?_⟩) (by assumption) ?_
  rotate_left
  · intro w hSw
    try dsimp only at hSw
    obtain ⟨t0, t1, t2⟩ := hSw
    go_simp
    all_goals with_reducible rfl
  try simp only [Act.put, List.setIfInBounds_toArray, List.set_cons_zero, List.set_cons_succ, List.getElem_toArray, List.getElem_cons_zero, List.getElem_cons_succ]
  refine wpAnyH_take (i := 1) (oi := _) (v := ?_) rfl (by kernel_rfl) (by kernel_rfl) (by kernel_rfl) (fun _ _ _ h => h) (Or.inl ⟨by rfl, ?_⟩) (by assumption) ?_
  rotate_left
  · intro w hSw
    try dsimp only at hSw
    obtain ⟨t0, t1, t2⟩ := hSw
    go_simp
    all_goals with_reducible rfl
  try simp only [Act.put, List.setIfInBounds_toArray, List.set_cons_zero, List.set_cons_succ, List.getElem_toArray, List.getElem_cons_zero, List.getElem_cons_succ]
  refine wpAnyH_take (i := 2) (oi := _) (v := ?_) rfl (by kernel_rfl) (by kernel_rfl) (by kernel_rfl) (fun _ _ _ h => h) (Or.inl ⟨by rfl, ?_⟩) (by assumption) ?_
  rotate_left
  · intro w hSw
    try dsimp only at hSw
    obtain ⟨t0, t1, t2⟩ := hSw
    go_simp
    all_goals with_reducible rfl
  try simp only [Act.put, List.setIfInBounds_toArray, List.set_cons_zero, List.set_cons_succ, List.getElem_toArray, List.getElem_cons_zero, List.getElem_cons_succ]
  refine wpAnyH_take (i := 3) (oi := _) (v := ?_) rfl (by kernel_rfl) (by kernel_rfl) (by kernel_rfl) (fun _ _ _ h => h) (Or.inl ⟨by rfl, ?_⟩) (by assumption) ?_
  rotate_left
  · intro w hSw
    try dsimp only at hSw
    obtain ⟨t0, t1, t2⟩ := hSw
    go_simp
    all_goals with_reducible rfl
  try simp only [Act.put, List.setIfInBounds_toArray, List.set_cons_zero, List.set_cons_succ, List.getElem_toArray, List.getElem_cons_zero, List.getElem_cons_succ]
  refine wpAnyH_take (i := 4) (oi := _) (v := ?_) rfl (by kernel_rfl) (by kernel_rfl) (by kernel_rfl) (fun _ _ _ h => h) (Or.inl ⟨by rfl, ?_⟩) (by assumption) ?_
  rotate_left
  · intro w hSw
    try dsimp only at hSw
    obtain ⟨t0, t1, t2⟩ := hSw
    go_simp
    all_goals with_reducible rfl
  try simp only [Act.put, List.setIfInBounds_toArray, List.set_cons_zero, List.set_cons_succ, List.getElem_toArray, List.getElem_cons_zero, List.getElem_cons_succ]
  refine wpAnyH_take (i := 5) (oi := _) (v := ?_) rfl (by kernel_rfl) (by kernel_rfl) (by kernel_rfl) (fun _ _ _ h => h) (Or.inl ⟨by rfl, ?_⟩) (by assumption) ?_
  rotate_left
  · intro w hSw
    try dsimp only at hSw
    obtain ⟨t0, t1, t2⟩ := hSw
    go_simp
    all_goals with_reducible rfl
  try simp only [Act.put, List.setIfInBounds_toArray, List.set_cons_zero, List.set_cons_succ, List.getElem_toArray, List.getElem_cons_zero, List.getElem_cons_succ]
  refine wpAnyH_take (i := 6) (oi := _) (v := ?_) rfl (by kernel_rfl) (by kernel_rfl) (by kernel_rfl) (fun _ _ _ h => h) (Or.inl ⟨by rfl, ?_⟩) (by assumption) ?_
  rotate_left
  · intro w hSw
    try dsimp only at hSw
    obtain ⟨t0, t1, t2⟩ := hSw
    go_simp
    all_goals with_reducible rfl
  try simp only [Act.put, List.setIfInBounds_toArray, List.set_cons_zero, List.set_cons_succ, List.getElem_toArray, List.getElem_cons_zero, List.getElem_cons_succ]
  refine wpAnyH_take (i := 7) (oi := _) (v := ?_) rfl (by kernel_rfl) (by kernel_rfl) (by kernel_rfl) (fun _ _ _ h => h) (Or.inl ⟨by rfl, ?_⟩) (by assumption) ?_
  rotate_left
  · intro w hSw
    try dsimp only at hSw
    obtain ⟨t0, t1, t2⟩ := hSw
    go_simp
    all_goals with_reducible rfl
  try simp only [Act.put, List.setIfInBounds_toArray, List.set_cons_zero, List.set_cons_succ, List.getElem_toArray, List.getElem_cons_zero, List.getElem_cons_succ]
  refine wpAnyH_take (i := 8) (oi := _) (v := ?_) rfl (by kernel_rfl) (by kernel_rfl) (by kernel_rfl) (fun _ _ _ h => h) (Or.inl ⟨by rfl, ?_⟩) (by assumption) ?_
  rotate_left
  · intro w hSw
    try dsimp only at hSw
    obtain ⟨t0, t1, t2⟩ := hSw
    go_simp
    all_goals with_reducible rfl
  try simp only [Act.put, List.setIfInBounds_toArray, List.set_cons_zero, List.set_cons_succ, List.getElem_toArray, List.getElem_cons_zero, List.getElem_cons_succ]
  refine wpAnyH_take (i := 9) (oi := _) (v := ?_) rfl (by kernel_rfl) (by kernel_rfl) (by kernel_rfl) (fun _ _ _ h => h) (Or.inl ⟨by rfl, ?_⟩) (by assumption) ?_
  rotate_left
  · intro w hSw
    try dsimp only at hSw
    obtain ⟨t0, t1, t2⟩ := hSw
    go_simp
    all_goals with_reducible rfl
  try simp only [Act.put, List.setIfInBounds_toArray, List.set_cons_zero, List.set_cons_succ, List.getElem_toArray, List.getElem_cons_zero, List.getElem_cons_succ]
  refine wpAnyH_take (i := 10) (oi := _) (v := ?_) rfl (by kernel_rfl) (by kernel_rfl) (by kernel_rfl) (fun _ _ _ h => h) (Or.inl ⟨by rfl, ?_⟩) (by assumption) ?_
  rotate_left
  · intro w hSw
    try dsimp only at hSw
    obtain ⟨t0, t1, t2⟩ := hSw
    go_simp
    all_goals with_reducible rfl
  try simp only [Act.put, List.setIfInBounds_toArray, List.set_cons_zero, List.set_cons_succ, List.getElem_toArray, List.getElem_cons_zero, List.getElem_cons_succ]
  refine wpAnyH_take (i := 11) (oi := _) (v := ?_) rfl (by kernel_rfl) (by kernel_rfl) (by kernel_rfl) (fun _ _ _ h => h) (Or.inl ⟨by rfl, ?_⟩) (by assumption) ?_
  rotate_left
  · intro w hSw
    try dsimp only at hSw
    obtain ⟨t0, t1, t2⟩ := hSw
    go_simp
    all_goals with_reducible rfl
  try simp only [Act.put, List.setIfInBounds_toArray, List.set_cons_zero, List.set_cons_succ, List.getElem_toArray, List.getElem_cons_zero, List.getElem_cons_succ]
  refine wpAnyH_take (i := 12) (oi := _) (v := ?_) rfl (by kernel_rfl) (by kernel_rfl) (by kernel_rfl) (fun _ _ _ h => h) (Or.inl ⟨by rfl, ?_⟩) (by assumption) ?_
  rotate_left
  · intro w hSw
    try dsimp only at hSw
    obtain ⟨t0, t1, t2⟩ := hSw
    go_simp
    all_goals with_reducible rfl
  try simp only [Act.put, List.setIfInBounds_toArray, List.set_cons_zero, List.set_cons_succ, List.getElem_toArray, List.getElem_cons_zero, List.getElem_cons_succ]
  refine wpAnyH_take (i := 13) (oi := _) (v := .slice (some ⟨ga, o.a, none⟩) o.r cc) rfl (by kernel_rfl) (by kernel_rfl) (by kernel_rfl) (fun _ _ _ h => h) (Or.inl ⟨by rfl, ?_⟩) (by assumption) ?_
  · intro W hSw
    simp only [List.getElem_toArray, List.getElem_cons_succ, List.getElem_cons_zero, execOp, Sem.run_bind, Act.eval, Option.map]
    show (((Instr.sliceAt 22 (.slice (some ⟨ga, 0, none⟩) v2.aN v2.aC) (some (.int .u64 (o.a : Int))) (some (.int .u64 (hi : Int))) none).run Tryz.prog W).andThen _) = _
    rw [HSL.out]
    simp only [Result.andThen_ok, Sem.run_pure]
  try simp only [Act.put, List.setIfInBounds_toArray, List.set_cons_zero, List.set_cons_succ, List.getElem_toArray, List.getElem_cons_zero, List.getElem_cons_succ]
  refine wpAnyH_ready (rs := [14]) (by kernel_rfl) (by simp) ?_
  refine AllReadyH.cons (o := _) rfl (fun KQ hKQ => ?_) AllReadyH.nil
  have hou := HM3.out.own.ar
  rw [HG2.out] at hou
  refine step_clearU rfl (.tmp 67) rfl w0.heap.size ga v2.aN v2.aC h.ar HNN.out.1.symm hou (some ⟨ga, o.a, none⟩) o.a o.r cc rfl (fun _ => rfl) (by have := HAR.out; have := HNN.out; omega) ?_
  intro w9 hou9 hgr
  have HM9 : Hid (MS w0 w9 b v2 (dropO o s h) fs FA fc os (some ⟨bk, oo, none⟩) oc) := by
    have h1 := HM3.out.arena (l := clearL h.ar o.a o.r) HG2.out hgr (clearL_len HAR.out.2.1) (by rw [HG2.out]; exact hou9)
    exact h1
  have nb : some b ≠ some ga := fun e => HM3.out.nb.ar (by rw [HG2.out]; exact e.symm)
  have nq : some q ≠ some ga := fun e => HGQ.out.2 (Option.some.inj e).symm
  refine hKQ.out _ _ ⟨by have h1 := HM9.out.s.st.c0; rwa [HG2.out] at h1, hgr.cell HQ3.out.c2 nq, hgr.cell HQ3.out.c3 nq⟩ (fun hHeld => ?_)
  clear hKQ KQ
  try simp only [Act.put, List.setIfInBounds_toArray, List.set_cons_zero, List.set_cons_succ, List.getElem_toArray, List.getElem_cons_zero, List.getElem_cons_succ]
  refine wpAnyH_done (by kernel_rfl) ?_ _
  have HK9 := Lib.hid (HK3.out.gro hgr (Or.inr rfl))
  clear hou hou9 hgr nb nq
  go_wp2
  go_end0
  exact ⟨rfl, ⟨v2, HM9.out, HG2.out, HG3.out⟩, HK9.out⟩
end Go.Proofs.YtieijfefnedifaaGreatDoor
