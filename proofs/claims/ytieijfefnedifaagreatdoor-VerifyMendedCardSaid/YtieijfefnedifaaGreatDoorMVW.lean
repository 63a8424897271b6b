/- The walk of Mend. -/
import Derived.Test.YtieijfefnedifaaGreatDoorMVSVT
import Derived.Test.YtieijfefnedifaaGreatDoorMVUVV
import Derived.Deep.LoopGhost
namespace Go.Proofs.YtieijfefnedifaaGreatDoor
open Go.RowKit
set_option linter.unusedVariables false
set_option linter.unusedSimpArgs false

inductive Mends : HeapB → HeapB → Nat → Prop
  | done {h : HeapB} : faultsP h = [] → Mends h h 0
  | step {h g : HeapB} {n : Nat} : faultsP h ≠ [] → Mends (mendS h) g n → Mends h g ((faultsP h).length + n)
def muM (h : HeapB) : Nat := if faultsP h = [] then 0 else if headF h = [] then 1 else 2 + (cands h.sp).length
theorem muM_lt {h : HeapB} (hg : GeoP h) (hw : WfH h) (hf : faultsP h ≠ []) : muM (mendS h) < muM h := by
  unfold muM
  rw [if_neg hf]
  by_cases hh : headF h = []
  · rw [if_pos hh, if_pos (mendS_right hg hw hh)]
    omega
  · rw [if_neg hh]
    have := mendS_fewer hg hw hh
    split
    · omega
    · split <;> omega
theorem faults_len {h : HeapB} (hg : GeoP h) : (faultsP h).length ≤ 200000 := by
  rw [geo_faults hg]
  unfold restF
  simp only [List.length_append]
  have h1 := pageF_len h
  have h2 := headF_len hg
  have h3 := refF_len hg
  have h4 := dirtTo_len h.ar (vobjs h) h.ar.length
  have h5 := (okB_parts hg.2.1)
  have h6 := hg.1
  unfold dirtF
  omega
theorem worst_geo {h : HeapB} (hg : GeoP h) : worstP (faultsP h) ≠ 1 ∧ worstP (faultsP h) ≠ 2 := by
  have hk := geo_fok hg
  rcases hf : faultsP h with _ | ⟨f, t⟩
  · exact ⟨by simp [worstP], by simp [worstP]⟩
  · rw [hf] at hk
    have := hk f (List.mem_cons_self ..)
    show f.k ≠ 1 ∧ f.k ≠ 2
    rcases this with ⟨h1, _⟩ | ⟨h1, _⟩ | ⟨h1, _⟩ | ⟨h1, _⟩ <;> omega
theorem spSt_kind {N : Int} {l : List SpanB} : ∀ i, ∀ f ∈ (spSt N l i).2, f.k = 2 ∧ f.a < i := by
  intro i
  induction i with
  | zero => intro f hf; simp [spSt] at hf
  | succ i ih =>
    intro f hf
    rw [spSt] at hf
    split at hf
    · rcases List.mem_append.1 hf with hf | hf
      · have := ih f hf; omega
      · unfold spNew at hf
        split at hf
        · simp only at hf
          split at hf
          · simp at hf; subst hf; exact ⟨rfl, by show i < i + 1; omega⟩
          · simp at hf
        · simp at hf; subst hf; exact ⟨rfl, by show i < i + 1; omega⟩
    · have := ih f hf; omega
theorem spanF_kind {h : HeapB} : ∀ f ∈ spanF h, f.k = 2 := by
  intro f hf
  unfold spanF spansF at hf
  split at hf
  · exact (spSt_kind _ f hf).1
  · rcases List.mem_append.1 hf with hf | hf
    · exact (spSt_kind _ f hf).1
    · simp at hf; subst hf; rfl
theorem worst_bad {h : HeapB} (hg : ¬ GeoP h) : worstP (faultsP h) = 1 ∨ worstP (faultsP h) = 2 := by
  rw [geo_iff] at hg
  unfold faultsP
  by_cases hf : frameOk h = true
  · rw [if_pos hf]
    by_cases hs : spanF h = []
    · exact absurd ⟨hf, hs⟩ hg
    · rw [if_neg hs]
      right
      rcases he : spanF h with _ | ⟨f, t⟩
      · exact absurd he hs
      · exact spanF_kind f (by rw [he]; exact List.mem_cons_self ..)
  · rw [if_neg hf]
    left
    rfl
/-! ### Memory -/
structure VarH (W : World) (p : Nat) (v : HeapV) : Prop where
  c0 : W.cell? ⟨p, 0, none⟩ = some (.slice v.aA v.aN v.aC)
  c1 : W.cell? ⟨p, 1, none⟩ = some (.int .i64 v.us.n)
  c2 : W.cell? ⟨p, 2, none⟩ = some (.slice v.us.A v.us.m v.us.c)
  c3 : W.cell? ⟨p, 3, none⟩ = some (.slice v.sA v.sN v.sC)
  fr : ∀ j, W.frozen? ⟨p, j, none⟩ = false
theorem VarH.lt {w : World} {p : Nat} {v : HeapV} (h : VarH w p v) : p < w.heap.size := World.block_lt_of_cell? _ _ h.c0
theorem VarH.at_ {w w1 : World} {p : Nat} {v : HeapV} (h : VarH w p v) (e : w1.heap[p]? = w.heap[p]?) : VarH w1 p v := by
  have c : ∀ o, w1.cell? ⟨p, o, none⟩ = w.cell? ⟨p, o, none⟩ := fun o => World.cell?_of_block (w := w) e
  refine ⟨(c 0).trans h.c0, (c 1).trans h.c1, (c 2).trans h.c2, (c 3).trans h.c3, fun j => ?_⟩
  have hf := h.fr j
  unfold World.frozen? at hf ⊢
  simp only at hf ⊢
  rw [e]
  exact hf
theorem VarH.below {w w1 : World} {p B : Nat} {v : HeapV} (h : VarH w p v) (hb : Below B w w1) (hp : p < B) : VarH w1 p v := h.at_ (hb.block p hp)
theorem VarH.made (w : World) (v : HeapV) : VarH (w.alloc (.cells #[.slice v.aA v.aN v.aC, .int .i64 v.us.n, .slice v.us.A v.us.m v.us.c, .slice v.sA v.sN v.sC] 31)) w.heap.size v := by
  constructor
  case fr => intro j; go_simp
  all_goals (show _ = _; go_simp)
theorem VarH.put {w : World} {p : Nat} {v : HeapV} (h : VarH w p v) (v' : HeapV) : VarH ((((w.setCell ⟨p, 0, none⟩ (.slice v'.aA v'.aN v'.aC)).setCell ⟨p, 1, none⟩ (.int .i64 v'.us.n)).setCell ⟨p, 2, none⟩ (.slice v'.us.A v'.us.m v'.us.c)).setCell ⟨p, 3, none⟩ (.slice v'.sA v'.sN v'.sC)) p v' := by
  obtain ⟨-, k0, k1, k2, k3⟩ := set4 (b0 := .slice v'.aA v'.aN v'.aC) (b1 := .int .i64 v'.us.n) (b2 := .slice v'.us.A v'.us.m v'.us.c) (b3 := .slice v'.sA v'.sN v'.sC) h.c0 h.c1 h.c2 h.c3
  exact ⟨k0, k1, k2, k3, fun j => by rw [World.frozen?_setCell, World.frozen?_setCell, World.frozen?_setCell, World.frozen?_setCell]; exact h.fr j⟩
theorem VarH.far {w : World} {p q : Nat} {v : HeapV} (h : VarH w q v) (hne : q ≠ p) (b0 b1 b2 b3 : Value) : VarH ((((w.setCell ⟨p, 0, none⟩ b0).setCell ⟨p, 1, none⟩ b1).setCell ⟨p, 2, none⟩ b2).setCell ⟨p, 3, none⟩ b3) q v := by
  have f : ∀ o, ((((w.setCell ⟨p, 0, none⟩ b0).setCell ⟨p, 1, none⟩ b1).setCell ⟨p, 2, none⟩ b2).setCell ⟨p, 3, none⟩ b3).cell? ⟨q, o, none⟩ = w.cell? ⟨q, o, none⟩ := fun o => by
    rw [World.cell?_setCell_far _ _ _ _ (by simp; omega), World.cell?_setCell_far _ _ _ _ (by simp; omega), World.cell?_setCell_far _ _ _ _ (by simp; omega), World.cell?_setCell_far _ _ _ _ (by simp; omega)]
  exact ⟨(f 0).trans h.c0, (f 1).trans h.c1, (f 2).trans h.c2, (f 3).trans h.c3, fun j => by rw [World.frozen?_setCell, World.frozen?_setCell, World.frozen?_setCell, World.frozen?_setCell]; exact h.fr j⟩
/-- A world of a world's first blocks alone. -/
def trunc (w : World) (B : Nat) : World := { w with heap := w.heap.extract 0 B }
theorem trunc_size {w : World} {B : Nat} (h : B ≤ w.heap.size) : (trunc w B).heap.size = B := by
  unfold trunc
  simp
  omega
theorem trunc_below {w : World} {B : Nat} (h : B ≤ w.heap.size) : Below B (trunc w B) w := by
  refine ⟨rfl, rfl, rfl, by rw [trunc_size h]; exact h, fun k hk => ?_⟩
  unfold trunc
  simp [Array.getElem?_extract, hk]
  omega
theorem Sgt.down {W w1 : World} {b fc oc : Nat} {v : HeapV} {fs : List Flt} {FA OA : Option Addr} {os : List VObj} (s : Sgt W w1 b v fs FA fc os OA oc) {B : Nat} (hB : B ≤ W.heap.size) : Sgt (trunc W B) w1 b v fs FA fc os OA oc := by
  refine ⟨s.st, s.fo, s.oo, s.fr, ?_, s.lt, by rw [trunc_size hB]; exact Nat.le_trans hB s.hb⟩
  rw [trunc_size hB]
  exact (trunc_below hB).trans (s.lo.mono hB)
structure MeS (w wr : World) (base p1 p2 : Nat) (h hc : HeapB) (vc : HeapV) (n : Nat) : Prop where
  v1 : VarH wr p1 vc
  v2 : VarH wr p2 ⟨none, 0, 0, ⟨0, none, 0, 0⟩, none, 0, 0, []⟩
  own : OwnH wr base vc hc
  bz : base ≤ wr.heap.size
  geo : GeoP hc
  wf : WfH hc
  mm : ∀ g m, Mends hc g m → Mends h g (n + m)
  bd : n + muM hc * 200000 ≤ muM h * 200000
  be : Below w.heap.size w wr
structure MeP (w : World) (base p1 p2 : Nat) : Prop where
  l1 : p1 < base
  l2 : p2 < base
  ne : p2 ≠ p1
  h1 : w.heap.size ≤ p1
  h2 : w.heap.size ≤ p2
def RetM (h : HeapB) (w : World) (e : Ending) (w' : World) : Prop := ∃ (v' : HeapV) (g : HeapB) (n : Nat), e = .returned (.tuple #[v'.v, .int .i64 (n : Int), .int .i64 0]) ∧ Mends h g n ∧ OwnH w' w.heap.size v' g ∧ WfH g ∧ Below w.heap.size w w'
theorem muM_le {h : HeapB} (hg : GeoP h) : muM h ≤ 2050 := by
  have h1 := candTo_few hg.2.2.1 h.sp.length (Nat.le_refl _)
  have h2 := okL_len hg.2.2.1
  unfold muM cands
  split
  · omega
  · split <;> omega
set_option maxRecDepth 100000 in
set_option maxHeartbeats 8000000 in
theorem mendBad (v : HeapV) (h : HeapB) (w : World) (hr : RdH w v h) (hg : ¬ GeoP h) : Calls Tryz.prog 11 #[v.v] w (Ret (.tuple #[.agg #[.slice none 0 0, .int .i64 0, .slice none 0 0, .slice none 0 0], .int .i64 0, .int .i64 2]) w) := by
  have hba := balloc (balloc (Below.refl w.heap.size w) (.cells #[.slice v.aA v.aN v.aC, .int .i64 v.us.n, .slice v.us.A v.us.m v.us.c, .slice v.sA v.sN v.sC] 31)) (.cells #[.slice none 0 0, .int .i64 0, .slice none 0 0, .slice none 0 0] 31)
  have CW := Lib.hid (worst10 v h _ (hr.below hba))
  have HBA := Lib.hid hba
  have HV1 : Hid (VarH ((w.alloc (.cells #[.slice v.aA v.aN v.aC, .int .i64 v.us.n, .slice v.us.A v.us.m v.us.c, .slice v.sA v.sN v.sC] 31)).alloc (.cells #[.slice none 0 0, .int .i64 0, .slice none 0 0, .slice none 0 0] 31)) w.heap.size v) :=
    (VarH.made w v).below (balloc (Below.refl _ _) _) (by simp)
  have HV2 : Hid (VarH ((w.alloc (.cells #[.slice v.aA v.aN v.aC, .int .i64 v.us.n, .slice v.us.A v.us.m v.us.c, .slice v.sA v.sN v.sC] 31)).alloc (.cells #[.slice none 0 0, .int .i64 0, .slice none 0 0, .slice none 0 0] 31)) (w.heap.size + 1) ⟨none, 0, 0, ⟨0, none, 0, 0⟩, none, 0, 0, []⟩) := by
    have h1 := VarH.made (w.alloc (.cells #[.slice v.aA v.aN v.aC, .int .i64 v.us.n, .slice v.us.A v.us.m v.us.c, .slice v.sA v.sN v.sC] 31)) ⟨none, 0, 0, ⟨0, none, 0, 0⟩, none, 0, 0, []⟩
    have hz : (w.alloc (.cells #[.slice v.aA v.aN v.aC, .int .i64 v.us.n, .slice v.us.A v.us.m v.us.c, .slice v.sA v.sN v.sC] 31)).heap.size = w.heap.size + 1 := by simp
    rw [hz] at h1
    exact h1
  have hw := worst_bad hg
  unfold HeapV.v at CW ⊢
  generalize worstP (faultsP h) = z at *
  clear hr hba hg
  rcases hw with rfl | rfl
  all_goals
    go_enter Tryz.func11, Tryz.ntmps11
    go_wp2_with (go_at_call 10; refine CW.out.mono ?_)
    rintro e w1 ⟨rfl, hb1⟩
    have HB1 := Lib.hid (bthen HBA.out hb1)
    have HV3 := Lib.hid (HV2.out.below hb1 HV2.out.lt)
    clear hb1 CW HV2 HV1
    obtain ⟨t0, t1, t2, t3, tf⟩ := HV3.out
    have tl := HV3.out.lt
    obtain ⟨k4, k0, k1, k2, k3⟩ := set4 (b0 := .slice none 0 0) (b1 := .int .i64 0) (b2 := .slice none 0 0) (b3 := .slice none 0 0) t0 t1 t2 t3
    have K0 := Lib.hid k0
    have K1 := Lib.hid k1
    have K2 := Lib.hid k2
    have K3 := Lib.hid k3
    clear k0 k1 k2 k3 k4
    simp only at t0 t1 t2 t3
    go_wp2
    clear t0 t1 t2 t3 tf
    have k0 := K0.out
    have k1 := K1.out
    have k2 := K2.out
    have k3 := K3.out
    refine bodyPost_ret (v := .tuple #[.agg #[.slice none 0 0, .int .i64 0, .slice none 0 0, .slice none 0 0], .int .i64 0, .int .i64 2]) (by simp [results, Tryz.results11, go_sem, k0, k1, k2, k3]) rfl ?_
    refine ⟨rfl, ?_⟩
    repeat (refine Below.setCell ?_ (by simp) _)
    exact HB1.out
set_option maxRecDepth 100000 in
set_option maxHeartbeats 16000000 in
theorem mendOk (v : HeapV) (h : HeapB) (w : World) (hr : RdH w v h) (hg : GeoP h) : Calls Tryz.prog 11 #[v.v] w (RetM h w) := by
  have hba := balloc (balloc (Below.refl w.heap.size w) (.cells #[.slice v.aA v.aN v.aC, .int .i64 v.us.n, .slice v.us.A v.us.m v.us.c, .slice v.sA v.sN v.sC] 31)) (.cells #[.slice none 0 0, .int .i64 0, .slice none 0 0, .slice none 0 0] 31)
  have CW := Lib.hid (worst10 v h _ (hr.below hba))
  have HBA := Lib.hid hba
  have HV1 : Hid (VarH ((w.alloc (.cells #[.slice v.aA v.aN v.aC, .int .i64 v.us.n, .slice v.us.A v.us.m v.us.c, .slice v.sA v.sN v.sC] 31)).alloc (.cells #[.slice none 0 0, .int .i64 0, .slice none 0 0, .slice none 0 0] 31)) w.heap.size v) :=
    (VarH.made w v).below (balloc (Below.refl _ _) _) (by simp)
  have HV2 : Hid (VarH ((w.alloc (.cells #[.slice v.aA v.aN v.aC, .int .i64 v.us.n, .slice v.us.A v.us.m v.us.c, .slice v.sA v.sN v.sC] 31)).alloc (.cells #[.slice none 0 0, .int .i64 0, .slice none 0 0, .slice none 0 0] 31)) (w.heap.size + 1) ⟨none, 0, 0, ⟨0, none, 0, 0⟩, none, 0, 0, []⟩) := by
    have h1 := VarH.made (w.alloc (.cells #[.slice v.aA v.aN v.aC, .int .i64 v.us.n, .slice v.us.A v.us.m v.us.c, .slice v.sA v.sN v.sC] 31)) ⟨none, 0, 0, ⟨0, none, 0, 0⟩, none, 0, 0, []⟩
    have hz : (w.alloc (.cells #[.slice v.aA v.aN v.aC, .int .i64 v.us.n, .slice v.us.A v.us.m v.us.c, .slice v.sA v.sN v.sC] 31)).heap.size = w.heap.size + 1 := by simp
    rw [hz] at h1
    exact h1
  have hw := worst_geo hg
  have HR := Lib.hid hr
  have HG := Lib.hid hg
  have HWF := Lib.hid hr.wf
  have HSM : Hid (smallH h) := by
    have h1 := okB_parts hg.2.1
    have h2 := hg.1
    exact ⟨by omega, by omega, okL_small hg.2.2.1⟩
  have hd1 : ((worstP (faultsP h) : Int) == 1) = false := by rw [beq_eq_false_iff_ne]; omega
  have hd2 : ((worstP (faultsP h) : Int) == 2) = false := by rw [beq_eq_false_iff_ne]; omega
  unfold HeapV.v at CW ⊢
  generalize worstP (faultsP h) = z at *
  clear hr hba hg hw
  go_enter Tryz.func11, Tryz.ntmps11
  go_wp2_with (go_at_call 10; refine CW.out.mono ?_)
  rintro e w1 ⟨rfl, hb1⟩
  have HB1 := Lib.hid (bthen HBA.out hb1)
  have HV13 := Lib.hid (HV1.out.below hb1 HV1.out.lt)
  have HV23 := Lib.hid (HV2.out.below hb1 HV2.out.lt)
  have HP : Hid (MeP w w1.heap.size w.heap.size (w.heap.size + 1)) := ⟨HV13.out.lt, HV23.out.lt, by omega, Nat.le_refl _, by omega⟩
  clear hb1 CW HV2 HV1 HBA
  obtain ⟨t0, t1, t2, t3, tf⟩ := HV13.out
  clear tf
  have CO := Lib.hid (hown19 v h w1 (HR.out.below HB1.out) HSM.out)
  unfold HeapV.v at CO
  go_wp2_with (go_at_call 19; refine CO.out.mono ?_)
  rintro e w2 ⟨v2, rfl, ho2, hb2⟩
  unfold HeapV.v
  clear t0 t1 t2 t3 CO
  have HV14 := Lib.hid (HV13.out.below hb2 HV13.out.lt)
  have HV24 := Lib.hid (HV23.out.below hb2 HV23.out.lt)
  obtain ⟨t0, t1, t2, t3, tf⟩ := HV14.out
  have tl := HV14.out.lt
  have HS0 : Hid (MeS w ((((w2.setCell ⟨w.heap.size, 0, none⟩ (.slice v2.aA v2.aN v2.aC)).setCell ⟨w.heap.size, 1, none⟩ (.int .i64 v2.us.n)).setCell ⟨w.heap.size, 2, none⟩ (.slice v2.us.A v2.us.m v2.us.c)).setCell ⟨w.heap.size, 3, none⟩ (.slice v2.sA v2.sN v2.sC)) w1.heap.size w.heap.size (w.heap.size + 1) h h v2 0) := by
    refine ⟨HV14.out.put v2, HV24.out.far (by omega) _ _ _ _, ?_, ?_, HG.out, HWF.out, fun g m hm => by rw [Nat.zero_add]; exact hm, by omega, ?_⟩
    · have hl := HP.out.l1
      repeat (refine OwnH.set_lo ?_ (by simpa using hl) _)
      exact ho2
    · have := hb2.size
      simp
      exact this
    · repeat (refine Below.setCell ?_ (by simp) _)
      exact bthen HB1.out hb2
  clear ho2 hb2 HV13 HV23 HV14 HV24 HSM HR
  go_upto_region 5 with fail
  clear t0 t1 t2 t3 tf tl hd1 hd2
  generalize (((w2.setCell ⟨w.heap.size, 0, none⟩ (.slice v2.aA v2.aN v2.aC)).setCell ⟨w.heap.size, 1, none⟩ (.int .i64 v2.us.n)).setCell ⟨w.heap.size, 2, none⟩ (.slice v2.us.A v2.us.m v2.us.c)).setCell ⟨w.heap.size, 3, none⟩ (.slice v2.sA v2.sN v2.sC) = W3 at *
  generalize w1.heap.size = base at *
  have HPP : Hid (w.heap.size = w.heap.size) := rfl
  obtain ⟨p1, hp1⟩ : ∃ p1, p1 = w.heap.size := ⟨_, rfl⟩
  have HQ1 := Lib.hid hp1
  rw [← hp1]
  have HP : Hid (MeP w base p1 (p1 + 1)) := by rw [hp1]; exact HP.out
  have HS0 : Hid (MeS w W3 base p1 (p1 + 1) h h v2 0) := by rw [hp1]; exact HS0.out
  clear hp1 HPP
  go_wp2
  obtain ⟨wo, hwo⟩ : ∃ wo : World, wo = W3 := ⟨_, rfl⟩
  go_loopg [6] (muM h) (fun gk i wr => ∃ (hc : HeapB) (vc : HeapV) (n : Nat), gk = muM hc ∧ i = .int .i64 n ∧ Hid (MeS w wr base p1 (p1 + 1) h hc vc n))
  case atStart => exact ⟨h, v2, 0, rfl, rfl, HS0.out⟩
  case round =>
    obtain ⟨hc, vc, n, hgk, rfl, HS⟩ := hrel
    clear HS0 hwo
    have HGK := Lib.hid hgk
    have hnb : n ≤ 500000000 := by have h1 := HS.out.bd; have h2 := muM_le HG.out; omega
    obtain ⟨t0, t1, t2, t3, tf⟩ := HS.out.v1
    clear tf hgk
    have CL := Lib.hid (look17 vc hc wr (HS.out.own.rd HS.out.wf))
    unfold HeapV.v at CL
    go_wp2_with (go_at_call 17; refine CL.out.mono ?_)
    rintro e w3 ⟨b, FA, fc, OA, oc, rfl, hs⟩
    have HSG := Lib.hid hs
    have HV3 := Lib.hid (HS.out.v1.below hs.lo HS.out.v1.lt)
    have HV4 := Lib.hid (HS.out.v2.below hs.lo HS.out.v2.lt)
    obtain ⟨fs, hfs⟩ : ∃ fs, fs = faultsP hc := ⟨_, rfl⟩
    have HFS := Lib.hid hfs
    rw [← hfs] at HSG
    have s4 := HSG.out.st.c4
    clear hs CL t0 t1 t2 t3 hfs
    by_cases hfe : fs = []
    · have HE : Hid (faultsP hc = []) := by rw [← HFS.out]; exact hfe
      subst hfe
      simp only [List.length_nil] at s4
      obtain ⟨t0, t1, t2, t3, tf⟩ := HV3.out
      obtain ⟨r0, r1, r2, r3, rf⟩ := HV4.out
      have rl := HV4.out.lt
      obtain ⟨k4, k0, k1, k2, k3⟩ := set4 (b0 := .slice vc.aA vc.aN vc.aC) (b1 := .int .i64 vc.us.n) (b2 := .slice vc.us.A vc.us.m vc.us.c) (b3 := .slice vc.sA vc.sN vc.sC) r0 r1 r2 r3
      have K0 := Lib.hid k0
      have K1 := Lib.hid k1
      have K2 := Lib.hid k2
      have K3 := Lib.hid k3
      clear k0 k1 k2 k3 k4
      simp only at r0 r1 r2 r3
      go_wp2
      clear r0 r1 r2 r3 rf t0 t1 t2 t3 tf s4
      have k0 := K0.out
      have k1 := K1.out
      have k2 := K2.out
      have k3 := K3.out
      refine bodyPost_ret (v := .tuple #[.agg #[.slice vc.aA vc.aN vc.aC, .int .i64 vc.us.n, .slice vc.us.A vc.us.m vc.us.c, .slice vc.sA vc.sN vc.sC], .int .i64 (n : Int), .int .i64 0]) (by simp [results, Tryz.results11, go_sem, k0, k1, k2, k3]) rfl ?_
      have hl2 := HP.out.l2
      have hw1 := HP.out.h1
      have hw2 := HP.out.h2
      have hm := HS.out.mm hc 0 (Mends.done HE.out)
      rw [Nat.add_zero] at hm
      refine ⟨vc, hc, n, rfl, hm, ?_, HS.out.wf, ?_⟩
      · refine OwnH.mono (base := base) ?_ (by have := HP.out.l1; omega)
        repeat (refine OwnH.set_lo ?_ (by simpa using hl2) _)
        exact HS.out.own.below HSG.out.lo
      · repeat (refine Below.setCell ?_ (by simpa using hw2) _)
        exact bthen HS.out.be HSG.out.lo
    · have hfn : 0 < fs.length := by
        rcases fs with _ | ⟨f, t⟩
        · exact absurd rfl hfe
        · simp
      have HFE : Hid (faultsP hc ≠ []) := by rw [← HFS.out]; exact hfe
      have HFL : Hid (fs.length ≤ 200000) := by rw [HFS.out]; exact faults_len HS.out.geo
      have HFO : Hid (founds hc = vobjs hc) := by show _ = _; unfold founds; rw [if_pos (geo_iff.1 HS.out.geo)]
      have hd : ((fs.length : Int) == 0) = false := by rw [beq_eq_false_iff_ne]; omega
      have HLT := Lib.hid (muM_lt HS.out.geo HS.out.wf HFE.out)
      have HMS : Hid (MS (trunc wr base) w3 b vc hc fs FA fc (vobjs hc) OA oc) := by
        have s1 := HSG.out.down HS.out.bz
        rw [HFO.out] at s1
        refine ⟨s1, ?_, HS.out.own.rowsNe HSG.out.hb⟩
        rw [trunc_size HS.out.bz]
        exact HS.out.own.below HSG.out.lo
      have HSG2 : Hid (Sgt wr w3 b vc fs FA fc (vobjs hc) OA oc) := by rw [← HFO.out]; exact HSG.out
      have hfq := fitQ_of HS.out.geo
      have CM := Lib.hid (mend20 (trunc wr base) w3 wr b fc oc vc hc fs FA OA (vobjs hc) HMS.out HSG2.out (HS.out.own.rd HS.out.wf) (geo_mi HS.out.geo HS.out.wf) (by rw [HFS.out]; exact geo_fok HS.out.geo) (geo_ob HS.out.geo).1 (by have := hfq.few; omega) HS.out.geo.1 (by have h1 := HS.out.geo.2.2.2.1; have h2 := HS.out.geo.2.2.2.2.1; omega) (by have := HFL.out; omega))
      clear hfe hfq
      go_wp2_with (go_at_call 20; refine CM.out.mono ?_)
      rintro e w4 ⟨rfl, v', hm⟩
      have HM4 : Hid (MS (trunc wr base) w4 b v' (mendS hc) fs FA fc (vobjs hc) OA oc) := by
        rw [show mendS hc = fs.foldl (mendF (wantTo (want0 hc.us.n) hc.sp) (vobjs hc)) hc from by rw [HFS.out]; rfl]
        exact hm
      clear hm CM HMS HSG2 s4 hd
      have HB4 : Hid (Below base wr w4) := by
        have h1 := HM4.out.s.lo
        rw [trunc_size HS.out.bz] at h1
        exact ⟨h1.os, h1.tape, h1.output, by have := HSG.out.hb; have := HM4.out.s.lt; omega, fun k hk => (h1.block k hk).trans ((trunc_below HS.out.bz).block k hk).symm⟩
      have HPB : Hid (p1 ≠ b ∧ p1 + 1 ≠ b) := by
        have h1 := HSG.out.hb
        have h2 := HP.out.l1
        have h3 := HP.out.l2
        have h4 := HS.out.bz
        exact ⟨by omega, by omega⟩
      have HO4 : Hid (OwnH w4 base v' (mendS hc)) := by
        have h1 := HM4.out.own
        rwa [trunc_size HS.out.bz] at h1
      have HVA := Lib.hid ((HS.out.v1.at_ (HB4.out.block p1 HP.out.l1)).below (Below.refl w4.heap.size w4).drew (by have := HB4.out.size; have := HS.out.v1.lt; omega))
      have HVB := Lib.hid ((HS.out.v2.at_ (HB4.out.block (p1 + 1) HP.out.l2)).below (Below.refl w4.heap.size w4).drew (by have := HB4.out.size; have := HS.out.v2.lt; omega))
      have HSS := Lib.hid (HM4.out.s.later (Below.refl w4.heap.size w4).drew)
      have HOD := Lib.hid (HO4.out.below (Below.refl w4.heap.size w4).drew)
      have HBD := Lib.hid (HB4.out.drew)
      have hw1 : IntKind.i64.wrap ((n : Int) + (fs.length : Int)) = (n : Int) + (fs.length : Int) := wrap_in (x := (n : Int) + (fs.length : Int)) (by have := HFL.out; omega)
      clear HM4 HB4 HO4 HV3 HV4
      go_upto_region 10 with fail
      refine wp_region_held_drew (S := fun W => W.cell? ⟨b, 0, none⟩ = some (.slice v'.aA v'.aN v'.aC) ∧ W.cell? ⟨b, 1, none⟩ = some (.int .i64 v'.us.n) ∧ W.cell? ⟨b, 2, none⟩ = some (.slice v'.us.A v'.us.m v'.us.c) ∧ W.cell? ⟨b, 3, none⟩ = some (.slice v'.sA v'.sN v'.sC) ∧ W.cell? ⟨b, 4, none⟩ = some (.slice FA fs.length fc)) (by kernel_rfl) ⟨HSS.out.st.c0, HSS.out.st.c1, HSS.out.st.c2, HSS.out.st.c3, HSS.out.st.c4⟩ (fun hHeld => ?_)
      generalize w4.drew = w6 at *
      refine wpAnyH_take (i := 0) (oi := _) (v := ?_) rfl (by kernel_rfl) (by kernel_rfl) (by kernel_rfl) (fun _ _ _ h => h) (Or.inl ⟨by rfl, ?_⟩) (by assumption) ?_
      rotate_left
      · intro w hSw
        try dsimp only at hSw
        obtain ⟨t0, t1, t2, t3, t4⟩ := hSw
        go_simp
        all_goals with_reducible rfl
      try simp only [Act.put, List.setIfInBounds_toArray, List.set_cons_zero, List.set_cons_succ, List.getElem_toArray, List.getElem_cons_zero, List.getElem_cons_succ]
      refine wpAnyH_take (i := 1) (oi := _) (v := ?_) rfl (by kernel_rfl) (by kernel_rfl) (by kernel_rfl) (fun _ _ _ h => h) (Or.inl ⟨by rfl, ?_⟩) (by assumption) ?_
      rotate_left
      · intro w hSw
        try dsimp only at hSw
        obtain ⟨t0, t1, t2, t3, t4⟩ := hSw
        go_simp
        all_goals with_reducible rfl
      try simp only [Act.put, List.setIfInBounds_toArray, List.set_cons_zero, List.set_cons_succ, List.getElem_toArray, List.getElem_cons_zero, List.getElem_cons_succ]
      refine wpAnyH_take (i := 2) (oi := _) (v := ?_) rfl (by kernel_rfl) (by kernel_rfl) (by kernel_rfl) (fun _ _ _ h => h) (Or.inl ⟨by rfl, ?_⟩) (by assumption) ?_
      rotate_left
      · intro w hSw
        try dsimp only at hSw
        obtain ⟨t0, t1, t2, t3, t4⟩ := hSw
        go_simp
        all_goals with_reducible rfl
      try simp only [Act.put, List.setIfInBounds_toArray, List.set_cons_zero, List.set_cons_succ, List.getElem_toArray, List.getElem_cons_zero, List.getElem_cons_succ]
      refine wpAnyH_take (i := 3) (oi := _) (v := ?_) rfl (by kernel_rfl) (by kernel_rfl) (by kernel_rfl) (fun _ _ _ h => h) (Or.inl ⟨by rfl, ?_⟩) (by assumption) ?_
      rotate_left
      · intro w hSw
        try dsimp only at hSw
        obtain ⟨t0, t1, t2, t3, t4⟩ := hSw
        go_simp
        all_goals with_reducible rfl
      try simp only [Act.put, List.setIfInBounds_toArray, List.set_cons_zero, List.set_cons_succ, List.getElem_toArray, List.getElem_cons_zero, List.getElem_cons_succ]
      refine wpAnyH_take (i := 4) (oi := _) (v := ?_) rfl (by kernel_rfl) (by kernel_rfl) (by kernel_rfl) (fun _ _ _ h => h) (Or.inl ⟨by rfl, ?_⟩) (by assumption) ?_
      rotate_left
      · intro w hSw
        try dsimp only at hSw
        obtain ⟨t0, t1, t2, t3, t4⟩ := hSw
        go_simp
        all_goals with_reducible rfl
      try simp only [Act.put, List.setIfInBounds_toArray, List.set_cons_zero, List.set_cons_succ, List.getElem_toArray, List.getElem_cons_zero, List.getElem_cons_succ]
      refine wpAnyH_take (i := 5) (oi := _) (v := ?_) rfl (by kernel_rfl) (by kernel_rfl) (by kernel_rfl) (fun _ _ _ h => h) (Or.inl ⟨by rfl, ?_⟩) (by assumption) ?_
      rotate_left
      · intro w hSw
        try dsimp only at hSw
        obtain ⟨t0, t1, t2, t3, t4⟩ := hSw
        go_simp
        all_goals with_reducible rfl
      try simp only [Act.put, List.setIfInBounds_toArray, List.set_cons_zero, List.set_cons_succ, List.getElem_toArray, List.getElem_cons_zero, List.getElem_cons_succ]
      refine wpAnyH_take (i := 6) (oi := _) (v := ?_) rfl (by kernel_rfl) (by kernel_rfl) (by kernel_rfl) (fun _ _ _ h => h) (Or.inl ⟨by rfl, ?_⟩) (by assumption) ?_
      rotate_left
      · intro w hSw
        try dsimp only at hSw
        obtain ⟨t0, t1, t2, t3, t4⟩ := hSw
        go_simp
        all_goals with_reducible rfl
      try simp only [Act.put, List.setIfInBounds_toArray, List.set_cons_zero, List.set_cons_succ, List.getElem_toArray, List.getElem_cons_zero, List.getElem_cons_succ]
      refine wpAnyH_take (i := 7) (oi := _) (v := ?_) rfl (by kernel_rfl) (by kernel_rfl) (by kernel_rfl) (fun _ _ _ h => h) (Or.inl ⟨by rfl, ?_⟩) (by assumption) ?_
      rotate_left
      · intro w hSw
        try dsimp only at hSw
        obtain ⟨t0, t1, t2, t3, t4⟩ := hSw
        go_simp
        all_goals with_reducible rfl
      try simp only [Act.put, List.setIfInBounds_toArray, List.set_cons_zero, List.set_cons_succ, List.getElem_toArray, List.getElem_cons_zero, List.getElem_cons_succ]
      refine wpAnyH_take (i := 8) (oi := _) (v := ?_) rfl (by kernel_rfl) (by kernel_rfl) (by kernel_rfl) (fun _ _ _ h => h) (Or.inl ⟨by rfl, ?_⟩) (by assumption) ?_
      rotate_left
      · intro w hSw
        try dsimp only at hSw
        obtain ⟨t0, t1, t2, t3, t4⟩ := hSw
        go_simp
        all_goals with_reducible rfl
      try simp only [Act.put, List.setIfInBounds_toArray, List.set_cons_zero, List.set_cons_succ, List.getElem_toArray, List.getElem_cons_zero, List.getElem_cons_succ]
      refine wpAnyH_take (i := 9) (oi := _) (v := ?_) rfl (by kernel_rfl) (by kernel_rfl) (by kernel_rfl) (fun _ _ _ h => h) (Or.inl ⟨by rfl, ?_⟩) (by assumption) ?_
      rotate_left
      · intro w hSw
        try dsimp only at hSw
        obtain ⟨t0, t1, t2, t3, t4⟩ := hSw
        go_simp
        all_goals with_reducible rfl
      try simp only [Act.put, List.setIfInBounds_toArray, List.set_cons_zero, List.set_cons_succ, List.getElem_toArray, List.getElem_cons_zero, List.getElem_cons_succ]
      refine wpAnyH_take (i := 10) (oi := _) (v := ?_) rfl (by kernel_rfl) (by kernel_rfl) (by kernel_rfl) (fun _ _ _ h => h) (Or.inl ⟨by rfl, ?_⟩) (by assumption) ?_
      rotate_left
      · intro w hSw
        try dsimp only at hSw
        obtain ⟨t0, t1, t2, t3, t4⟩ := hSw
        go_simp
        all_goals with_reducible rfl
      try simp only [Act.put, List.setIfInBounds_toArray, List.set_cons_zero, List.set_cons_succ, List.getElem_toArray, List.getElem_cons_zero, List.getElem_cons_succ]
      obtain ⟨a0, a1, a2, a3, af⟩ := HVA.out
      have al := HVA.out.lt
      have hpb := HPB.out.1
      have far : ∀ o, ((((w6.setCell ⟨p1, 0, none⟩ (.slice v'.aA v'.aN v'.aC)).setCell ⟨p1, 1, none⟩ (.int .i64 v'.us.n)).setCell ⟨p1, 2, none⟩ (.slice v'.us.A v'.us.m v'.us.c)).setCell ⟨p1, 3, none⟩ (.slice v'.sA v'.sN v'.sC)).cell? ⟨b, o, none⟩ = w6.cell? ⟨b, o, none⟩ := fun o => by
        rw [World.cell?_setCell_far _ _ _ _ (by simp; omega), World.cell?_setCell_far _ _ _ _ (by simp; omega), World.cell?_setCell_far _ _ _ _ (by simp; omega), World.cell?_setCell_far _ _ _ _ (by simp; omega)]
      have HFR := Lib.hid far
      clear far
      refine wpAnyH_ready (rs := [11]) (by kernel_rfl) (by simp) ?_
      refine AllReadyH.cons (o := _) rfl (fun KQ hKQ => ?_) AllReadyH.nil
      go_simp
      refine hKQ.out _ _ ⟨(HFR.out 0).trans HSS.out.st.c0, (HFR.out 1).trans HSS.out.st.c1, (HFR.out 2).trans HSS.out.st.c2, (HFR.out 3).trans HSS.out.st.c3, (HFR.out 4).trans HSS.out.st.c4⟩ (fun hHeld => ?_)
      clear hKQ KQ
      try simp only [Act.put, List.setIfInBounds_toArray, List.set_cons_zero, List.set_cons_succ, List.getElem_toArray, List.getElem_cons_zero, List.getElem_cons_succ]
      refine wpAnyH_take (i := 12) (oi := _) (v := ?_) rfl (by kernel_rfl) (by kernel_rfl) (by kernel_rfl) (fun _ _ _ h => h) (Or.inl ⟨by rfl, ?_⟩) (by assumption) ?_
      rotate_left
      · intro w hSw
        try dsimp only at hSw
        obtain ⟨t0, t1, t2, t3, t4⟩ := hSw
        go_simp
        all_goals with_reducible rfl
      try simp only [Act.put, List.setIfInBounds_toArray, List.set_cons_zero, List.set_cons_succ, List.getElem_toArray, List.getElem_cons_zero, List.getElem_cons_succ]
      refine wpAnyH_done (by kernel_rfl) ?_ _
      clear a0 a1 a2 a3 af al hw1
      have HNS : Hid (MeS w ((((w6.setCell ⟨p1, 0, none⟩ (.slice v'.aA v'.aN v'.aC)).setCell ⟨p1, 1, none⟩ (.int .i64 v'.us.n)).setCell ⟨p1, 2, none⟩ (.slice v'.us.A v'.us.m v'.us.c)).setCell ⟨p1, 3, none⟩ (.slice v'.sA v'.sN v'.sC)) base p1 (p1 + 1) h (mendS hc) v' (n + fs.length)) := by
        have hl1 := HP.out.l1
        have hh1 := HP.out.h1
        refine ⟨HVA.out.put v', HVB.out.far (by omega) _ _ _ _, ?_, ?_, mendS_geo HS.out.geo HS.out.wf, (mendS_mi HS.out.geo HS.out.wf).wf, ?_, ?_, ?_⟩
        · repeat (refine OwnH.set_lo ?_ (by simpa using hl1) _)
          exact HOD.out
        · have h1 := HBD.out.size
          have h2 := HS.out.bz
          simp
          omega
        · intro g m hm
          have h1 := HS.out.mm g _ (Mends.step HFE.out hm)
          rw [← HFS.out, ← Nat.add_assoc] at h1
          exact h1
        · have h1 := HS.out.bd
          have h2 := HLT.out
          have h3 := HFL.out
          omega
        · repeat (refine Below.setCell ?_ (by simpa using hh1) _)
          exact HS.out.be.trans (HBD.out.mono (by omega))
      go_wp2
      go_roundg (muM (mendS hc))
      case measure => rw [HGK.out]; exact HLT.out
      case rel => exact ⟨mendS hc, v', n + fs.length, rfl, by go_num, HNS.out⟩
end Go.Proofs.YtieijfefnedifaaGreatDoor
