/- The walks of heap's open and Check. -/
import Derived.Test.YtieijfefnedifaaGreatDoorMD3
import Derived.Test.YtieijfefnedifaaGreatDoorMD9
import Derived.Test.YtieijfefnedifaaGreatDoorMB7
import Derived.Deep.RegionHeld3
import Derived.OneCell
namespace Go.Proofs.YtieijfefnedifaaGreatDoor
open Go.RowKit
set_option linter.unusedVariables false
set_option linter.unusedSimpArgs false

structure Opened (w : World) (base b : Nat) (v : HeapV) (h : HeapB) (A : Option Addr) (c : Nat) : Prop where
  sees : Sees w b v h (objs h) A c
  own : OwO w (b + 1) (.slice A (objs h).length c) (objs h)
  fr : ∀ j, w.frozen? ⟨b, j, none⟩ = false
  lo : base ≤ b
def OpenP (v : HeapV) (h : HeapB) (w : World) (e : Ending) (w' : World) : Prop :=
  Below w.heap.size w w' ∧ (heapP h = true → ∃ b A c, e = .returned (.tuple #[.pointer (some ⟨b, 0, none⟩), .int .i64 0]) ∧ Opened w' w.heap.size b v h A c) ∧ (heapP h = false → e = .returned (.tuple #[.pointer none, .int .i64 2]))
theorem heap_parts {h : HeapB} (hh : heapP h = true) : framedP h = true ∧ lookP h = true ∧ soundP h = true := by
  unfold heapP at hh
  simpa using hh
set_option maxRecDepth 100000 in
set_option maxHeartbeats 16000000 in
theorem open18 (v : HeapV) (h : HeapB) (w : World) (hr : RdH w v h) : Calls Tryz.prog 18 #[v.v] w (OpenP v h w) := by
  have HR := Lib.hid hr
  obtain ⟨aA, aN, aC, ⟨un, uA, um, uc⟩, sA, sN, sC, vs⟩ := v
  unfold HeapV.v
  simp only
  obtain ⟨WA, hWA⟩ : ∃ WA, WA = (w.alloc (.cells #[.slice aA aN aC, .int .i64 un, .slice uA um uc, .slice sA sN sC] 31)).alloc (.cells #[.slice aA aN aC, .int .i64 un, .slice uA um uc, .slice sA sN sC, .slice none 0 0] 82) := ⟨_, rfl⟩
  have HB0 : Hid (Below w.heap.size w WA) := by show Below _ _ _; rw [hWA]; exact balloc (balloc (Below.refl _ _) _) _
  have HST : Hid (StAt WA (w.heap.size + 1) ⟨aA, aN, aC, ⟨un, uA, um, uc⟩, sA, sN, sC, vs⟩ (.slice none 0 0)) := by
    show StAt _ _ _ _
    rw [hWA]
    exact ⟨by go_simp, by go_simp, by go_simp, by go_simp, by go_simp⟩
  have HFR : Hid (∀ j, WA.frozen? ⟨w.heap.size + 1, j, none⟩ = false) := by show ∀ j, _; rw [hWA]; intro j; go_simp
  have HSZ : Hid (WA.heap.size = w.heap.size + 2) := by show _ = _; rw [hWA]; simp
  have CF := Lib.hid (framed43 (w.heap.size + 1) ⟨aA, aN, aC, ⟨un, uA, um, uc⟩, sA, sN, sC, vs⟩ h (.slice none 0 0) WA HST.out (by rw [HSZ.out]; omega) (HR.out.below HB0.out))
  clear hr
  cases hf : framedP h
  · have E : Hid (heapP h = false) := by show _ = _; unfold heapP; rw [hf]; rfl
    rw [hf] at CF
    clear hf
    go_enter Tryz.func18, Tryz.ntmps18
    rw [hWA] at CF HB0
    go_wp2_with (go_at_call 43; refine CF.out.mono ?_)
    rintro e w1 ⟨rfl, hb1⟩
    have HB1 := Lib.hid (bthen HB0.out hb1)
    clear hb1
    go_wp2
    go_ret2
    exact ⟨HB1.out, (fun hh => by rw [E.out] at hh; cases hh), (fun _ => rfl)⟩
  · have HF := Lib.hid hf
    obtain ⟨g1, g2, g3, g4, g5, g6⟩ := framed_parts hf
    have HLEN : Hid (0 < h.ar.length ∧ h.ar.length ≤ 16384) := ⟨by omega, g1⟩
    rw [hf] at CF
    have CL : Hid (∀ W, Below WA.heap.size WA W → Calls Tryz.prog 44 #[.pointer (some ⟨w.heap.size + 1, 0, none⟩)] W (LookP w W (w.heap.size + 1) ⟨aA, aN, aC, ⟨un, uA, um, uc⟩, sA, sN, sC, vs⟩ h)) := fun W hW =>
      look44 (w.heap.size + 1) _ h w W (HST.out.below hW) (fun j => (hW.frozen (p := ⟨w.heap.size + 1, j, none⟩) (show w.heap.size + 1 < _ by rw [HSZ.out]; omega)).trans (HFR.out j)) (by have := hW.size; rw [HSZ.out] at this; omega) (bthen HB0.out hW) (by omega) HR.out HF.out
    clear hf g1 g2 g3 g4 g5 g6
    go_enter Tryz.func18, Tryz.ntmps18
    rw [hWA] at CF HB0 CL
    go_wp2_with (go_at_call 43; refine CF.out.mono ?_)
    rintro e w1 ⟨rfl, hb1⟩
    have CL1 := Lib.hid (CL.out w1 hb1)
    clear hb1 CL HB0
    cases hl : lookP h
    · have E : Hid (heapP h = false) := by show _ = _; unfold heapP; rw [HF.out, hl]; rfl
      go_wp2_with (go_at_call 44; refine CL1.out.mono ?_)
      rintro e w2 ⟨he, hb2, -, -⟩
      rw [hl] at he
      subst he
      have HB2 := Lib.hid hb2
      clear hb2 hl
      go_wp2
      go_ret2
      exact ⟨HB2.out, (fun hh => by rw [E.out] at hh; cases hh), (fun _ => rfl)⟩
    · have HL := Lib.hid hl
      have HFIT := Lib.hid (fit_of HF.out hl)
      go_wp2_with (go_at_call 44; refine CL1.out.mono ?_)
      rintro e w2 ⟨he, hb2, -, hlk⟩
      rw [hl] at he
      subst he
      obtain ⟨A, c, hx⟩ := hlk hl
      have HB2 := Lib.hid hb2
      have HS2 : Hid (Sees w2 (w.heap.size + 1) ⟨aA, aN, aC, ⟨un, uA, um, uc⟩, sA, sN, sC, vs⟩ h (objs h) A c) := ⟨hx.st, hx.ow.rd rfl, HR.out.below hb2, hx.lt⟩
      have HO2 := Lib.hid hx.ow
      have HF2 := Lib.hid hx.fr
      have CS := Lib.hid (sound45 (w.heap.size + 1) c _ h A w2 HS2.out HFIT.out HLEN.out.1 HLEN.out.2)
      clear hb2 hlk hx hl
      cases hsd : soundP h
      · have E : Hid (heapP h = false) := by show _ = _; unfold heapP; rw [HF.out, HL.out, hsd]; rfl
        rw [hsd] at CS
        clear hsd
        go_wp2_with (go_at_call 45; refine CS.out.mono ?_)
        rintro e w3 ⟨rfl, hb3⟩
        have HB3 := Lib.hid (bthen HB2.out hb3)
        clear hb3
        go_wp2
        go_ret2
        exact ⟨HB3.out, (fun hh => by rw [E.out] at hh; cases hh), (fun _ => rfl)⟩
      · have E : Hid (heapP h = true) := by show _ = _; unfold heapP; rw [HF.out, HL.out, hsd]; rfl
        rw [hsd] at CS
        clear hsd
        go_wp2_with (go_at_call 45; refine CS.out.mono ?_)
        rintro e w3 ⟨rfl, hb3⟩
        have HB3 := Lib.hid (bthen HB2.out hb3)
        have HO3 : Hid (Opened w3 w.heap.size (w.heap.size + 1) ⟨aA, aN, aC, ⟨un, uA, um, uc⟩, sA, sN, sC, vs⟩ h A c) :=
          ⟨HS2.out.below hb3, HO2.out.below hb3, fun j => (hb3.frozen (p := ⟨w.heap.size + 1, j, none⟩) HS2.out.lt).trans (HF2.out j), by omega⟩
        clear hb3
        go_wp2
        go_ret2
        exact ⟨HB3.out, (fun _ => ⟨_, A, c, rfl, HO3.out⟩), (fun hh => by rw [E.out] at hh; cases hh)⟩
set_option maxRecDepth 100000 in
set_option maxHeartbeats 8000000 in
theorem hcheck9 (v : HeapV) (h : HeapB) (w : World) (hr : RdH w v h) : Calls Tryz.prog 9 #[v.v] w (Ret (.int .i64 (chkH h)) w) := by
  have CO : Hid (∀ W, Below w.heap.size w W → Calls Tryz.prog 18 #[v.v] W (OpenP v h W)) := fun W hW => open18 v h W (hr.below hW)
  clear hr
  unfold HeapV.v at *
  have HB0 : Hid (Below w.heap.size w (w.alloc (.cells #[.slice v.aA v.aN v.aC, .int .i64 v.us.n, .slice v.us.A v.us.m v.us.c, .slice v.sA v.sN v.sC] 31))) := balloc (Below.refl _ _) _
  cases hh : heapP h
  · have E : Hid (chkH h = 2) := by show _ = _; unfold chkH; rw [hh]; rfl
    go_enter Tryz.func9, Tryz.ntmps9
    go_wp2_with (go_at_call 18; refine (CO.out _ HB0.out).mono ?_)
    rintro e w1 ⟨hb1, -, he⟩
    rw [he hh]
    have HB1 := Lib.hid (bthen HB0.out hb1)
    clear hb1 he hh
    go_wp2
    go_ret
    rw [E.out]
    exact ⟨rfl, HB1.out⟩
  · have E : Hid (chkH h = 0) := by show _ = _; unfold chkH; rw [hh]; rfl
    go_enter Tryz.func9, Tryz.ntmps9
    go_wp2_with (go_at_call 18; refine (CO.out _ HB0.out).mono ?_)
    rintro e w1 ⟨hb1, ho, -⟩
    obtain ⟨b, A, c, rfl, -⟩ := ho hh
    have HB1 := Lib.hid (bthen HB0.out hb1)
    clear hb1 ho hh
    go_wp2
    go_ret
    rw [E.out]
    exact ⟨rfl, HB1.out⟩
end Go.Proofs.YtieijfefnedifaaGreatDoor

/- The walk of heap.Own. -/
namespace Go.Proofs.YtieijfefnedifaaGreatDoor
open Go.RowKit
set_option linter.unusedVariables false
set_option linter.unusedSimpArgs false

structure WfH (h : HeapB) : Prop where
  ar : Words h.ar
  lo : -9223372036854775808 ≤ h.us.n
  hi : h.us.n ≤ 9223372036854775807
  us : ∀ x ∈ h.us.w, 0 ≤ x ∧ x < 18446744073709551616
  sp : ∀ s ∈ h.sp, WfS s
theorem RdH.wf {w : World} {v : HeapV} {h : HeapB} (r : RdH w v h) : WfH h := ⟨r.words, r.us.lo, r.us.hi, r.us.words, r.sp.wf⟩
/-- The arena's words are in no block of bits. -/
def ApartH (v : HeapV) : Prop := ∀ k, (Value.slice v.aA v.aN v.aC).ownBlock = some k → (Value.slice v.us.A v.us.m v.us.c).ownBlock ≠ some k ∧ ∀ x ∈ v.vs, (Value.slice x.al.A x.al.m x.al.c).ownBlock ≠ some k ∧ (Value.slice x.ma.A x.ma.m x.ma.c).ownBlock ≠ some k
structure OwnH (w : World) (base : Nat) (v : HeapV) (h : HeapB) : Prop where
  n : v.aN = h.ar.length
  c : v.aN ≤ v.aC
  ar : OwU w base (.slice v.aA v.aN v.aC) h.ar
  un : v.us.n = h.us.n
  um : v.us.m = h.us.w.length
  uc : v.us.m ≤ v.us.c
  us : OwU w base (.slice v.us.A v.us.m v.us.c) h.us.w
  sn : v.sN = h.sp.length
  sc : v.sN ≤ v.sC
  sp : OwS w base (.slice v.sA v.sN v.sC) v.vs
  al : AllN w base v.vs h.sp
  ap : ApartH v
theorem OwnH.below {w w1 : World} {base : Nat} {v : HeapV} {h : HeapB} (o : OwnH w base v h) (hb : Below w.heap.size w w1) : OwnH w1 base v h :=
  ⟨o.n, o.c, o.ar.below hb, o.un, o.um, o.uc, o.us.below hb, o.sn, o.sc, o.sp.below hb, o.al.below hb, o.ap⟩
theorem OwnH.mono {w : World} {base base' : Nat} {v : HeapV} {h : HeapB} (o : OwnH w base v h) (hb : base' ≤ base) : OwnH w base' v h :=
  ⟨o.n, o.c, o.ar.mono hb, o.un, o.um, o.uc, o.us.mono hb, o.sn, o.sc, o.sp.mono hb, o.al.mono hb, o.ap⟩
theorem OwS.set_lo {w : World} {base : Nat} {v : Value} {l : List SpanV} (h : OwS w base v l) {p : Addr} (hp : p.block < base) (u : Value) : OwS (w.setCell p u) base v l := ownsRow_setCell_below h hp u
theorem OwN.set_lo {w : World} {base : Nat} {v : SpanV} {s : SpanB} (h : OwN w base v s) {p : Addr} (hp : p.block < base) (u : Value) : OwN (w.setCell p u) base v s :=
  ⟨h.first, h.pages, h.size, h.sw, h.an, h.am, h.ac, h.al.set_lo hp u, h.mn, h.mm, h.mc, h.ma.set_lo hp u⟩
theorem AllN.set_lo {w : World} {base : Nat} {vs : List SpanV} {l : List SpanB} (h : AllN w base vs l) {p : Addr} (hp : p.block < base) (u : Value) : AllN (w.setCell p u) base vs l := ⟨h.1, fun i x s hx hs => (h.2 i x s hx hs).set_lo hp u⟩
theorem OwnH.set_lo {w : World} {base : Nat} {v : HeapV} {h : HeapB} (o : OwnH w base v h) {p : Addr} (hp : p.block < base) (u : Value) : OwnH (w.setCell p u) base v h :=
  ⟨o.n, o.c, o.ar.set_lo hp u, o.un, o.um, o.uc, o.us.set_lo hp u, o.sn, o.sc, o.sp.set_lo hp u, o.al.set_lo hp u, o.ap⟩
theorem OwnH.rd {w : World} {base : Nat} {v : HeapV} {h : HeapB} (o : OwnH w base v h) (f : WfH h) : RdH w v h := by
  refine ⟨o.n, o.c, f.ar, o.ar.rd o.n.symm, ⟨o.un, o.um, o.uc, f.lo, f.hi, f.us, o.us.rd o.um.symm⟩, o.sn, o.sc, ?_⟩
  refine ⟨o.sp.rd ?_, o.al.1, o.al.rd f.sp⟩
  rw [o.al.1, o.sn]
def RetH (h : HeapB) (w : World) (e : Ending) (w' : World) : Prop := ∃ v : HeapV, e = .returned v.v ∧ OwnH w' w.heap.size v h ∧ Below w.heap.size w w'
def smallH (h : HeapB) : Prop := h.ar.length * 8 ≤ 140737488355328 ∧ h.us.w.length * 8 ≤ 140737488355328 ∧ smallL h.sp
theorem set4 {w : World} {q : Nat} {a0 a1 a2 a3 b0 b1 b2 b3 : Value} (h0 : w.cell? ⟨q, 0, none⟩ = some a0) (h1 : w.cell? ⟨q, 1, none⟩ = some a1) (h2 : w.cell? ⟨q, 2, none⟩ = some a2) (h3 : w.cell? ⟨q, 3, none⟩ = some a3) :
    (∀ b o, b ≠ q → ((((w.setCell ⟨q, 0, none⟩ b0).setCell ⟨q, 1, none⟩ b1).setCell ⟨q, 2, none⟩ b2).setCell ⟨q, 3, none⟩ b3).cell? ⟨b, o, none⟩ = w.cell? ⟨b, o, none⟩) ∧
    ((((w.setCell ⟨q, 0, none⟩ b0).setCell ⟨q, 1, none⟩ b1).setCell ⟨q, 2, none⟩ b2).setCell ⟨q, 3, none⟩ b3).cell? ⟨q, 0, none⟩ = some b0 ∧
    ((((w.setCell ⟨q, 0, none⟩ b0).setCell ⟨q, 1, none⟩ b1).setCell ⟨q, 2, none⟩ b2).setCell ⟨q, 3, none⟩ b3).cell? ⟨q, 1, none⟩ = some b1 ∧
    ((((w.setCell ⟨q, 0, none⟩ b0).setCell ⟨q, 1, none⟩ b1).setCell ⟨q, 2, none⟩ b2).setCell ⟨q, 3, none⟩ b3).cell? ⟨q, 2, none⟩ = some b2 ∧
    ((((w.setCell ⟨q, 0, none⟩ b0).setCell ⟨q, 1, none⟩ b1).setCell ⟨q, 2, none⟩ b2).setCell ⟨q, 3, none⟩ b3).cell? ⟨q, 3, none⟩ = some b3 := by
  have hne : ∀ i j : Nat, i ≠ j → (⟨q, i, none⟩ : Addr) ≠ ⟨q, j, none⟩ := fun i j h e => h (congrArg Addr.off e)
  have ot : ∀ (W : World) (i j : Nat) (u : Value), i ≠ j → (W.setCell ⟨q, i, none⟩ u).cell? ⟨q, j, none⟩ = W.cell? ⟨q, j, none⟩ := fun W i j u h => World.cell?_setCell_other (h := hne i j h) ..
  refine ⟨fun b o hb => ?_, ?_, ?_, ?_, ?_⟩
  · rw [World.cell?_setCell_far _ _ _ _ (by simp; omega), World.cell?_setCell_far _ _ _ _ (by simp; omega), World.cell?_setCell_far _ _ _ _ (by simp; omega), World.cell?_setCell_far _ _ _ _ (by simp; omega)]
  · rw [ot _ 3 0 _ (by omega), ot _ 2 0 _ (by omega), ot _ 1 0 _ (by omega)]
    exact World.cell?_setCell_same _ _ _ h0
  · rw [ot _ 3 1 _ (by omega), ot _ 2 1 _ (by omega)]
    exact World.cell?_setCell_same _ _ _ ((ot _ 0 1 _ (by omega)).trans h1)
  · rw [ot _ 3 2 _ (by omega)]
    exact World.cell?_setCell_same _ _ _ ((ot _ 1 2 _ (by omega)).trans ((ot _ 0 2 _ (by omega)).trans h2))
  · exact World.cell?_setCell_same _ _ _ ((ot _ 2 3 _ (by omega)).trans ((ot _ 1 3 _ (by omega)).trans ((ot _ 0 3 _ (by omega)).trans h3)))
set_option maxRecDepth 100000 in
set_option maxHeartbeats 16000000 in
theorem hown19 (v : HeapV) (h : HeapB) (w : World) (hr : RdH w v h) (hsm : smallH h) : Calls Tryz.prog 19 #[v.v] w (RetH h w) := by
  have hn := hr.n
  have hun := hr.us.n
  have hum := hr.us.m
  have hsn := hr.sn
  obtain ⟨aA, aN, aC, ⟨un, uA, um, uc⟩, sA, sN, sC, vs⟩ := v
  simp only at hn hun hum hsn
  subst hn
  subst hun
  subst hum
  subst hsn
  have CA : Hid (∀ W, Below w.heap.size w W → Calls Tryz.prog 46 #[.agg #[.slice aA h.ar.length aC]] W (RetA h.ar W)) := fun W hW => arown h.ar aA aC W (hr.ar.below hW) hsm.1
  have CP : Hid (∀ W, Below w.heap.size w W → Calls Tryz.prog 47 #[.agg #[.int .i64 h.us.n, .slice uA h.us.w.length uc]] W (RetB h.us W)) := fun W hW => pgown ⟨h.us.n, uA, h.us.w.length, uc⟩ h.us W (hr.us.below hW) hsm.2.1
  have CS : Hid (∀ W, Below w.heap.size w W → Calls Tryz.prog 48 #[.slice sA h.sp.length sC] W (RetL h.sp W)) := fun W hW => own53 sA sC vs h.sp W (hr.sp.below hW) hsm.2.2
  unfold HeapV.v
  simp only
  clear hr hsm
  go_enter Tryz.func19, Tryz.ntmps19
  go_wp2
  obtain ⟨X, hX⟩ : ∃ X, X = (w.alloc (.cells #[.slice aA h.ar.length aC, .int .i64 h.us.n, .slice uA h.us.w.length uc, .slice sA h.sp.length sC] 31)).alloc (.cells #[.slice none 0 0, .int .i64 0, .slice none 0 0, .slice none 0 0] 31) := ⟨_, rfl⟩
  have hzX : X.heap.size = w.heap.size + 2 := by rw [hX]; simp
  have hbX : Below w.heap.size w X := by rw [hX]; exact balloc (balloc (Below.refl _ _) _) _
  have hcX : X.cell? ⟨w.heap.size, 0, none⟩ = some (.slice aA h.ar.length aC) ∧ X.cell? ⟨w.heap.size, 1, none⟩ = some (.int .i64 h.us.n) ∧ X.cell? ⟨w.heap.size, 2, none⟩ = some (.slice uA h.us.w.length uc) ∧ X.cell? ⟨w.heap.size, 3, none⟩ = some (.slice sA h.sp.length sC) := by
    rw [hX]
    exact ⟨by go_simp, by go_simp, by go_simp, by go_simp⟩
  have htX : X.cell? ⟨w.heap.size + 1, 0, none⟩ = some (.slice none 0 0) ∧ X.cell? ⟨w.heap.size + 1, 1, none⟩ = some (.int .i64 0) ∧ X.cell? ⟨w.heap.size + 1, 2, none⟩ = some (.slice none 0 0) ∧ X.cell? ⟨w.heap.size + 1, 3, none⟩ = some (.slice none 0 0) := by
    rw [hX]
    exact ⟨by go_simp, by go_simp, by go_simp, by go_simp⟩
  have hfX : ∀ j, X.frozen? ⟨w.heap.size + 1, j, none⟩ = false := by rw [hX]; intro j; go_simp
  rw [← hX]
  have hd : Below X.heap.size X X.drew := (Below.refl _ _).drew
  have HB0 : Hid (Below w.heap.size w X.drew) := bthen hbX hd
  have HSA : Hid (X.drew.cell? ⟨w.heap.size, 0, none⟩ = some (.slice aA h.ar.length aC) ∧ X.drew.cell? ⟨w.heap.size, 1, none⟩ = some (.int .i64 h.us.n) ∧ X.drew.cell? ⟨w.heap.size, 2, none⟩ = some (.slice uA h.us.w.length uc) ∧ X.drew.cell? ⟨w.heap.size, 3, none⟩ = some (.slice sA h.sp.length sC)) :=
    ⟨cell_later hd hcX.1, cell_later hd hcX.2.1, cell_later hd hcX.2.2.1, cell_later hd hcX.2.2.2⟩
  have HTA := Lib.hid (And.intro (cell_later hd htX.1) (And.intro (cell_later hd htX.2.1) (And.intro (cell_later hd htX.2.2.1) (cell_later hd htX.2.2.2))))
  have HFA : Hid (∀ j, X.drew.frozen? ⟨w.heap.size + 1, j, none⟩ = false) := fun j => (hd.frozen (p := ⟨w.heap.size + 1, j, none⟩) (show w.heap.size + 1 < _ by omega)).trans (hfX j)
  have HZA : Hid (w.heap.size + 2 ≤ X.drew.heap.size) := by have := hd.size; show _ ≤ _; omega
  clear hX hbX hcX htX hfX hd hzX
  refine wp_region_held_drew (S := fun W => W.cell? ⟨w.heap.size, 0, none⟩ = some (.slice aA h.ar.length aC) ∧ W.cell? ⟨w.heap.size, 1, none⟩ = some (.int .i64 h.us.n) ∧ W.cell? ⟨w.heap.size, 2, none⟩ = some (.slice uA h.us.w.length uc) ∧ W.cell? ⟨w.heap.size, 3, none⟩ = some (.slice sA h.sp.length sC)) (by kernel_rfl) HSA.out (fun hHeld => ?_)
  generalize X.drew = WA at *
  refine wpAnyH_take (i := 0) (oi := _) (v := ?_) rfl (by kernel_rfl) (by kernel_rfl) (by kernel_rfl) (fun _ _ _ h => h) (Or.inl ⟨by rfl, ?_⟩) (by assumption) ?_
  rotate_left
  · intro w hSw
    try dsimp only at hSw
    obtain ⟨t0, t1, t2, t3⟩ := hSw
    go_simp
    all_goals with_reducible rfl
  try simp only [Act.put, List.setIfInBounds_toArray, List.set_cons_zero, List.set_cons_succ, List.getElem_toArray, List.getElem_cons_zero, List.getElem_cons_succ]
  refine wpAnyH_take (i := 1) (oi := _) (v := ?_) rfl (by kernel_rfl) (by kernel_rfl) (by kernel_rfl) (fun _ _ _ h => h) (Or.inl ⟨by rfl, ?_⟩) (by assumption) ?_
  rotate_left
  · intro w hSw
    try dsimp only at hSw
    obtain ⟨t0, t1, t2, t3⟩ := hSw
    go_simp
    all_goals with_reducible rfl
  try simp only [Act.put, List.setIfInBounds_toArray, List.set_cons_zero, List.set_cons_succ, List.getElem_toArray, List.getElem_cons_zero, List.getElem_cons_succ]
  refine wpAnyH_take (i := 3) (oi := _) (v := ?_) rfl (by kernel_rfl) (by kernel_rfl) (by kernel_rfl) (fun _ _ _ h => h) (Or.inl ⟨by rfl, ?_⟩) (by assumption) ?_
  rotate_left
  · intro w hSw
    try dsimp only at hSw
    obtain ⟨t0, t1, t2, t3⟩ := hSw
    go_simp
    all_goals with_reducible rfl
  try simp only [Act.put, List.setIfInBounds_toArray, List.set_cons_zero, List.set_cons_succ, List.getElem_toArray, List.getElem_cons_zero, List.getElem_cons_succ]
  refine wpAnyH_take (i := 4) (oi := _) (v := ?_) rfl (by kernel_rfl) (by kernel_rfl) (by kernel_rfl) (fun _ _ _ h => h) (Or.inl ⟨by rfl, ?_⟩) (by assumption) ?_
  rotate_left
  · intro w hSw
    try dsimp only at hSw
    obtain ⟨t0, t1, t2, t3⟩ := hSw
    go_simp
    all_goals with_reducible rfl
  try simp only [Act.put, List.setIfInBounds_toArray, List.set_cons_zero, List.set_cons_succ, List.getElem_toArray, List.getElem_cons_zero, List.getElem_cons_succ]
  refine wpAnyH_take (i := 6) (oi := _) (v := ?_) rfl (by kernel_rfl) (by kernel_rfl) (by kernel_rfl) (fun _ _ _ h => h) (Or.inl ⟨by rfl, ?_⟩) (by assumption) ?_
  rotate_left
  · intro w hSw
    try dsimp only at hSw
    obtain ⟨t0, t1, t2, t3⟩ := hSw
    go_simp
    all_goals with_reducible rfl
  try simp only [Act.put, List.setIfInBounds_toArray, List.set_cons_zero, List.set_cons_succ, List.getElem_toArray, List.getElem_cons_zero, List.getElem_cons_succ]
  refine wpAnyH_take (i := 7) (oi := _) (v := ?_) rfl (by kernel_rfl) (by kernel_rfl) (by kernel_rfl) (fun _ _ _ h => h) (Or.inl ⟨by rfl, ?_⟩) (by assumption) ?_
  rotate_left
  · intro w hSw
    try dsimp only at hSw
    obtain ⟨t0, t1, t2, t3⟩ := hSw
    go_simp
    all_goals with_reducible rfl
  try simp only [Act.put, List.setIfInBounds_toArray, List.set_cons_zero, List.set_cons_succ, List.getElem_toArray, List.getElem_cons_zero, List.getElem_cons_succ]
  refine wpAnyH_ready (rs := [2]) (by kernel_rfl) (by simp) ?_
  refine AllReadyH.cons (o := _) rfl (fun K hK => ?_) AllReadyH.nil
  go_simp
  go_at_call 46
  refine (CA.out _ HB0.out).mono ?_
  rintro e w1 ⟨A1, c1, rfl, hc1, ho1, hb1⟩
  have HB1 := Lib.hid (bthen HB0.out hb1)
  have HS1 : Hid (w1.cell? ⟨w.heap.size, 0, none⟩ = some (.slice aA h.ar.length aC) ∧ w1.cell? ⟨w.heap.size, 1, none⟩ = some (.int .i64 h.us.n) ∧ w1.cell? ⟨w.heap.size, 2, none⟩ = some (.slice uA h.us.w.length uc) ∧ w1.cell? ⟨w.heap.size, 3, none⟩ = some (.slice sA h.sp.length sC)) := ⟨cell_later hb1 HSA.out.1, cell_later hb1 HSA.out.2.1, cell_later hb1 HSA.out.2.2.1, cell_later hb1 HSA.out.2.2.2⟩
  have HT1 := Lib.hid (And.intro (cell_later hb1 HTA.out.1) (And.intro (cell_later hb1 HTA.out.2.1) (And.intro (cell_later hb1 HTA.out.2.2.1) (cell_later hb1 HTA.out.2.2.2))))
  have HF1 : Hid (∀ j, w1.frozen? ⟨w.heap.size + 1, j, none⟩ = false) := fun j => (hb1.frozen (p := ⟨w.heap.size + 1, j, none⟩) (show w.heap.size + 1 < _ by have := HZA.out; omega)).trans (HFA.out j)
  have HZ1 : Hid (w.heap.size + 2 ≤ w1.heap.size) := Nat.le_trans HZA.out hb1.size
  have HC1 := Lib.hid hc1
  have HL1 : Hid (∀ k, (Value.slice A1 h.ar.length c1).ownBlock = some k → k < w1.heap.size) := fun k hk => (World.ownsRow.lt ho1 k hk).2
  have HO1 := Lib.hid (OwU.mono (base' := w.heap.size + 2) ho1 HZA.out)
  clear hb1 hc1 ho1 HB0 HSA HTA HFA HZA CA
  go_simp
  refine hK.out _ _ HS1.out (fun hHeld => ?_)
  clear hK K
  try simp only [Act.put, List.setIfInBounds_toArray, List.set_cons_zero, List.set_cons_succ, List.getElem_toArray, List.getElem_cons_zero, List.getElem_cons_succ]
  refine wpAnyH_ready (rs := [5]) (by kernel_rfl) (by simp) ?_
  refine AllReadyH.cons (o := _) rfl (fun K hK => ?_) AllReadyH.nil
  go_simp
  go_at_call 47
  refine (CP.out _ HB1.out).mono ?_
  rintro e w2 ⟨⟨n2, A2, m2, c2⟩, rfl, hn2, hm2, hc2, ho2, hb2⟩
  simp only at hn2 hm2 hc2 ho2
  have HB2 := Lib.hid (bthen HB1.out hb2)
  have HS2 : Hid (w2.cell? ⟨w.heap.size, 0, none⟩ = some (.slice aA h.ar.length aC) ∧ w2.cell? ⟨w.heap.size, 1, none⟩ = some (.int .i64 h.us.n) ∧ w2.cell? ⟨w.heap.size, 2, none⟩ = some (.slice uA h.us.w.length uc) ∧ w2.cell? ⟨w.heap.size, 3, none⟩ = some (.slice sA h.sp.length sC)) := ⟨cell_later hb2 HS1.out.1, cell_later hb2 HS1.out.2.1, cell_later hb2 HS1.out.2.2.1, cell_later hb2 HS1.out.2.2.2⟩
  have HT2 := Lib.hid (And.intro (cell_later hb2 HT1.out.1) (And.intro (cell_later hb2 HT1.out.2.1) (And.intro (cell_later hb2 HT1.out.2.2.1) (cell_later hb2 HT1.out.2.2.2))))
  have HF2 : Hid (∀ j, w2.frozen? ⟨w.heap.size + 1, j, none⟩ = false) := fun j => (hb2.frozen (p := ⟨w.heap.size + 1, j, none⟩) (show w.heap.size + 1 < _ by have := HZ1.out; omega)).trans (HF1.out j)
  have HZ2 : Hid (w.heap.size + 2 ≤ w2.heap.size) := Nat.le_trans HZ1.out hb2.size
  have HE2 : Hid (n2 = h.us.n ∧ m2 = h.us.w.length ∧ m2 ≤ c2) := ⟨hn2, hm2, hc2⟩
  have HO12 := Lib.hid (HO1.out.below hb2)
  have HL2 : Hid (∀ k, (Value.slice A2 m2 c2).ownBlock = some k → w1.heap.size ≤ k) := fun k hk => (World.ownsRow.lt ho2 k hk).1
  have HW12 : Hid (w1.heap.size ≤ w2.heap.size) := hb2.size
  have HO2 := Lib.hid (OwU.mono (base' := w.heap.size + 2) ho2 HZ1.out)
  clear hb2 hn2 hm2 hc2 ho2 HB1 HS1 HT1 HF1 HZ1 HO1 CP
  unfold BitV.v
  go_simp
  refine hK.out _ _ HS2.out (fun hHeld => ?_)
  clear hK K
  try simp only [Act.put, List.setIfInBounds_toArray, List.set_cons_zero, List.set_cons_succ, List.getElem_toArray, List.getElem_cons_zero, List.getElem_cons_succ]
  refine wpAnyH_ready (rs := [8]) (by kernel_rfl) (by simp) ?_
  refine AllReadyH.cons (o := _) rfl (fun K hK => ?_) AllReadyH.nil
  go_simp
  go_at_call 48
  refine (CS.out _ HB2.out).mono ?_
  rintro e w3 ⟨v3, rfl, ⟨vs3, ho3, hal3⟩, hb3⟩
  obtain ⟨A3, c3, rfl, hc3, hr3⟩ := ho3.shape
  have HB3 := Lib.hid (bthen HB2.out hb3)
  have HS3 : Hid (w3.cell? ⟨w.heap.size, 0, none⟩ = some (.slice aA h.ar.length aC) ∧ w3.cell? ⟨w.heap.size, 1, none⟩ = some (.int .i64 h.us.n) ∧ w3.cell? ⟨w.heap.size, 2, none⟩ = some (.slice uA h.us.w.length uc) ∧ w3.cell? ⟨w.heap.size, 3, none⟩ = some (.slice sA h.sp.length sC)) := ⟨cell_later hb3 HS2.out.1, cell_later hb3 HS2.out.2.1, cell_later hb3 HS2.out.2.2.1, cell_later hb3 HS2.out.2.2.2⟩
  have HT3 := Lib.hid (And.intro (cell_later hb3 HT2.out.1) (And.intro (cell_later hb3 HT2.out.2.1) (And.intro (cell_later hb3 HT2.out.2.2.1) (cell_later hb3 HT2.out.2.2.2))))
  have HF3 : Hid (∀ j, w3.frozen? ⟨w.heap.size + 1, j, none⟩ = false) := fun j => (hb3.frozen (p := ⟨w.heap.size + 1, j, none⟩) (show w.heap.size + 1 < _ by have := HZ2.out; omega)).trans (HF2.out j)
  have HZ3 : Hid (w.heap.size + 2 ≤ w3.heap.size) := Nat.le_trans HZ2.out hb3.size
  have HO13 := Lib.hid (HO12.out.below hb3)
  have HO23 := Lib.hid (HO2.out.below hb3)
  have HAP : Hid (ApartH ⟨A1, h.ar.length, c1, ⟨n2, A2, m2, c2⟩, A3, vs3.length, c3, vs3⟩) := by
    intro k hk
    have h1 := HL1.out k hk
    have h12 := HW12.out
    refine ⟨fun e => by have := HL2.out k e; omega, fun x hx => ?_⟩
    obtain ⟨i, hi, rfl⟩ := List.getElem_of_mem hx
    have hi3 : i < vs3.length := hi
    have hi2 : i < h.sp.length := by have := hal3.1; omega
    have hN := hal3.2 i vs3[i] h.sp[i] (List.getElem?_eq_getElem hi) (List.getElem?_eq_getElem hi2)
    exact ⟨fun e => by have := (World.ownsRow.lt hN.al k e).1; omega, fun e => by have := (World.ownsRow.lt hN.ma k e).1; omega⟩
  have HO3 : Hid (OwnH w3 (w.heap.size + 2) ⟨A1, h.ar.length, c1, ⟨n2, A2, m2, c2⟩, A3, vs3.length, c3, vs3⟩ h) :=
    ⟨rfl, HC1.out, HO13.out, HE2.out.1, HE2.out.2.1, HE2.out.2.2, HO23.out, hal3.1, hc3, ho3.mono HZ2.out, hal3.mono HZ2.out, HAP.out⟩
  clear hb3 ho3 hal3 hc3 hr3 HB2 HS2 HT2 HF2 HZ2 HO12 HO2 HO13 HO23 CS HC1 HE2
  go_simp
  refine hK.out _ _ HS3.out (fun hHeld => ?_)
  clear hK K
  try simp only [Act.put, List.setIfInBounds_toArray, List.set_cons_zero, List.set_cons_succ, List.getElem_toArray, List.getElem_cons_zero, List.getElem_cons_succ]
  refine wpAnyH_take (i := 9) (oi := _) (v := ?_) rfl (by kernel_rfl) (by kernel_rfl) (by kernel_rfl) (fun _ _ _ h => h) (Or.inl ⟨by rfl, ?_⟩) (by assumption) ?_
  rotate_left
  · intro w hSw
    try dsimp only at hSw
    obtain ⟨t0, t1, t2, t3⟩ := hSw
    go_simp
    all_goals with_reducible rfl
  try simp only [Act.put, List.setIfInBounds_toArray, List.set_cons_zero, List.set_cons_succ, List.getElem_toArray, List.getElem_cons_zero, List.getElem_cons_succ]
  obtain ⟨t0, t1, t2, t3⟩ := HT3.out
  have f3 := HF3.out
  have l3 : w.heap.size + 1 < w3.heap.size := by have := HZ3.out; omega
  obtain ⟨kf, k0, k1, k2, k3⟩ := set4 (b0 := .slice A1 h.ar.length c1) (b1 := .int .i64 n2) (b2 := .slice A2 m2 c2) (b3 := .slice A3 vs3.length c3) t0 t1 t2 t3
  have KF := Lib.hid kf
  have K0 := Lib.hid k0
  have K1 := Lib.hid k1
  have K2 := Lib.hid k2
  have K3 := Lib.hid k3
  clear kf k0 k1 k2 k3
  refine wpAnyH_ready (rs := [10]) (by kernel_rfl) (by simp) ?_
  refine AllReadyH.cons (o := _) rfl (fun K hK => ?_) AllReadyH.nil
  go_simp
  refine hK.out _ _ ⟨(KF.out _ _ (by simp)).trans HS3.out.1, (KF.out _ _ (by simp)).trans HS3.out.2.1, (KF.out _ _ (by simp)).trans HS3.out.2.2.1, (KF.out _ _ (by simp)).trans HS3.out.2.2.2⟩ (fun hHeld => ?_)
  clear hK K
  try simp only [Act.put, List.setIfInBounds_toArray, List.set_cons_zero, List.set_cons_succ, List.getElem_toArray, List.getElem_cons_zero, List.getElem_cons_succ]
  clear t0 t1 t2 t3 f3
  refine wpAnyH_done (by kernel_rfl) ?_ _
  go_wp2
  have k0 := K0.out
  have k1 := K1.out
  have k2 := K2.out
  have k3 := K3.out
  refine bodyPost_ret (v := .agg #[.slice A1 h.ar.length c1, .int .i64 n2, .slice A2 m2 c2, .slice A3 vs3.length c3]) (by simp [results, Tryz.results19, go_sem, k0, k1, k2, k3]) rfl ?_
  refine ⟨⟨A1, h.ar.length, c1, ⟨n2, A2, m2, c2⟩, A3, vs3.length, c3, vs3⟩, rfl, ?_, ?_⟩
  · refine OwnH.mono (base := w.heap.size + 2) ?_ (by omega)
    repeat (refine OwnH.set_lo ?_ (by simp) _)
    exact HO3.out
  · repeat (refine Below.setCell ?_ (by simp) _)
    exact HB3.out
end Go.Proofs.YtieijfefnedifaaGreatDoor

/- The walk of heap's mine. -/
namespace Go.Proofs.YtieijfefnedifaaGreatDoor
open Go.RowKit
set_option linter.unusedVariables false
set_option linter.unusedSimpArgs false

theorem heap_small {h : HeapB} (hh : heapP h = true) : smallH h := by
  obtain ⟨hf, _, _⟩ := heap_parts hh
  obtain ⟨g1, g2, g3, g4, g5, g6⟩ := framed_parts hf
  have := okB_parts g2
  exact ⟨by omega, by omega, okL_small g3⟩
/-- A heap at work, of its own memory. -/
structure Mine (w : World) (base b : Nat) (v : HeapV) (h : HeapB) (os : List Obj) (A : Option Addr) (c : Nat) : Prop where
  st : StAt w b v (.slice A os.length c)
  own : OwnH w (b + 1) v h
  ob : OwO w (b + 1) (.slice A os.length c) os
  fr : ∀ j, w.frozen? ⟨b, j, none⟩ = false
  lo : base ≤ b
  lt : b < w.heap.size
theorem Mine.below {w w1 : World} {base b c : Nat} {v : HeapV} {h : HeapB} {os : List Obj} {A : Option Addr} (m : Mine w base b v h os A c) (hb : Below w.heap.size w w1) : Mine w1 base b v h os A c :=
  ⟨m.st.below hb, m.own.below hb, m.ob.below hb, fun j => (hb.frozen (p := ⟨b, j, none⟩) m.lt).trans (m.fr j), m.lo, Nat.lt_of_lt_of_le m.lt hb.size⟩
def MineP (h : HeapB) (w : World) (e : Ending) (w' : World) : Prop :=
  Below w.heap.size w w' ∧ (heapP h = true → ∃ b v A c, e = .returned (.tuple #[.pointer (some ⟨b, 0, none⟩), .int .i64 0]) ∧ Mine w' w.heap.size b v h (objs h) A c) ∧ (heapP h = false → e = .returned (.tuple #[.pointer none, .int .i64 2]))
theorem st_put {w : World} {b : Nat} {v v' : HeapV} {o : Value} (s : StAt w b v o) : StAt ((((w.setCell ⟨b, 0, none⟩ (.slice v'.aA v'.aN v'.aC)).setCell ⟨b, 1, none⟩ (.int .i64 v'.us.n)).setCell ⟨b, 2, none⟩ (.slice v'.us.A v'.us.m v'.us.c)).setCell ⟨b, 3, none⟩ (.slice v'.sA v'.sN v'.sC)) b v' o := by
  obtain ⟨_, k0, k1, k2, k3⟩ := set4 (b0 := .slice v'.aA v'.aN v'.aC) (b1 := .int .i64 v'.us.n) (b2 := .slice v'.us.A v'.us.m v'.us.c) (b3 := .slice v'.sA v'.sN v'.sC) s.c0 s.c1 s.c2 s.c3
  refine ⟨k0, k1, k2, k3, ?_⟩
  have hne : ∀ i : Nat, i ≠ 4 → (⟨b, i, none⟩ : Addr) ≠ ⟨b, 4, none⟩ := fun i h e => h (congrArg Addr.off e)
  rw [World.cell?_setCell_other (h := hne 3 (by omega)), World.cell?_setCell_other (h := hne 2 (by omega)), World.cell?_setCell_other (h := hne 1 (by omega)), World.cell?_setCell_other (h := hne 0 (by omega))]
  exact s.c4
set_option maxRecDepth 100000 in
set_option maxHeartbeats 8000000 in
theorem mine31 (v : HeapV) (h : HeapB) (w : World) (hr : RdH w v h) : Calls Tryz.prog 31 #[v.v] w (MineP h w) := by
  have CO : Hid (∀ W, Below w.heap.size w W → Calls Tryz.prog 18 #[v.v] W (OpenP v h W)) := fun W hW => open18 v h W (hr.below hW)
  have CW : Hid (heapP h = true → ∀ W, Below w.heap.size w W → Calls Tryz.prog 19 #[v.v] W (RetH h W)) := fun hh W hW => hown19 v h W (hr.below hW) (heap_small hh)
  clear hr
  unfold HeapV.v at CO CW ⊢
  have HB0 : Hid (Below w.heap.size w (w.alloc (.cells #[.slice v.aA v.aN v.aC, .int .i64 v.us.n, .slice v.us.A v.us.m v.us.c, .slice v.sA v.sN v.sC] 31))) := balloc (Below.refl _ _) _
  cases hh : heapP h
  · have E := Lib.hid hh
    clear CW
    go_enter Tryz.func31, Tryz.ntmps31
    go_wp2_with (go_at_call 18; refine (CO.out _ HB0.out).mono ?_)
    rintro e w1 ⟨hb1, -, he⟩
    rw [he hh]
    have HB1 := Lib.hid (bthen HB0.out hb1)
    clear hb1 he hh
    go_wp2
    go_ret2
    exact ⟨HB1.out, (fun hh => by rw [E.out] at hh; cases hh), (fun _ => rfl)⟩
  · have E := Lib.hid hh
    have CW := Lib.hid (CW.out hh)
    go_enter Tryz.func31, Tryz.ntmps31
    go_wp2_with (go_at_call 18; refine (CO.out _ HB0.out).mono ?_)
    rintro e w1 ⟨hb1, ho, -⟩
    obtain ⟨b, A, c, rfl, hop⟩ := ho hh
    obtain ⟨hc1, hf1, hs1⟩ := bcellB (B := w.heap.size + 1) hb1 (by simp)
    have HB1 := Lib.hid (bthen HB0.out hb1)
    have HOP := Lib.hid hop
    have HLO : Hid (w.heap.size + 1 ≤ b) := by have := hop.lo; show _ ≤ _; simpa using this
    clear hb1 ho hh hop CO
    go_wp2_with (go_at_call 19; refine (CW.out _ HB1.out).mono ?_)
    rintro e w2 ⟨v2, rfl, hown, hb2⟩
    have HB2 := Lib.hid (bthen HB1.out hb2)
    have HS2 := Lib.hid (HOP.out.sees.below hb2)
    have HO2 := Lib.hid (HOP.out.own.below hb2)
    have HF2 : Hid (∀ j, w2.frozen? ⟨b, j, none⟩ = false) := fun j => (hb2.frozen (p := ⟨b, j, none⟩) HOP.out.sees.lt).trans (HOP.out.fr j)
    have HN2 := Lib.hid (OwnH.mono (base' := b + 1) hown HOP.out.sees.lt)
    obtain ⟨s0, s1, s2, s3, s4⟩ := HS2.out.st
    have f2 := HF2.out
    have l2 := HS2.out.lt
    clear hb2 hown HOP CW hc1 hf1
    unfold HeapV.v
    go_wp2
    clear s0 s1 s2 s3 s4 f2 l2
    go_ret2
    refine ⟨?_, (fun _ => ⟨b, v2, A, c, rfl, st_put HS2.out.st, ?_, ?_, ?_, by have := HLO.out; omega, ?_⟩), (fun hh => by rw [E.out] at hh; cases hh)⟩
    · have := HLO.out
      repeat (refine Below.setCell ?_ (by simp; omega) _)
      exact HB2.out
    · repeat (refine OwnH.set_lo ?_ (by simp) _)
      exact HN2.out
    · repeat (refine OwO.set_lo ?_ (by simp) _)
      exact HO2.out
    · intro j
      rw [World.frozen?_setCell, World.frozen?_setCell, World.frozen?_setCell, World.frozen?_setCell]
      exact HF2.out j
    · have := HS2.out.lt
      simp
      exact this
end Go.Proofs.YtieijfefnedifaaGreatDoor

/- Stores into a heap of one's own: a span's bits, an arena's word. Plain, and small. -/
namespace Go.Proofs.YtieijfefnedifaaGreatDoor
open Go.RowKit
set_option linter.unusedVariables false
set_option linter.unusedSimpArgs false

theorem own_block {w : World} {base n : Nat} {e : TypeId} {size : Nat} {v : Value} {xs : List Value} (h : w.ownsRow base e size v n xs) {k : Nat} (hk : v.ownBlock = some k) : ∃ cur, w.heap[k]? = some (.cells cur e) ∧ k < w.heap.size := by
  rcases h.2 with ⟨rfl, _⟩ | ⟨g, cap, cur, rfl, hb, hg, _⟩
  · simp [Value.ownBlock] at hk
  · simp [Value.ownBlock] at hk
    subst hk
    exact ⟨cur, hg, (Array.getElem?_eq_some_iff.1 hg).1⟩
theorem own_setCell {w : World} {base n g cap k size : Nat} {e : TypeId} {xs : List Value} (h : w.ownsRow base e size (.slice (some ⟨g, 0, none⟩) n cap) n xs) (u : Value) :
    (w.setCell ⟨g, k, none⟩ u).ownsRow base e size (.slice (some ⟨g, 0, none⟩) n cap) n (xs.set k u) := by
  rcases h.2 with ⟨h', _⟩ | ⟨g', cap', cur, h', hb, hg, hnc, hcm, hcs, htake⟩
  · simp at h'
  · simp only [Value.slice.injEq, Option.some.injEq, Addr.mk.injEq, and_true, true_and] at h'
    obtain ⟨rfl, rfl⟩ := h'
    refine ⟨by rw [List.length_set]; exact h.1, .inr ⟨g, cap, cur.setIfInBounds k u, rfl, hb, heap_setCell_same w g k cur e u hg, hnc, hcm, by simpa using hcs, ?_⟩⟩
    rw [← htake, Array.toList_setIfInBounds, List.take_set]
theorem own_cell {w : World} {base n g cap k size : Nat} {e : TypeId} {xs : List Value} {u : Value} (h : w.ownsRow base e size (.slice (some ⟨g, 0, none⟩) n cap) n xs) (hk : xs[k]? = some u) :
    w.cell? ⟨g, k, none⟩ = some u ∧ w.frozen? ⟨g, k, none⟩ = false := by
  refine ⟨?_, ?_⟩
  · have := h.cells (g := g) rfl k u hk
    rwa [addOff, Nat.zero_add] at this
  · obtain ⟨cur, hh, _⟩ := own_block h (k := g) rfl
    simp [World.frozen?, hh]
theorem own_tag {w : World} {base base' n n' : Nat} {e e' : TypeId} {size size' : Nat} {v u : Value} {xs ys : List Value} (h : w.ownsRow base e size v n xs) (h' : w.ownsRow base' e' size' u n' ys) (hne : e ≠ e') {k : Nat} (hk : v.ownBlock = some k) : u.ownBlock ≠ some k := by
  intro hu
  obtain ⟨c1, h1, _⟩ := own_block h hk
  obtain ⟨c2, h2, _⟩ := own_block h' hu
  rw [h1] at h2
  simp only [Option.some.injEq, Obj.cells.injEq] at h2
  exact hne h2.2.1
/-! ### A store into a row of spans -/
theorem fl_set2 {vs : List SpanV} {i j : Nat} {x y : SpanV} {a b : Value} (hx : vs[i]? = some x) (hj : j + 1 < 8) (hy : y.cs = (x.cs.set j a).set (j + 1) b) : ((fl vs).set (i * 8 + j) a).set (i * 8 + j + 1) b = fl (vs.set i y) := by
  obtain ⟨hi, e⟩ := List.getElem?_eq_some_iff.1 hx
  have e0 : fl vs = (fl vs).take (i * 8) ++ x.cs ++ (fl vs).drop (i * 8 + 8) := by
    have h := fl_set vs i hi x
    rw [← e, List.set_getElem_self] at h
    rw [← e]
    exact h.symm
  have e1 := (fl_set vs i hi y).symm
  have hl : ((fl vs).take (i * 8)).length = i * 8 := by rw [List.length_take, fl_len]; omega
  rw [e1]
  generalize (fl vs).take (i * 8) = P at *
  generalize (fl vs).drop (i * 8 + 8) = D at *
  rw [e0, List.append_assoc, List.append_assoc, hy]
  have hc : x.cs.length = 8 := x.cs_len
  rw [List.set_append, if_neg (by omega), List.set_append, if_neg (by omega), hl, show i * 8 + j - i * 8 = j by omega, show i * 8 + j + 1 - i * 8 = j + 1 by omega]
  rw [List.set_append, if_pos (by omega), List.set_append, if_pos (by rw [List.length_set]; omega)]
theorem OwS.set2 {w : World} {base g n cap i j : Nat} {vs : List SpanV} {x y : SpanV} {a b : Value} (h : OwS w base (.slice (some ⟨g, 0, none⟩) n cap) vs) (hn : vs.length = n) (hx : vs[i]? = some x) (hj : j + 1 < 8) (hy : y.cs = (x.cs.set j a).set (j + 1) b) :
    OwS ((w.setCell ⟨g, i * 8 + j, none⟩ a).setCell ⟨g, i * 8 + j + 1, none⟩ b) base (.slice (some ⟨g, 0, none⟩) n cap) (vs.set i y) := by
  subst hn
  unfold OwS at h ⊢
  rw [List.length_set, ← fl_set2 hx hj hy]
  exact own_setCell (own_setCell h _) _
theorem OwU.set_tag {w : World} {base base' g n cap : Nat} {v : Value} {l : List Int} {vs : List SpanV} (h : OwU w base v l) (hs : OwS w base' (.slice (some ⟨g, 0, none⟩) n cap) vs) (o : Nat) (u : Value) : OwU (w.setCell ⟨g, o, none⟩ u) base v l :=
  ownsRow_setCell_other h (fun e => own_tag hs h (by decide) (k := g) rfl e) u
theorem OwO.set_tag {w : World} {base base' g n cap : Nat} {v : Value} {l : List Obj} {vs : List SpanV} (h : OwO w base v l) (hs : OwS w base' (.slice (some ⟨g, 0, none⟩) n cap) vs) (o : Nat) (u : Value) : OwO (w.setCell ⟨g, o, none⟩ u) base v l :=
  ownsRow_setCell_other h (fun e => own_tag hs h (by decide) (k := g) rfl e) u
theorem OwN.set_tag {w : World} {base base' g n cap : Nat} {x : SpanV} {s : SpanB} {vs : List SpanV} (h : OwN w base x s) (hs : OwS w base' (.slice (some ⟨g, 0, none⟩) n cap) vs) (o : Nat) (u : Value) : OwN (w.setCell ⟨g, o, none⟩ u) base x s :=
  ⟨h.first, h.pages, h.size, h.sw, h.an, h.am, h.ac, h.al.set_tag hs o u, h.mn, h.mm, h.mc, h.ma.set_tag hs o u⟩
/-- The i-th span has other bits: they were stored in its row. -/
theorem Mine.bits {w w1 : World} {base b c g i j : Nat} {v : HeapV} {h : HeapB} {os : List Obj} {A : Option Addr} {x y : SpanV} {s t : SpanB} {a d : Value} (m : Mine w base b v h os A c) (hb : Below w.heap.size w w1)
    (hg : v.sA = some ⟨g, 0, none⟩) (hx : v.vs[i]? = some x) (hs : h.sp[i]? = some s) (hj : j + 1 < 8) (hy : y.cs = (x.cs.set j a).set (j + 1) d) (hN : OwN w1 (b + 1) y t)
    (hal : ∀ k, (Value.slice v.aA v.aN v.aC).ownBlock = some k → (Value.slice y.al.A y.al.m y.al.c).ownBlock ≠ some k ∧ (Value.slice y.ma.A y.ma.m y.ma.c).ownBlock ≠ some k) :
    Mine ((w1.setCell ⟨g, i * 8 + j, none⟩ a).setCell ⟨g, i * 8 + j + 1, none⟩ d) base b { v with vs := v.vs.set i y } { h with sp := h.sp.set i t } os A c := by
  have m1 := m.below hb
  have ho : OwS w1 (b + 1) (.slice (some ⟨g, 0, none⟩) v.sN v.sC) v.vs := by rw [← hg]; exact m1.own.sp
  have hlen : v.vs.length = v.sN := by rw [m1.own.al.1, m1.own.sn]
  have hgb : b + 1 ≤ g := (World.ownsRow.lt ho g rfl).1
  have ho1 : OwS (w1.setCell ⟨g, i * 8 + j, none⟩ a) (b + 1) (.slice (some ⟨g, 0, none⟩) v.sN v.sC) v.vs ∨ True := Or.inr trivial
  have tagU : ∀ {l : List Int} {v' : Value}, OwU w1 (b + 1) v' l → OwU ((w1.setCell ⟨g, i * 8 + j, none⟩ a).setCell ⟨g, i * 8 + j + 1, none⟩ d) (b + 1) v' l := fun h' => by
    have hne : _ ≠ some g := own_tag ho h' (by decide) (k := g) rfl
    exact ownsRow_setCell_other (ownsRow_setCell_other h' hne _) hne _
  have tagN : ∀ {x' : SpanV} {s' : SpanB}, OwN w1 (b + 1) x' s' → OwN ((w1.setCell ⟨g, i * 8 + j, none⟩ a).setCell ⟨g, i * 8 + j + 1, none⟩ d) (b + 1) x' s' := fun n =>
    ⟨n.first, n.pages, n.size, n.sw, n.an, n.am, n.ac, tagU n.al, n.mn, n.mm, n.mc, tagU n.ma⟩
  have far : ∀ o, ((w1.setCell ⟨g, i * 8 + j, none⟩ a).setCell ⟨g, i * 8 + j + 1, none⟩ d).cell? ⟨b, o, none⟩ = w1.cell? ⟨b, o, none⟩ := fun o => by
    rw [World.cell?_setCell_far _ _ _ _ (by simp; omega), World.cell?_setCell_far _ _ _ _ (by simp; omega)]
  refine ⟨⟨(far 0).trans m1.st.c0, (far 1).trans m1.st.c1, (far 2).trans m1.st.c2, (far 3).trans m1.st.c3, (far 4).trans m1.st.c4⟩, ?_, ?_, ?_, m1.lo, ?_⟩
  · refine ⟨m1.own.n, m1.own.c, tagU m1.own.ar, m1.own.un, m1.own.um, m1.own.uc, tagU m1.own.us, ?_, m1.own.sc, ?_, ?_, ?_⟩
    · rw [List.length_set]; exact m1.own.sn
    · show OwS _ _ (.slice v.sA v.sN v.sC) _
      rw [hg]
      exact ho.set2 hlen hx hj hy
    · refine ⟨by rw [List.length_set, List.length_set]; exact m1.own.al.1, fun q x' s' hx' hs' => ?_⟩
      by_cases e : q = i
      · subst e
        rw [List.getElem?_set_self (List.getElem?_eq_some_iff.1 hx).1] at hx'
        rw [List.getElem?_set_self (List.getElem?_eq_some_iff.1 hs).1] at hs'
        cases hx'
        cases hs'
        exact tagN hN
      · rw [List.getElem?_set_ne (by omega)] at hx'
        rw [List.getElem?_set_ne (by omega)] at hs'
        exact tagN (m1.own.al.2 q x' s' hx' hs')
    · intro k hk
      obtain ⟨h1, h2⟩ := m1.own.ap k hk
      refine ⟨h1, fun z hz => ?_⟩
      rcases List.mem_or_eq_of_mem_set hz with hz | rfl
      · exact h2 z hz
      · exact hal k hk
  · have hne : (Value.slice A os.length c).ownBlock ≠ some g := own_tag ho m1.ob (by decide) (k := g) rfl
    exact ownsRow_setCell_other (ownsRow_setCell_other m1.ob hne _) hne _
  · intro q
    rw [World.frozen?_setCell, World.frozen?_setCell]
    exact m1.fr q
  · have := m1.lt
    simp
    exact this
/-- The arena has another word. -/
theorem Mine.word {w w1 : World} {base b c g k : Nat} {v : HeapV} {h : HeapB} {os : List Obj} {A : Option Addr} {x : Int} (m : Mine w base b v h os A c) (hb : Below w.heap.size w w1) (hg : v.aA = some ⟨g, 0, none⟩) :
    Mine (w1.setCell ⟨g, k, none⟩ (.int .u64 x)) base b v { h with ar := h.ar.set k x } os A c := by
  have m1 := m.below hb
  have hn := m1.own.n
  have ho : OwU w1 (b + 1) (.slice (some ⟨g, 0, none⟩) v.aN v.aC) h.ar := by rw [← hg]; exact m1.own.ar
  have hgb : b + 1 ≤ g := (World.ownsRow.lt ho g rfl).1
  have hap := m1.own.ap g (by rw [hg]; rfl)
  have far : ∀ o, (w1.setCell ⟨g, k, none⟩ (.int .u64 x)).cell? ⟨b, o, none⟩ = w1.cell? ⟨b, o, none⟩ := fun o => by
    rw [World.cell?_setCell_far _ _ _ _ (by simp; omega)]
  have oth : ∀ {l : List Int} {v' : Value}, OwU w1 (b + 1) v' l → v'.ownBlock ≠ some g → OwU (w1.setCell ⟨g, k, none⟩ (.int .u64 x)) (b + 1) v' l := fun h' hne => ownsRow_setCell_other h' hne _
  refine ⟨⟨(far 0).trans m1.st.c0, (far 1).trans m1.st.c1, (far 2).trans m1.st.c2, (far 3).trans m1.st.c3, (far 4).trans m1.st.c4⟩, ?_, ?_, ?_, m1.lo, ?_⟩
  · refine ⟨by rw [List.length_set]; exact hn, m1.own.c, ?_, m1.own.un, m1.own.um, m1.own.uc, oth m1.own.us hap.1, m1.own.sn, m1.own.sc, ?_, ⟨m1.own.al.1, fun q x' s' hx' hs' => ?_⟩, m1.own.ap⟩
    · show OwU _ _ (.slice v.aA v.aN v.aC) _
      rw [hg]
      have e : us (h.ar.set k x) = (us h.ar).set k (.int .u64 x) := by simp [us, List.map_set]
      unfold OwU at ho ⊢
      rw [List.length_set, e]
      rw [hn] at ho ⊢
      exact own_setCell ho _
    · have hne : (Value.slice v.sA v.sN v.sC).ownBlock ≠ some g := own_tag ho m1.own.sp (by decide) (k := g) rfl
      exact ownsRow_setCell_other m1.own.sp hne _
    · have n := m1.own.al.2 q x' s' hx' hs'
      have h2 := hap.2 x' (List.mem_of_getElem? hx')
      exact ⟨n.first, n.pages, n.size, n.sw, n.an, n.am, n.ac, oth n.al h2.1, n.mn, n.mm, n.mc, oth n.ma h2.2⟩
  · have hne : (Value.slice A os.length c).ownBlock ≠ some g := own_tag ho m1.ob (by decide) (k := g) rfl
    exact ownsRow_setCell_other m1.ob hne _
  · intro q
    rw [World.frozen?_setCell]
    exact m1.fr q
  · have := m1.lt
    simp
    exact this
end Go.Proofs.YtieijfefnedifaaGreatDoor
