/- The walk of mend. -/
import Derived.Test.YtieijfefnedifaaGreatDoorMVR
namespace Go.Proofs.YtieijfefnedifaaGreatDoor
open Go.RowKit
set_option linter.unusedVariables false
set_option linter.unusedSimpArgs false

def dropF (os : List VObj) (h : HeapB) (a : Nat) : HeapB := match os.find? (fun o => o.a == a) with
  | some o => (match h.sp[o.i]? with | some s => dropO o s h | none => h)
  | none => h
def mendF (own : BitB) (os : List VObj) (h : HeapB) (f : Flt) : HeapB :=
  if f.k = 3 then { h with us := putB h.us f.a (bitP own f.a) } else if f.k = 4 then dropF os h f.a else if f.k = 5 ∨ f.k = 6 then { h with ar := h.ar.set f.a 0 } else h
structure MI (L : Nat) (n : Int) (S : Nat) (h : HeapB) : Prop where
  len : h.ar.length = L
  wa : Words h.ar
  n : h.us.n = n
  ok : okB h.us = true
  wu : Words h.us.w
  sl : h.sp.length = S
  sp : ∀ s ∈ h.sp, okB s.al = true ∧ Words s.al.w ∧ okB s.ma = true ∧ Words s.ma.w ∧ (-9223372036854775808 ≤ s.first ∧ s.first ≤ 9223372036854775807) ∧ (-9223372036854775808 ≤ s.pages ∧ s.pages ≤ 9223372036854775807) ∧ (-9223372036854775808 ≤ s.size ∧ s.size ≤ 9223372036854775807)
theorem MI.wf {L S : Nat} {n : Int} {h : HeapB} (m : MI L n S h) : WfH h := by
  have h1 := okB_parts m.ok
  refine ⟨m.wa, by omega, by omega, m.wu, fun s hs => ?_⟩
  obtain ⟨a, b, c, d, e, f, g⟩ := m.sp s hs
  have h2 := okB_parts a
  have h3 := okB_parts c
  exact ⟨⟨by omega, by omega, b⟩, ⟨by omega, by omega, d⟩, e, f, g⟩
structure ObOk (L S : Nat) (o : VObj) : Prop where
  i : o.i < S
  room : o.a + o.r ≤ L
  pos : 0 < o.r
def FOk (L : Nat) (n : Int) (os : List VObj) (f : Flt) : Prop := (f.k = 3 ∧ (f.a : Int) < n) ∨ (f.k = 4 ∧ ∃ o ∈ os, o.a = f.a) ∨ (f.k = 5 ∧ f.a < L) ∨ (f.k = 6 ∧ f.a < L)
theorem Words.set {l : List Int} (h : Words l) (k : Nat) (x : Int) (hx : 0 ≤ x ∧ x < 18446744073709551616) : Words (l.set k x) := by
  intro y hy
  rcases List.mem_or_eq_of_mem_set hy with hy | rfl
  · exact h y hy
  · exact hx
theorem Words.clear {l : List Int} (h : Words l) (k m : Nat) : Words (clearL l k m) := by
  intro y hy
  unfold clearL at hy
  simp only [List.mem_append] at hy
  rcases hy with (hy | hy) | hy
  · exact h y (List.mem_of_mem_take hy)
  · rw [(List.mem_replicate.1 hy).2]; omega
  · exact h y (List.mem_of_mem_drop hy)
theorem dropF_of {os : List VObj} {h : HeapB} {o : VObj} {s : SpanB} (hf : os.find? (fun p => p.a == o.a) = some o) (hs : h.sp[o.i]? = some s) : dropF os h o.a = dropO o s h := by
  unfold dropF
  rw [hf]
  simp only
  rw [hs]
theorem find_idx {os : List VObj} {a : Nat} (h : ∃ o ∈ os, o.a = a) : ∃ (o : VObj) (ix : Nat), os[ix]? = some o ∧ o.a = a ∧ idxA os a = (ix : Int) ∧ os.find? (fun p => p.a == a) = some o := by
  obtain ⟨o, ho, ha⟩ := h
  cases hf : os.find? (fun p => p.a == a) with
  | none =>
    rw [List.find?_eq_none] at hf
    exact absurd (by simpa using ha) (hf o ho)
  | some p =>
    have hpa : p.a = a := by simpa using List.find?_some hf
    rw [List.find?_eq_some_iff_getElem] at hf
    obtain ⟨_, ix, hix, e, hno⟩ := hf
    refine ⟨p, ix, by rw [← e]; exact List.getElem?_eq_getElem hix, hpa, ?_, rfl⟩
    refine idxA_some (s := p) (by rw [← e]; exact List.getElem?_eq_getElem hix) hpa (fun j hj s hs => ?_)
    have := hno j hj
    obtain ⟨h1, h2⟩ := List.getElem?_eq_some_iff.1 hs
    rw [h2] at this
    simpa using this
theorem MI.step {L S : Nat} {n : Int} {h : HeapB} {own : BitB} {os : List VObj} {f : Flt} (m : MI L n S h) (hf : FOk L n os f) (ho : ∀ o ∈ os, ObOk L S o) : MI L n S (mendF own os h f) := by
  rcases hf with ⟨hk, ha⟩ | ⟨hk, ha⟩ | ⟨hk, ha⟩ | ⟨hk, ha⟩
  · have e : mendF own os h f = { h with us := putB h.us f.a (bitP own f.a) } := by unfold mendF; rw [if_pos hk]
    rw [e]
    obtain ⟨a, b, c⟩ := ok_put m.ok m.wu f.a (bitP own f.a)
    exact ⟨m.len, m.wa, by rw [← m.n]; exact b, a, c, m.sl, m.sp⟩
  · have e : mendF own os h f = dropF os h f.a := by unfold mendF; rw [if_neg (by omega), if_pos hk]
    rw [e]
    obtain ⟨o, ix, h1, h2, h3, h4⟩ := find_idx ha
    have hob := ho o (List.mem_of_getElem? h1)
    have hs : h.sp[o.i]? = some (h.sp[o.i]'(by rw [m.sl]; exact hob.i)) := List.getElem?_eq_getElem _
    generalize (h.sp[o.i]'_) = s at hs
    rw [← h2, dropF_of (by rw [h2]; exact h4) hs]
    obtain ⟨p1, p2, p3, p4, p5⟩ := m.sp s (List.mem_of_getElem? hs)
    obtain ⟨a, b, c⟩ := ok_put p1 p2 o.k false
    obtain ⟨a', b', c'⟩ := ok_put p3 p4 o.k false
    refine ⟨by show (clearL _ _ _).length = _; rw [clearL_len (by rw [m.len]; exact hob.room)]; exact m.len, m.wa.clear _ _, m.n, m.ok, m.wu, by show (List.set _ _ _).length = _; rw [List.length_set]; exact m.sl, fun t ht => ?_⟩
    rcases List.mem_or_eq_of_mem_set ht with ht | rfl
    · exact m.sp t ht
    · exact ⟨a, c, a', c', p5⟩
  · have e : mendF own os h f = { h with ar := h.ar.set f.a 0 } := by unfold mendF; rw [if_neg (by omega), if_neg (by omega), if_pos (by omega)]
    rw [e]
    exact ⟨by show (List.set _ _ _).length = _; rw [List.length_set]; exact m.len, m.wa.set _ _ (by omega), m.n, m.ok, m.wu, m.sl, m.sp⟩
  · have e : mendF own os h f = { h with ar := h.ar.set f.a 0 } := by unfold mendF; rw [if_neg (by omega), if_neg (by omega), if_pos (by omega)]
    rw [e]
    exact ⟨by show (List.set _ _ _).length = _; rw [List.length_set]; exact m.len, m.wa.set _ _ (by omega), m.n, m.ok, m.wu, m.sl, m.sp⟩
theorem MI.fold {L S : Nat} {n : Int} {own : BitB} {os : List VObj} (ho : ∀ o ∈ os, ObOk L S o) : ∀ (fs : List Flt) (h : HeapB), MI L n S h → (∀ f ∈ fs, FOk L n os f) → MI L n S (fs.foldl (mendF own os) h) := by
  intro fs
  induction fs with
  | nil => intro h m _; exact m
  | cons f t ih =>
    intro h m hf
    exact ih _ (m.step (hf f (List.mem_cons_self ..)) ho) (fun g hg => hf g (List.mem_cons_of_mem _ hg))
/-! ### The pages' bits are put -/
theorem MS.putUs {w0 w w1 : World} {b fc oc : Nat} {v : HeapV} {h : HeapB} {fs : List Flt} {FA OA : Option Addr} {os : List VObj} {bv : BitV} {bb : BitB} (m : MS w0 w b v h fs FA fc os OA oc) (hb : Below w.heap.size w w1)
    (hn : bv.n = bb.n) (hm : bv.m = bb.w.length) (hc : bv.m ≤ bv.c) (ho : OwU w1 w.heap.size (.slice bv.A bv.m bv.c) bb.w) :
    MS w0 ((w1.setCell ⟨b, 1, none⟩ (.int .i64 bv.n)).setCell ⟨b, 2, none⟩ (.slice bv.A bv.m bv.c)) b { v with us := bv } { h with us := bb } fs FA fc os OA oc := by
  have m1 := m.later hb
  have hlo := m.s.lo.size
  have hlt := m.s.lt
  have hne : (Value.slice bv.A bv.m bv.c).ownBlock ≠ some b := fun e => by have := (World.ownsRow.lt ho b e).1; omega
  have n5 : ∀ i j : Nat, i ≠ j → (⟨b, i, none⟩ : Addr) ≠ ⟨b, j, none⟩ := fun i j h e => h (congrArg Addr.off e)
  have far : ∀ (j : Nat) (u : Value), j ≠ 1 → j ≠ 2 → w1.cell? ⟨b, j, none⟩ = some u → ((w1.setCell ⟨b, 1, none⟩ (.int .i64 bv.n)).setCell ⟨b, 2, none⟩ (.slice bv.A bv.m bv.c)).cell? ⟨b, j, none⟩ = some u := fun j u h1 h2 hc => by
    rw [World.cell?_setCell_other (h := n5 2 j (fun e => h2 e.symm)), World.cell?_setCell_other (h := n5 1 j (fun e => h1 e.symm))]
    exact hc
  have o1 := (m1.own.set_ne m.nb 1 (.int .i64 bv.n)).set_ne m.nb 2 (.slice bv.A bv.m bv.c)
  have hs1 := m1.s
  refine ⟨⟨⟨far 0 _ (by omega) (by omega) hs1.st.c0, ?_, ?_, far 3 _ (by omega) (by omega) hs1.st.c3, far 4 _ (by omega) (by omega) hs1.st.c4, far 5 _ (by omega) (by omega) hs1.st.c5⟩, ?_, ?_, fun j => ?_, ?_, ?_, hs1.hb⟩, ?_, ?_⟩
  · rw [World.cell?_setCell_other (h := n5 2 1 (by omega))]
    exact World.cell?_setCell_same _ _ _ hs1.st.c1
  · exact World.cell?_setCell_same _ _ _ ((World.cell?_setCell_other (h := n5 1 2 (by omega)) ..).trans hs1.st.c2)
  · exact (hs1.fo.set_lo (by simp) _).set_lo (by simp) _
  · exact (hs1.oo.set_lo (by simp) _).set_lo (by simp) _
  · rw [World.frozen?_setCell, World.frozen?_setCell]
    exact hs1.fr j
  · exact (hs1.lo.setCell (p := ⟨b, 1, none⟩) hs1.hb _).setCell (p := ⟨b, 2, none⟩) hs1.hb _
  · have := hs1.lt
    simp
    exact this
  · refine ⟨o1.n, o1.c, o1.ar, hn, hm, hc, ?_, o1.sn, o1.sc, o1.sp, o1.al, fun k hk => ⟨fun e => ?_, (o1.ap k hk).2⟩⟩
    · have h2 : OwU w1 w0.heap.size (.slice bv.A bv.m bv.c) bb.w := ho.mono hlo
      exact ownsRow_setCell_other (ownsRow_setCell_other h2 hne _) hne _
    · have h3 := (World.ownsRow.lt m.own.ar k hk).2
      have h4 := (World.ownsRow.lt ho k e).1
      omega
  · exact ⟨m.nb.ar, hne, m.nb.sp, m.nb.al⟩
end Go.Proofs.YtieijfefnedifaaGreatDoor

/- The walk of mend. -/
namespace Go.Proofs.YtieijfefnedifaaGreatDoor
open Go.RowKit
set_option linter.unusedVariables false
set_option linter.unusedSimpArgs false

structure MdS (w0 wx : World) (b : Nat) (v : HeapV) (h : HeapB) (fs : List Flt) (FA : Option Addr) (fc : Nat) (os : List VObj) (OA : Option Addr) (oc p : Nat) (ov : BitV) (own : BitB) (aA sA : Option Addr) : Prop where
  m : MS w0 wx b v h fs FA fc os OA oc
  p0 : wx.cell? ⟨p, 0, none⟩ = some (.int .i64 ov.n)
  p1 : wx.cell? ⟨p, 1, none⟩ = some (.slice ov.A ov.m ov.c)
  ow : OwU wx w0.heap.size (.slice ov.A ov.m ov.c) own.w
  a : v.aA = aA
  sp : v.sA = sA
theorem MdS.later {w0 wx w1 : World} {b fc oc p : Nat} {v : HeapV} {h : HeapB} {fs : List Flt} {FA OA aA sA : Option Addr} {os : List VObj} {ov : BitV} {own : BitB} (d : MdS w0 wx b v h fs FA fc os OA oc p ov own aA sA) (hb : Below wx.heap.size wx w1) : MdS w0 w1 b v h fs FA fc os OA oc p ov own aA sA :=
  ⟨d.m.later hb, cell_later hb d.p0, cell_later hb d.p1, d.ow.below hb, d.a, d.sp⟩
/-- The owned bits' blocks are none of the heap's, nor the sight's. -/
structure Far (p b ga : Nat) (ov : BitV) (sA : Option Addr) : Prop where
  pb : p ≠ b
  pa : p ≠ ga
  ps : ∀ g, sA = some ⟨g, 0, none⟩ → p ≠ g
  ob : (Value.slice ov.A ov.m ov.c).ownBlock ≠ some b
  oa : (Value.slice ov.A ov.m ov.c).ownBlock ≠ some ga
  os : ∀ g, sA = some ⟨g, 0, none⟩ → (Value.slice ov.A ov.m ov.c).ownBlock ≠ some g
theorem MdS.putUs {w0 wx w1 : World} {b fc oc p ga : Nat} {v : HeapV} {h : HeapB} {fs : List Flt} {FA OA aA sA : Option Addr} {os : List VObj} {ov bv : BitV} {own bb : BitB} (d : MdS w0 wx b v h fs FA fc os OA oc p ov own aA sA) (f : Far p b ga ov sA) (hb : Below wx.heap.size wx w1)
    (hn : bv.n = bb.n) (hm : bv.m = bb.w.length) (hc : bv.m ≤ bv.c) (ho : OwU w1 wx.heap.size (.slice bv.A bv.m bv.c) bb.w) :
    MdS w0 ((w1.setCell ⟨b, 1, none⟩ (.int .i64 bv.n)).setCell ⟨b, 2, none⟩ (.slice bv.A bv.m bv.c)) b { v with us := bv } { h with us := bb } fs FA fc os OA oc p ov own aA sA := by
  have hpb := f.pb
  refine ⟨d.m.putUs hb hn hm hc ho, ?_, ?_, ?_, d.a, d.sp⟩
  · rw [World.cell?_setCell_far _ _ _ _ (by simpa using fun e => hpb e.symm), World.cell?_setCell_far _ _ _ _ (by simpa using fun e => hpb e.symm)]
    exact cell_later hb d.p0
  · rw [World.cell?_setCell_far _ _ _ _ (by simpa using fun e => hpb e.symm), World.cell?_setCell_far _ _ _ _ (by simpa using fun e => hpb e.symm)]
    exact cell_later hb d.p1
  · exact ownsRow_setCell_other (ownsRow_setCell_other (d.ow.below hb) f.ob _) f.ob _
theorem MdS.word {w0 wx : World} {b fc oc p ga k : Nat} {v : HeapV} {h : HeapB} {fs : List Flt} {FA OA sA : Option Addr} {os : List VObj} {ov : BitV} {own : BitB} {x : Int} (d : MdS w0 wx b v h fs FA fc os OA oc p ov own (some ⟨ga, 0, none⟩) sA) (f : Far p b ga ov sA) :
    MdS w0 (wx.setCell ⟨ga, k, none⟩ (.int .u64 x)) b v { h with ar := h.ar.set k x } fs FA fc os OA oc p ov own (some ⟨ga, 0, none⟩) sA := by
  have hpa := f.pa
  have hn := d.m.own.n
  refine ⟨d.m.arena (l := h.ar.set k x) d.a (gset (World.grownBy.refl _ _) _ _) (by rw [List.length_set]) ?_, ?_, ?_, ownsRow_setCell_other d.ow f.oa _, d.a, d.sp⟩
  · have ho := d.m.own.ar
    rw [d.a] at ho ⊢
    have e : us (h.ar.set k x) = (us h.ar).set k (.int .u64 x) := by simp [us, List.map_set]
    unfold OwU at ho ⊢
    rw [List.length_set, e]
    rw [hn] at ho ⊢
    exact own_setCell ho _
  · rw [World.cell?_setCell_far _ _ _ _ (by simpa using fun e => hpa e.symm)]
    exact d.p0
  · rw [World.cell?_setCell_far _ _ _ _ (by simpa using fun e => hpa e.symm)]
    exact d.p1
theorem MdS.dropped {w0 wx w1 : World} {b fc oc p ga g : Nat} {v v1 : HeapV} {h h1 : HeapB} {fs : List Flt} {FA OA : Option Addr} {os : List VObj} {ov : BitV} {own : BitB} (d : MdS w0 wx b v h fs FA fc os OA oc p ov own (some ⟨ga, 0, none⟩) (some ⟨g, 0, none⟩)) (f : Far p b ga ov (some ⟨g, 0, none⟩))
    (m : MS w0 w1 b v1 h1 fs FA fc os OA oc) (ea : v1.aA = some ⟨ga, 0, none⟩) (es : v1.sA = some ⟨g, 0, none⟩) (k : Kept wx w1 g ga) : MdS w0 w1 b v1 h1 fs FA fc os OA oc p ov own (some ⟨ga, 0, none⟩) (some ⟨g, 0, none⟩) := by
  have hp := k.block p (World.block_lt_of_cell? _ _ d.p0) (f.ps g rfl) f.pa
  have c : ∀ o, w1.cell? ⟨p, o, none⟩ = wx.cell? ⟨p, o, none⟩ := fun o => World.cell?_of_block (w := wx) hp
  refine ⟨m, (c 0).trans d.p0, (c 1).trans d.p1, ?_, ea, es⟩
  refine ⟨d.ow.1, ?_⟩
  rcases d.ow.2 with h' | ⟨r, cap, cur, hv, hbg, hh, rest⟩
  · exact Or.inl h'
  · refine Or.inr ⟨r, cap, cur, hv, hbg, ?_, rest⟩
    have hk : (Value.slice ov.A ov.m ov.c).ownBlock = some r := by rw [hv]; rfl
    rw [k.block r ((Array.getElem?_eq_some_iff.1 hh).1) (fun e => f.os g rfl (by rw [hk, e])) (fun e => f.oa (by rw [hk, e]))]
    exact hh
def MendP (w0 : World) (b : Nat) (h : HeapB) (fs : List Flt) (FA : Option Addr) (fc : Nat) (os : List VObj) (OA : Option Addr) (oc : Nat) (e : Ending) (w' : World) : Prop :=
  e = .returned (.tuple #[]) ∧ ∃ v', MS w0 w' b v' h fs FA fc os OA oc
theorem mend_next {own : BitB} {os : List VObj} {h : HeapB} {fs : List Flt} {k : Nat} {f : Flt} (hf : fs[k]? = some f) : (fs.take (k + 1)).foldl (mendF own os) h = mendF own os ((fs.take k).foldl (mendF own os) h) f := by
  rw [List.take_add_one, hf, List.foldl_append]
  rfl
set_option maxRecDepth 100000 in
set_option maxHeartbeats 16000000 in
theorem mend20 (w0 w W : World) (b fc oc : Nat) (v : HeapV) (h : HeapB) (fs : List Flt) (FA OA : Option Addr) (os : List VObj) (m : MS w0 w b v h fs FA fc os OA oc) (s1 : Sgt W w b v fs FA fc os OA oc) (hr1 : RdH W v h)
    (mi : MI h.ar.length h.us.n h.sp.length h) (hfk : ∀ f ∈ fs, FOk h.ar.length h.us.n os f) (hob : ∀ o ∈ os, ObOk h.ar.length h.sp.length o) (hfew : os.length ≤ 100000) (har : h.ar.length ≤ 16384) (hpos : 0 < h.ar.length) (hfl : fs.length ≤ 1000000) :
    Calls Tryz.prog 20 #[.pointer (some ⟨b, 0, none⟩)] w (MendP w0 b (fs.foldl (mendF (wantTo (want0 h.us.n) h.sp) os) h) fs FA fc os OA oc) := by
  have hup := okB_parts mi.ok
  have hw0 := ok_want0 (n := h.us.n) hup.1 hup.2.1
  have hww := ok_want h.sp _ hw0.1 hw0.2.2
  rw [hw0.2.1] at hww
  have CO := Lib.hid (owned49 W w b fc oc v h fs FA OA os s1 hr1 ⟨hup.1, hup.2.1⟩)
  have HM := Lib.hid m
  have HMI0 := Lib.hid mi
  have HFK := Lib.hid hfk
  have HOB := Lib.hid hob
  have HAR : Hid (h.ar.length ≤ 16384 ∧ os.length ≤ 100000 ∧ 0 ≤ h.us.n ∧ h.us.n ≤ 4096) := ⟨har, hfew, hup.1, hup.2.1⟩
  obtain ⟨own, hown⟩ : ∃ own, own = wantTo (want0 h.us.n) h.sp := ⟨_, rfl⟩
  rw [← hown] at CO hww ⊢
  have HOW := Lib.hid hww
  obtain ⟨ga, hga⟩ : ∃ g, v.aA = some ⟨g, 0, none⟩ := by
    have h1 := m.own.ar
    unfold OwU at h1
    rw [show h.ar.length = v.aN from m.own.n.symm] at h1
    exact own_some h1 (by rw [m.own.n]; omega)
  have HGA := Lib.hid hga
  have s4 := m.s.st.c4
  have hb := m.s.lt
  have HLO := Lib.hid m.s.lo.size
  clear m s1 hr1 mi hfk hob hfew har hpos hup hw0 hww hown hga
  go_enter Tryz.func20, Tryz.ntmps20
  go_wp2_with (go_at_call 49; refine CO.out.mono ?_)
  rintro e w5 ⟨⟨n2, A2, m2, c2⟩, rfl, hn2, hm2, hcap2, ho2, hb5⟩
  unfold BitV.v
  simp only at hn2 hm2 hcap2 ho2
  simp only
  have HE : Hid (n2 = own.n ∧ m2 = own.w.length ∧ m2 ≤ c2) := ⟨hn2, hm2, hcap2⟩
  have ba := balloc (Below.refl w5.heap.size w5) (.cells #[.int .i64 n2, .slice A2 m2 c2] 26)
  have HFAR : Hid (Far w5.heap.size b ga ⟨n2, A2, m2, c2⟩ v.sA) := by
    have hz := hb5.size
    have hga2 : ga < w.heap.size := by
      have h1 := HM.out.own.ar
      rw [HGA.out] at h1
      exact (World.ownsRow.lt h1 ga rfl).2
    have hgs : ∀ g, v.sA = some ⟨g, 0, none⟩ → g < w.heap.size := fun g hg => by
      have h1 := HM.out.own.sp
      rw [hg] at h1
      exact (World.ownsRow.lt h1 g rfl).2
    refine ⟨by omega, by omega, fun g hg => by have := hgs g hg; omega, fun e => ?_, fun e => ?_, fun g hg e => ?_⟩
    · have := (World.ownsRow.lt ho2 b e).1; omega
    · have := (World.ownsRow.lt ho2 ga e).1; omega
    · have h1 := (World.ownsRow.lt ho2 g e).1
      have := hgs g hg
      omega
  have HD0 : Hid (MdS w0 (w5.alloc (.cells #[.int .i64 n2, .slice A2 m2 c2] 26)) b v h fs FA fc os OA oc w5.heap.size ⟨n2, A2, m2, c2⟩ own (some ⟨ga, 0, none⟩) v.sA) :=
    ⟨(HM.out.later hb5).later ba, by show _ = _; go_simp, by show _ = _; go_simp, (OwU.mono ho2 HLO.out).below ba, HGA.out, rfl⟩
  clear hn2 hm2 hcap2 ho2 hb5 ba CO HM HGA s4
  go_upto_region 1 with fail
  have s4 := HD0.out.m.s.st.c4
  generalize hsA : v.sA = sA at *
  generalize hWA : w5.alloc (.cells #[.int .i64 n2, .slice A2 m2 c2] 26) = WA at *
  generalize hpp : w5.heap.size = p at *
  clear hWA hpp hsA
  go_wp2
  clear s4
  obtain ⟨wo, hwo⟩ : ∃ wo : World, wo = WA := ⟨_, rfl⟩
  go_loopw [13] (fun i wr => ∃ (k : Nat) (v1 : HeapV), k ≤ fs.length ∧ i = .int .i64 k ∧ Hid (MdS w0 wr b v1 ((fs.take k).foldl (mendF own os) h) fs FA fc os OA oc p ⟨n2, A2, m2, c2⟩ own (some ⟨ga, 0, none⟩) sA)) (fun i _ => fs.length - (intOf i).toNat)
  case atStart => exact ⟨0, v, Nat.zero_le _, rfl, HD0.out⟩
  case round =>
    obtain ⟨k, v1, hkl, rfl, HDk⟩ := hrel
    clear HD0 hwo
    by_cases hlt : k < fs.length
    · have hf : fs[k]? = some fs[k] := List.getElem?_eq_getElem hlt
      generalize fs[k] = f at hf
      have HNX := Lib.hid (mend_next (own := own) (os := os) (h := h) hf)
      have HMI : Hid (MI h.ar.length h.us.n h.sp.length ((fs.take k).foldl (mendF own os) h)) := MI.fold HOB.out _ _ HMI0.out (fun g hg => HFK.out g (List.mem_of_mem_take hg))
      have hfok := HFK.out f (List.mem_of_getElem? hf)
      obtain ⟨bk, oo, hA, hbk, c0, c1⟩ := (HDk.out.m.s.fo.rd rfl).at_ hf
      subst hA
      generalize (fs.take k).foldl (mendF own os) h = hk at *
      clear hf hbk
      rcases hfok with ⟨ek, ha⟩ | ⟨ek, ha⟩ | ⟨ek, ha⟩ | ⟨ek, ha⟩
      · have HNX : Hid ((fs.take (k + 1)).foldl (mendF own os) h = { hk with us := putB hk.us f.a (bitP own f.a) }) := by show _ = _; rw [HNX.out]; unfold mendF; rw [if_pos ek]
        replace c0 : wr.cell? ⟨bk, oo + k * 2, none⟩ = some (.int .u8 3) := by rw [ek] at c0; exact c0
        have hba := balloc (Below.refl wr.heap.size wr) (.cells #[.int .u8 3, .int .u64 (f.a : Int)] 48)
        have hw1 : IntKind.i64.wrap (f.a : Int) = (f.a : Int) := wrap_in (x := (f.a : Int)) (by have := HAR.out; omega)
        have hial : f.a / 64 < own.w.length := by have h1 := okB_parts HOW.out.1; have h2 := HOW.out.2.1; omega
        have CI : Hid (∀ W, Below wr.heap.size wr W → Calls Tryz.prog 51 #[.agg #[.int .i64 n2, .slice A2 m2 c2], .int .i64 (f.a : Int)] W (Ret (.bool (bitP own f.a)) W)) := fun W hW =>
          is50 ⟨n2, A2, m2, c2⟩ own f.a W (RdB.own HE.out.1 HE.out.2.1 HE.out.2.2 (HDk.out.ow.below hW) HOW.out.1 HOW.out.2.2) hial (by have := HAR.out; omega)
        clear ek ha hial
        go_upto_region 7 with fail
        have HDA := Lib.hid (HDk.out.later hba)
        have HBA := Lib.hid hba
        generalize hWA : wr.alloc (.cells #[.int .u8 3, .int .u64 (f.a : Int)] 48) = WA at *
        clear hWA c0 c1 hba
        have HD6 := Lib.hid (HDA.out.later (Below.refl WA.heap.size WA).drew)
        have HB6 := Lib.hid (HBA.out.drew)
        clear HDA HBA HDk
        refine wp_region_held_drew (S := fun W => W.cell? ⟨p, 0, none⟩ = some (.int .i64 n2) ∧ W.cell? ⟨p, 1, none⟩ = some (.slice A2 m2 c2)) (by kernel_rfl) ⟨HD6.out.p0, HD6.out.p1⟩ (fun hHeld => ?_)
        generalize WA.drew = w6 at *
        have CP : Hid (∀ W, Below w6.heap.size w6 W → Calls Tryz.prog 50 #[.agg #[.int .i64 v1.us.n, .slice v1.us.A v1.us.m v1.us.c], .int .i64 (f.a : Int), .bool (bitP own f.a)] W (RetBE (putB hk.us f.a (bitP own f.a)) (putE hk.us f.a) W)) := fun W hW =>
          put44 v1.us hk.us f.a (bitP own f.a) W (RdB.own HD6.out.m.own.un HD6.out.m.own.um HD6.out.m.own.uc (HD6.out.m.own.us.below hW) HMI.out.ok HMI.out.wu)
        generalize putE hk.us f.a = ee at CP
        have a1 := HD6.out.m.s.st.c1
        have a2 := HD6.out.m.s.st.c2
        have al := HD6.out.m.s.lt
        refine wpAnyH_take (i := 0) (oi := _) (v := ?_) rfl (by kernel_rfl) (by kernel_rfl) (by kernel_rfl) (fun _ _ _ h => h) (Or.inl ⟨by rfl, ?_⟩) (by assumption) ?_
        rotate_left
        · intro w hSw
          try dsimp only at hSw
          obtain ⟨t0, t1⟩ := hSw
          go_simp
          all_goals with_reducible rfl
        try simp only [Act.put, List.setIfInBounds_toArray, List.set_cons_zero, List.set_cons_succ, List.getElem_toArray, List.getElem_cons_zero, List.getElem_cons_succ]
        refine wpAnyH_take (i := 1) (oi := _) (v := ?_) rfl (by kernel_rfl) (by kernel_rfl) (by kernel_rfl) (fun _ _ _ h => h) (Or.inl ⟨by rfl, ?_⟩) (by assumption) ?_
        rotate_left
        · intro w hSw
          try dsimp only at hSw
          obtain ⟨t0, t1⟩ := hSw
          go_simp
          all_goals with_reducible rfl
        try simp only [Act.put, List.setIfInBounds_toArray, List.set_cons_zero, List.set_cons_succ, List.getElem_toArray, List.getElem_cons_zero, List.getElem_cons_succ]
        refine wpAnyH_take (i := 2) (oi := _) (v := ?_) rfl (by kernel_rfl) (by kernel_rfl) (by kernel_rfl) (fun _ _ _ h => h) (Or.inl ⟨by rfl, ?_⟩) (by assumption) ?_
        rotate_left
        · intro w hSw
          try dsimp only at hSw
          obtain ⟨t0, t1⟩ := hSw
          go_simp
          all_goals with_reducible rfl
        try simp only [Act.put, List.setIfInBounds_toArray, List.set_cons_zero, List.set_cons_succ, List.getElem_toArray, List.getElem_cons_zero, List.getElem_cons_succ]
        refine wpAnyH_take (i := 3) (oi := _) (v := ?_) rfl (by kernel_rfl) (by kernel_rfl) (by kernel_rfl) (fun _ _ _ h => h) (Or.inl ⟨by rfl, ?_⟩) (by assumption) ?_
        rotate_left
        · intro w hSw
          try dsimp only at hSw
          obtain ⟨t0, t1⟩ := hSw
          go_simp
          all_goals with_reducible rfl
        try simp only [Act.put, List.setIfInBounds_toArray, List.set_cons_zero, List.set_cons_succ, List.getElem_toArray, List.getElem_cons_zero, List.getElem_cons_succ]
        refine wpAnyH_take (i := 4) (oi := _) (v := ?_) rfl (by kernel_rfl) (by kernel_rfl) (by kernel_rfl) (fun _ _ _ h => h) (Or.inl ⟨by rfl, ?_⟩) (by assumption) ?_
        rotate_left
        · intro w hSw
          try dsimp only at hSw
          obtain ⟨t0, t1⟩ := hSw
          go_simp
          all_goals with_reducible rfl
        try simp only [Act.put, List.setIfInBounds_toArray, List.set_cons_zero, List.set_cons_succ, List.getElem_toArray, List.getElem_cons_zero, List.getElem_cons_succ]
        refine wpAnyH_take (i := 5) (oi := _) (v := ?_) rfl (by kernel_rfl) (by kernel_rfl) (by kernel_rfl) (fun _ _ _ h => h) (Or.inl ⟨by rfl, ?_⟩) (by assumption) ?_
        rotate_left
        · intro w hSw
          try dsimp only at hSw
          obtain ⟨t0, t1⟩ := hSw
          go_simp
          all_goals with_reducible rfl
        try simp only [Act.put, List.setIfInBounds_toArray, List.set_cons_zero, List.set_cons_succ, List.getElem_toArray, List.getElem_cons_zero, List.getElem_cons_succ]
        refine wpAnyH_take (i := 7) (oi := _) (v := ?_) rfl (by kernel_rfl) (by kernel_rfl) (by kernel_rfl) (fun _ _ _ h => h) (Or.inl ⟨by rfl, ?_⟩) (by assumption) ?_
        rotate_left
        · intro w hSw
          try dsimp only at hSw
          obtain ⟨t0, t1⟩ := hSw
          go_simp
          all_goals with_reducible rfl
        try simp only [Act.put, List.setIfInBounds_toArray, List.set_cons_zero, List.set_cons_succ, List.getElem_toArray, List.getElem_cons_zero, List.getElem_cons_succ]
        refine wpAnyH_take (i := 8) (oi := _) (v := ?_) rfl (by kernel_rfl) (by kernel_rfl) (by kernel_rfl) (fun _ _ _ h => h) (Or.inl ⟨by rfl, ?_⟩) (by assumption) ?_
        rotate_left
        · intro w hSw
          try dsimp only at hSw
          obtain ⟨t0, t1⟩ := hSw
          go_simp
          all_goals with_reducible rfl
        try simp only [Act.put, List.setIfInBounds_toArray, List.set_cons_zero, List.set_cons_succ, List.getElem_toArray, List.getElem_cons_zero, List.getElem_cons_succ]
        refine wpAnyH_take (i := 9) (oi := _) (v := ?_) rfl (by kernel_rfl) (by kernel_rfl) (by kernel_rfl) (fun _ _ _ h => h) (Or.inl ⟨by rfl, ?_⟩) (by assumption) ?_
        rotate_left
        · intro w hSw
          try dsimp only at hSw
          obtain ⟨t0, t1⟩ := hSw
          go_simp
          all_goals with_reducible rfl
        try simp only [Act.put, List.setIfInBounds_toArray, List.set_cons_zero, List.set_cons_succ, List.getElem_toArray, List.getElem_cons_zero, List.getElem_cons_succ]
        refine wpAnyH_ready (rs := [6, 10]) (by kernel_rfl) (by simp) ?_
        refine AllReadyH.cons (o := _) rfl (fun KQ hKQ => ?_) (AllReadyH.cons (o := _) rfl (fun KQ hKQ => ?_) AllReadyH.nil)
        · go_simp
          refine hKQ.out _ _ ⟨HD6.out.p0, HD6.out.p1⟩ (fun hHeld => ?_)
          clear hKQ KQ
          try simp only [Act.put, List.setIfInBounds_toArray, List.set_cons_zero, List.set_cons_succ, List.getElem_toArray, List.getElem_cons_zero, List.getElem_cons_succ]
          clear a1 a2 al
          refine wpAnyH_ready (rs := [10]) (by kernel_rfl) (by simp) ?_
          refine AllReadyH.cons (o := _) rfl (fun KQ hKQ => ?_) AllReadyH.nil
          go_simp
          go_at_call 51
          refine (CI.out _ HB6.out).mono ?_
          rintro e w7 ⟨rfl, hb7⟩
          have HB7 := Lib.hid hb7
          have HD7 := Lib.hid (HD6.out.later hb7)
          clear hb7 CI
          go_simp
          refine hKQ.out _ _ ⟨HD7.out.p0, HD7.out.p1⟩ (fun hHeld => ?_)
          clear hKQ KQ
          try simp only [Act.put, List.setIfInBounds_toArray, List.set_cons_zero, List.set_cons_succ, List.getElem_toArray, List.getElem_cons_zero, List.getElem_cons_succ]
          refine wpAnyH_ready (rs := [11]) (by kernel_rfl) (by simp) ?_
          refine AllReadyH.cons (o := _) rfl (fun KQ hKQ => ?_) AllReadyH.nil
          go_simp
          go_at_call 50
          refine (CP.out _ HB7.out).mono ?_
          rintro e w8 ⟨⟨n7, A7, m7, c7⟩, rfl, hn7, hm7, hcap7, ho7, hb7⟩
          unfold BitV.v
          simp only at hn7 hm7 hcap7 ho7
          simp only
          have HB8 := Lib.hid (bthen HB7.out hb7)
          have HD8 := Lib.hid (HD6.out.later HB8.out)
          have HDN := Lib.hid ((HD7.out).putUs (bv := ⟨n7, A7, m7, c7⟩) (bb := putB hk.us f.a (bitP own f.a)) HFAR.out hb7 hn7 hm7 hcap7 ho7)
          have a1 := HD8.out.m.s.st.c1
          have a2 := HD8.out.m.s.st.c2
          have f1 := HD8.out.m.s.fr 1
          have f2 := HD8.out.m.s.fr 2
          have al := HD8.out.m.s.lt
          have hpb := HFAR.out.pb
          clear hb7 ho7 hn7 hm7 hcap7 CP
          refine hKQ.out _ _ ⟨HD8.out.p0, HD8.out.p1⟩ (fun hHeld => ?_)
          clear hKQ KQ
          try simp only [Act.put, List.setIfInBounds_toArray, List.set_cons_zero, List.set_cons_succ, List.getElem_toArray, List.getElem_cons_zero, List.getElem_cons_succ]
          refine wpAnyH_take (i := 12) (oi := _) (v := ?_) rfl (by kernel_rfl) (by kernel_rfl) (by kernel_rfl) (fun _ _ _ h => h) (Or.inl ⟨by rfl, ?_⟩) (by assumption) ?_
          rotate_left
          · intro w hSw
            try dsimp only at hSw
            obtain ⟨t0, t1⟩ := hSw
            go_simp
            all_goals with_reducible rfl
          try simp only [Act.put, List.setIfInBounds_toArray, List.set_cons_zero, List.set_cons_succ, List.getElem_toArray, List.getElem_cons_zero, List.getElem_cons_succ]
          refine wpAnyH_take (i := 13) (oi := _) (v := ?_) rfl (by kernel_rfl) (by kernel_rfl) (by kernel_rfl) (fun _ _ _ h => h) (Or.inl ⟨by rfl, ?_⟩) (by assumption) ?_
          rotate_left
          · intro w hSw
            try dsimp only at hSw
            obtain ⟨t0, t1⟩ := hSw
            go_simp
            all_goals with_reducible rfl
          try simp only [Act.put, List.setIfInBounds_toArray, List.set_cons_zero, List.set_cons_succ, List.getElem_toArray, List.getElem_cons_zero, List.getElem_cons_succ]
          refine wpAnyH_take (i := 14) (oi := _) (v := ?_) rfl (by kernel_rfl) (by kernel_rfl) (by kernel_rfl) (fun _ _ _ h => h) (Or.inl ⟨by rfl, ?_⟩) (by assumption) ?_
          rotate_left
          · intro w hSw
            try dsimp only at hSw
            obtain ⟨t0, t1⟩ := hSw
            go_simp
            all_goals with_reducible rfl
          try simp only [Act.put, List.setIfInBounds_toArray, List.set_cons_zero, List.set_cons_succ, List.getElem_toArray, List.getElem_cons_zero, List.getElem_cons_succ]
          refine wpAnyH_take (i := 15) (oi := _) (v := ?_) rfl (by kernel_rfl) (by kernel_rfl) (by kernel_rfl) (fun _ _ _ h => h) (Or.inl ⟨by rfl, ?_⟩) (by assumption) ?_
          rotate_left
          · intro w hSw
            try dsimp only at hSw
            obtain ⟨t0, t1⟩ := hSw
            go_simp
            all_goals with_reducible rfl
          try simp only [Act.put, List.setIfInBounds_toArray, List.set_cons_zero, List.set_cons_succ, List.getElem_toArray, List.getElem_cons_zero, List.getElem_cons_succ]
          refine wpAnyH_take (i := 16) (oi := _) (v := ?_) rfl (by kernel_rfl) (by kernel_rfl) (by kernel_rfl) (fun _ _ _ h => h) (Or.inl ⟨by rfl, ?_⟩) (by assumption) ?_
          rotate_left
          · intro w hSw
            try dsimp only at hSw
            obtain ⟨t0, t1⟩ := hSw
            go_simp
            all_goals with_reducible rfl
          try simp only [Act.put, List.setIfInBounds_toArray, List.set_cons_zero, List.set_cons_succ, List.getElem_toArray, List.getElem_cons_zero, List.getElem_cons_succ]
          refine wpAnyH_take (i := 17) (oi := _) (v := ?_) rfl (by kernel_rfl) (by kernel_rfl) (by kernel_rfl) (fun _ _ _ h => h) (Or.inl ⟨by rfl, ?_⟩) (by assumption) ?_
          rotate_left
          · intro w hSw
            try dsimp only at hSw
            obtain ⟨t0, t1⟩ := hSw
            go_simp
            all_goals with_reducible rfl
          try simp only [Act.put, List.setIfInBounds_toArray, List.set_cons_zero, List.set_cons_succ, List.getElem_toArray, List.getElem_cons_zero, List.getElem_cons_succ]
          refine wpAnyH_take (i := 18) (oi := _) (v := ?_) rfl (by kernel_rfl) (by kernel_rfl) (by kernel_rfl) (fun _ _ _ h => h) (Or.inl ⟨by rfl, ?_⟩) (by assumption) ?_
          rotate_left
          · intro w hSw
            try dsimp only at hSw
            obtain ⟨t0, t1⟩ := hSw
            go_simp
            all_goals with_reducible rfl
          try simp only [Act.put, List.setIfInBounds_toArray, List.set_cons_zero, List.set_cons_succ, List.getElem_toArray, List.getElem_cons_zero, List.getElem_cons_succ]
          refine wpAnyH_ready (rs := [19]) (by kernel_rfl) (by simp) ?_
          refine AllReadyH.cons (o := _) rfl (fun KQ hKQ => ?_) AllReadyH.nil
          go_simp
          refine hKQ.out _ _ ⟨(World.cell?_setCell_far _ _ _ _ (by simpa using fun e => hpb e.symm)).trans ((World.cell?_setCell_far _ _ _ _ (by simpa using fun e => hpb e.symm)).trans HD8.out.p0), (World.cell?_setCell_far _ _ _ _ (by simpa using fun e => hpb e.symm)).trans ((World.cell?_setCell_far _ _ _ _ (by simpa using fun e => hpb e.symm)).trans HD8.out.p1)⟩ (fun hHeld => ?_)
          clear hKQ KQ
          try simp only [Act.put, List.setIfInBounds_toArray, List.set_cons_zero, List.set_cons_succ, List.getElem_toArray, List.getElem_cons_zero, List.getElem_cons_succ]
          refine wpAnyH_done (by kernel_rfl) ?_ _
          clear a1 a2 f1 f2 al HD8
          go_wp2
          go_roundw
          case rel => exact ⟨k + 1, _, by omega, by go_num, by rw [HNX.out]; exact HDN.out⟩
          case measure => simp [intOf]; omega
        · go_simp
          go_at_call 51
          refine (CI.out _ HB6.out).mono ?_
          rintro e w7 ⟨rfl, hb7⟩
          have HB7 := Lib.hid hb7
          have HD7 := Lib.hid (HD6.out.later hb7)
          clear hb7 CI a1 a2 al
          go_simp
          refine hKQ.out _ _ ⟨HD7.out.p0, HD7.out.p1⟩ (fun hHeld => ?_)
          clear hKQ KQ
          try simp only [Act.put, List.setIfInBounds_toArray, List.set_cons_zero, List.set_cons_succ, List.getElem_toArray, List.getElem_cons_zero, List.getElem_cons_succ]
          have a1 := HD7.out.m.s.st.c1
          have a2 := HD7.out.m.s.st.c2
          have al := HD7.out.m.s.lt
          refine wpAnyH_ready (rs := [6]) (by kernel_rfl) (by simp) ?_
          refine AllReadyH.cons (o := _) rfl (fun KQ hKQ => ?_) AllReadyH.nil
          go_simp
          refine hKQ.out _ _ ⟨HD7.out.p0, HD7.out.p1⟩ (fun hHeld => ?_)
          clear hKQ KQ
          try simp only [Act.put, List.setIfInBounds_toArray, List.set_cons_zero, List.set_cons_succ, List.getElem_toArray, List.getElem_cons_zero, List.getElem_cons_succ]
          clear a1 a2 al
          refine wpAnyH_ready (rs := [11]) (by kernel_rfl) (by simp) ?_
          refine AllReadyH.cons (o := _) rfl (fun KQ hKQ => ?_) AllReadyH.nil
          go_simp
          go_at_call 50
          refine (CP.out _ HB7.out).mono ?_
          rintro e w8 ⟨⟨n7, A7, m7, c7⟩, rfl, hn7, hm7, hcap7, ho7, hb7⟩
          unfold BitV.v
          simp only at hn7 hm7 hcap7 ho7
          simp only
          have HB8 := Lib.hid (bthen HB7.out hb7)
          have HD8 := Lib.hid (HD6.out.later HB8.out)
          have HDN := Lib.hid ((HD7.out).putUs (bv := ⟨n7, A7, m7, c7⟩) (bb := putB hk.us f.a (bitP own f.a)) HFAR.out hb7 hn7 hm7 hcap7 ho7)
          have a1 := HD8.out.m.s.st.c1
          have a2 := HD8.out.m.s.st.c2
          have f1 := HD8.out.m.s.fr 1
          have f2 := HD8.out.m.s.fr 2
          have al := HD8.out.m.s.lt
          have hpb := HFAR.out.pb
          clear hb7 ho7 hn7 hm7 hcap7 CP
          refine hKQ.out _ _ ⟨HD8.out.p0, HD8.out.p1⟩ (fun hHeld => ?_)
          clear hKQ KQ
          try simp only [Act.put, List.setIfInBounds_toArray, List.set_cons_zero, List.set_cons_succ, List.getElem_toArray, List.getElem_cons_zero, List.getElem_cons_succ]
          refine wpAnyH_take (i := 12) (oi := _) (v := ?_) rfl (by kernel_rfl) (by kernel_rfl) (by kernel_rfl) (fun _ _ _ h => h) (Or.inl ⟨by rfl, ?_⟩) (by assumption) ?_
          rotate_left
          · intro w hSw
            try dsimp only at hSw
            obtain ⟨t0, t1⟩ := hSw
            go_simp
            all_goals with_reducible rfl
          try simp only [Act.put, List.setIfInBounds_toArray, List.set_cons_zero, List.set_cons_succ, List.getElem_toArray, List.getElem_cons_zero, List.getElem_cons_succ]
          refine wpAnyH_take (i := 13) (oi := _) (v := ?_) rfl (by kernel_rfl) (by kernel_rfl) (by kernel_rfl) (fun _ _ _ h => h) (Or.inl ⟨by rfl, ?_⟩) (by assumption) ?_
          rotate_left
          · intro w hSw
            try dsimp only at hSw
            obtain ⟨t0, t1⟩ := hSw
            go_simp
            all_goals with_reducible rfl
          try simp only [Act.put, List.setIfInBounds_toArray, List.set_cons_zero, List.set_cons_succ, List.getElem_toArray, List.getElem_cons_zero, List.getElem_cons_succ]
          refine wpAnyH_take (i := 14) (oi := _) (v := ?_) rfl (by kernel_rfl) (by kernel_rfl) (by kernel_rfl) (fun _ _ _ h => h) (Or.inl ⟨by rfl, ?_⟩) (by assumption) ?_
          rotate_left
          · intro w hSw
            try dsimp only at hSw
            obtain ⟨t0, t1⟩ := hSw
            go_simp
            all_goals with_reducible rfl
          try simp only [Act.put, List.setIfInBounds_toArray, List.set_cons_zero, List.set_cons_succ, List.getElem_toArray, List.getElem_cons_zero, List.getElem_cons_succ]
          refine wpAnyH_take (i := 15) (oi := _) (v := ?_) rfl (by kernel_rfl) (by kernel_rfl) (by kernel_rfl) (fun _ _ _ h => h) (Or.inl ⟨by rfl, ?_⟩) (by assumption) ?_
          rotate_left
          · intro w hSw
            try dsimp only at hSw
            obtain ⟨t0, t1⟩ := hSw
            go_simp
            all_goals with_reducible rfl
          try simp only [Act.put, List.setIfInBounds_toArray, List.set_cons_zero, List.set_cons_succ, List.getElem_toArray, List.getElem_cons_zero, List.getElem_cons_succ]
          refine wpAnyH_take (i := 16) (oi := _) (v := ?_) rfl (by kernel_rfl) (by kernel_rfl) (by kernel_rfl) (fun _ _ _ h => h) (Or.inl ⟨by rfl, ?_⟩) (by assumption) ?_
          rotate_left
          · intro w hSw
            try dsimp only at hSw
            obtain ⟨t0, t1⟩ := hSw
            go_simp
            all_goals with_reducible rfl
          try simp only [Act.put, List.setIfInBounds_toArray, List.set_cons_zero, List.set_cons_succ, List.getElem_toArray, List.getElem_cons_zero, List.getElem_cons_succ]
          refine wpAnyH_take (i := 17) (oi := _) (v := ?_) rfl (by kernel_rfl) (by kernel_rfl) (by kernel_rfl) (fun _ _ _ h => h) (Or.inl ⟨by rfl, ?_⟩) (by assumption) ?_
          rotate_left
          · intro w hSw
            try dsimp only at hSw
            obtain ⟨t0, t1⟩ := hSw
            go_simp
            all_goals with_reducible rfl
          try simp only [Act.put, List.setIfInBounds_toArray, List.set_cons_zero, List.set_cons_succ, List.getElem_toArray, List.getElem_cons_zero, List.getElem_cons_succ]
          refine wpAnyH_take (i := 18) (oi := _) (v := ?_) rfl (by kernel_rfl) (by kernel_rfl) (by kernel_rfl) (fun _ _ _ h => h) (Or.inl ⟨by rfl, ?_⟩) (by assumption) ?_
          rotate_left
          · intro w hSw
            try dsimp only at hSw
            obtain ⟨t0, t1⟩ := hSw
            go_simp
            all_goals with_reducible rfl
          try simp only [Act.put, List.setIfInBounds_toArray, List.set_cons_zero, List.set_cons_succ, List.getElem_toArray, List.getElem_cons_zero, List.getElem_cons_succ]
          refine wpAnyH_ready (rs := [19]) (by kernel_rfl) (by simp) ?_
          refine AllReadyH.cons (o := _) rfl (fun KQ hKQ => ?_) AllReadyH.nil
          go_simp
          refine hKQ.out _ _ ⟨(World.cell?_setCell_far _ _ _ _ (by simpa using fun e => hpb e.symm)).trans ((World.cell?_setCell_far _ _ _ _ (by simpa using fun e => hpb e.symm)).trans HD8.out.p0), (World.cell?_setCell_far _ _ _ _ (by simpa using fun e => hpb e.symm)).trans ((World.cell?_setCell_far _ _ _ _ (by simpa using fun e => hpb e.symm)).trans HD8.out.p1)⟩ (fun hHeld => ?_)
          clear hKQ KQ
          try simp only [Act.put, List.setIfInBounds_toArray, List.set_cons_zero, List.set_cons_succ, List.getElem_toArray, List.getElem_cons_zero, List.getElem_cons_succ]
          refine wpAnyH_done (by kernel_rfl) ?_ _
          clear a1 a2 f1 f2 al HD8
          go_wp2
          go_roundw
          case rel => exact ⟨k + 1, _, by omega, by go_num, by rw [HNX.out]; exact HDN.out⟩
          case measure => simp [intOf]; omega
      · obtain ⟨o, ix, h1, h2, h3, h4⟩ := find_idx ha
        have hobo := HOB.out o (List.mem_of_getElem? h1)
        have hs : hk.sp[o.i]? = some (hk.sp[o.i]'(by rw [HMI.out.sl]; exact hobo.i)) := List.getElem?_eq_getElem _
        generalize (hk.sp[o.i]'_) = s at hs
        have HNX : Hid ((fs.take (k + 1)).foldl (mendF own os) h = dropO o s hk) := by
          show _ = _
          rw [HNX.out]
          unfold mendF
          rw [if_neg (by omega), if_pos ek, ← h2]
          exact dropF_of (by rw [h2]; exact h4) hs
        replace c0 : wr.cell? ⟨bk, oo + k * 2, none⟩ = some (.int .u8 4) := by rw [ek] at c0; exact c0
        have hba := balloc (Below.refl wr.heap.size wr) (.cells #[.int .u8 4, .int .u64 (f.a : Int)] 48)
        have HDA := Lib.hid (HDk.out.later hba)
        obtain ⟨g, hg⟩ : ∃ g, v1.sA = some ⟨g, 0, none⟩ := by
          have g1 := HDk.out.m.own.sp
          unfold OwS at g1
          have g2 : v1.vs.length = v1.sN := by rw [HDk.out.m.own.al.1, HDk.out.m.own.sn]
          rw [g2] at g1
          exact own_some g1 (by have := (List.getElem?_eq_some_iff.1 hs).1; rw [HDk.out.m.own.sn]; omega)
        have hsg : sA = some ⟨g, 0, none⟩ := by rw [← hg]; exact HDk.out.sp.symm
        subst hsg
        obtain ⟨q1, q2, q3, q4, q5⟩ := HMI.out.sp s (List.mem_of_getElem? hs)
        have CD := Lib.hid (drop52 w0 _ b fc oc ix g ga v1 hk fs _ OA os o s HDA.out.m h1 (by rw [h2]; exact h3) hs q1 q2 q3 q4 HAR.out.2.1 (by rw [HMI.out.len]; exact HAR.out.1) (by rw [HMI.out.len]; exact hobo.room) hobo.pos hg HDA.out.a)
        rw [h2] at CD
        clear ek ha h1 h2 h3 h4 hobo hs hba hg q1 q2 q3 q4 q5
        go_wp2_with (go_at_call 52; refine CD.out.mono ?_)
        rintro e w9 ⟨rfl, ⟨v9, hm9, ha9, hs9⟩, hk9⟩
        have HDN := Lib.hid (HDA.out.dropped HFAR.out hm9 ha9 hs9 hk9)
        clear hm9 ha9 hs9 hk9 CD HDA HDk c0 c1
        go_wp2
        go_roundw
        case rel => exact ⟨k + 1, v9, by omega, by go_num, by rw [HNX.out]; exact HDN.out⟩
        case measure => simp [intOf]; omega
      · have HNX : Hid ((fs.take (k + 1)).foldl (mendF own os) h = { hk with ar := hk.ar.set f.a 0 }) := by show _ = _; rw [HNX.out]; unfold mendF; rw [if_neg (by omega), if_neg (by omega), if_pos (by omega)]
        replace c0 : wr.cell? ⟨bk, oo + k * 2, none⟩ = some (.int .u8 5) := by rw [ek] at c0; exact c0
        have hba := balloc (Below.refl wr.heap.size wr) (.cells #[.int .u8 5, .int .u64 (f.a : Int)] 48)
        have HFA : Hid (f.a < h.ar.length) := ha
        clear ek ha
        go_upto_region 12 with fail
        have HDA := Lib.hid (HDk.out.later hba)
        have r1 : (wr.alloc (.cells #[.int .u8 5, .int .u64 (f.a : Int)] 48)).cell? ⟨wr.heap.size, 1, none⟩ = some (.int .u64 (f.a : Int)) := by go_simp
        have HRA : Hid (wr.heap.size ≠ ga) := fun e => by
          have h1 := HDk.out.m.own.ar
          rw [HDk.out.a] at h1
          have := (World.ownsRow.lt h1 ga rfl).2
          omega
        generalize hWA : wr.alloc (.cells #[.int .u8 5, .int .u64 (f.a : Int)] 48) = WA at *
        generalize hrr : wr.heap.size = r at *
        clear hWA hrr c0 c1 hba HDk
        have HD6 := Lib.hid (HDA.out.later (Below.refl WA.heap.size WA).drew)
        have R1 := Lib.hid (cell_later (Below.refl WA.heap.size WA).drew r1)
        clear r1 HDA
        refine wp_region_held_drew (S := fun W => W.cell? ⟨b, 0, none⟩ = some (.slice (some ⟨ga, 0, none⟩) v1.aN v1.aC) ∧ W.cell? ⟨r, 1, none⟩ = some (.int .u64 (f.a : Int))) (by kernel_rfl) ⟨by have h1 := HD6.out.m.s.st.c0; rwa [HD6.out.a] at h1, R1.out⟩ (fun hHeld => ?_)
        generalize WA.drew = w6 at *
        have hq1 : (0 : Int) ≤ (f.a : Int) := by omega
        have hq2 : (f.a : Int) < (v1.aN : Int) := by have h1 := HD6.out.m.own.n; have h2 := HMI.out.len; have h3 := HFA.out; omega
        refine wpAnyH_take (i := 0) (oi := _) (v := ?_) rfl (by kernel_rfl) (by kernel_rfl) (by kernel_rfl) (fun _ _ _ h => h) (Or.inl ⟨by rfl, ?_⟩) (by assumption) ?_
        rotate_left
        · intro w hSw
          try dsimp only at hSw
          obtain ⟨t0, t1⟩ := hSw
          go_simp
          all_goals with_reducible rfl
        try simp only [Act.put, List.setIfInBounds_toArray, List.set_cons_zero, List.set_cons_succ, List.getElem_toArray, List.getElem_cons_zero, List.getElem_cons_succ]
        refine wpAnyH_take (i := 1) (oi := _) (v := ?_) rfl (by kernel_rfl) (by kernel_rfl) (by kernel_rfl) (fun _ _ _ h => h) (Or.inl ⟨by rfl, ?_⟩) (by assumption) ?_
        rotate_left
        · intro w hSw
          try dsimp only at hSw
          obtain ⟨t0, t1⟩ := hSw
          go_simp
          all_goals with_reducible rfl
        try simp only [Act.put, List.setIfInBounds_toArray, List.set_cons_zero, List.set_cons_succ, List.getElem_toArray, List.getElem_cons_zero, List.getElem_cons_succ]
        refine wpAnyH_take (i := 2) (oi := _) (v := ?_) rfl (by kernel_rfl) (by kernel_rfl) (by kernel_rfl) (fun _ _ _ h => h) (Or.inl ⟨by rfl, ?_⟩) (by assumption) ?_
        rotate_left
        · intro w hSw
          try dsimp only at hSw
          obtain ⟨t0, t1⟩ := hSw
          go_simp
          all_goals with_reducible rfl
        try simp only [Act.put, List.setIfInBounds_toArray, List.set_cons_zero, List.set_cons_succ, List.getElem_toArray, List.getElem_cons_zero, List.getElem_cons_succ]
        refine wpAnyH_take (i := 3) (oi := _) (v := ?_) rfl (by kernel_rfl) (by kernel_rfl) (by kernel_rfl) (fun _ _ _ h => h) (Or.inl ⟨by rfl, ?_⟩) (by assumption) ?_
        rotate_left
        · intro w hSw
          try dsimp only at hSw
          obtain ⟨t0, t1⟩ := hSw
          go_simp
          all_goals with_reducible rfl
        try simp only [Act.put, List.setIfInBounds_toArray, List.set_cons_zero, List.set_cons_succ, List.getElem_toArray, List.getElem_cons_zero, List.getElem_cons_succ]
        refine wpAnyH_take (i := 4) (oi := _) (v := ?_) rfl (by kernel_rfl) (by kernel_rfl) (by kernel_rfl) (fun _ _ _ h => h) (Or.inl ⟨by rfl, ?_⟩) (by assumption) ?_
        rotate_left
        · intro w hSw
          try dsimp only at hSw
          obtain ⟨t0, t1⟩ := hSw
          go_simp
          all_goals with_reducible rfl
        try simp only [Act.put, List.setIfInBounds_toArray, List.set_cons_zero, List.set_cons_succ, List.getElem_toArray, List.getElem_cons_zero, List.getElem_cons_succ]
        refine wpAnyH_take (i := 5) (oi := _) (v := ?_) rfl (by kernel_rfl) (by kernel_rfl) (by kernel_rfl) (fun _ _ _ h => h) (Or.inl ⟨by rfl, ?_⟩) (by assumption) ?_
        rotate_left
        · intro w hSw
          try dsimp only at hSw
          obtain ⟨t0, t1⟩ := hSw
          go_simp
          all_goals with_reducible rfl
        try simp only [Act.put, List.setIfInBounds_toArray, List.set_cons_zero, List.set_cons_succ, List.getElem_toArray, List.getElem_cons_zero, List.getElem_cons_succ]
        refine wpAnyH_take (i := 6) (oi := _) (v := ?_) rfl (by kernel_rfl) (by kernel_rfl) (by kernel_rfl) (fun _ _ _ h => h) (Or.inl ⟨by rfl, ?_⟩) (by assumption) ?_
        rotate_left
        · intro w hSw
          try dsimp only at hSw
          obtain ⟨t0, t1⟩ := hSw
          go_simp
          all_goals with_reducible rfl
        try simp only [Act.put, List.setIfInBounds_toArray, List.set_cons_zero, List.set_cons_succ, List.getElem_toArray, List.getElem_cons_zero, List.getElem_cons_succ]
        refine wpAnyH_take (i := 7) (oi := _) (v := ?_) rfl (by kernel_rfl) (by kernel_rfl) (by kernel_rfl) (fun _ _ _ h => h) (Or.inl ⟨by rfl, ?_⟩) (by assumption) ?_
        rotate_left
        · intro w hSw
          try dsimp only at hSw
          obtain ⟨t0, t1⟩ := hSw
          go_simp
          all_goals with_reducible rfl
        try simp only [Act.put, List.setIfInBounds_toArray, List.set_cons_zero, List.set_cons_succ, List.getElem_toArray, List.getElem_cons_zero, List.getElem_cons_succ]
        refine wpAnyH_take (i := 8) (oi := _) (v := ?_) rfl (by kernel_rfl) (by kernel_rfl) (by kernel_rfl) (fun _ _ _ h => h) (Or.inl ⟨by rfl, ?_⟩) (by assumption) ?_
        rotate_left
        · intro w hSw
          try dsimp only at hSw
          obtain ⟨t0, t1⟩ := hSw
          go_simp
          all_goals with_reducible rfl
        try simp only [Act.put, List.setIfInBounds_toArray, List.set_cons_zero, List.set_cons_succ, List.getElem_toArray, List.getElem_cons_zero, List.getElem_cons_succ]
        have hx : (us hk.ar)[f.a]? = some (.int .u64 (hk.ar[f.a]'(by have h2 := HMI.out.len; have h3 := HFA.out; omega))) := by unfold us; rw [List.getElem?_map, List.getElem?_eq_getElem]; rfl
        have hou := HD6.out.m.own.ar
        rw [HD6.out.a] at hou
        unfold OwU at hou
        rw [show hk.ar.length = v1.aN from HD6.out.m.own.n.symm] at hou
        obtain ⟨cj, zj⟩ := own_cell hou hx
        have mj := World.block_lt_of_cell? _ _ cj
        clear hou hx
        generalize (hk.ar[f.a]'_) = y at cj
        have HDN := Lib.hid (HD6.out.word (k := f.a) (x := 0) HFAR.out)
        have nb : ga ≠ b := fun e => HD6.out.m.nb.ar (by rw [HD6.out.a, e]; rfl)
        have nr : ga ≠ r := fun e => HRA.out e.symm
        refine wpAnyH_ready (rs := [9]) (by kernel_rfl) (by simp) ?_
        refine AllReadyH.cons (o := _) rfl (fun KQ hKQ => ?_) AllReadyH.nil
        go_simp
        refine hKQ.out _ _ ⟨(World.cell?_setCell_far _ _ _ _ (by simpa using nb)).trans (by have h1 := HD6.out.m.s.st.c0; rwa [HD6.out.a] at h1), (World.cell?_setCell_far _ _ _ _ (by simpa using nr)).trans R1.out⟩ (fun hHeld => ?_)
        clear hKQ KQ
        try simp only [Act.put, List.setIfInBounds_toArray, List.set_cons_zero, List.set_cons_succ, List.getElem_toArray, List.getElem_cons_zero, List.getElem_cons_succ]
        refine wpAnyH_done (by kernel_rfl) ?_ _
        clear cj zj mj HD6 hq1 hq2
        go_wp2
        go_roundw
        case rel => exact ⟨k + 1, v1, by omega, by go_num, by rw [HNX.out]; exact HDN.out⟩
        case measure => simp [intOf]; omega
      · have HNX : Hid ((fs.take (k + 1)).foldl (mendF own os) h = { hk with ar := hk.ar.set f.a 0 }) := by show _ = _; rw [HNX.out]; unfold mendF; rw [if_neg (by omega), if_neg (by omega), if_pos (by omega)]
        replace c0 : wr.cell? ⟨bk, oo + k * 2, none⟩ = some (.int .u8 6) := by rw [ek] at c0; exact c0
        have hba := balloc (Below.refl wr.heap.size wr) (.cells #[.int .u8 6, .int .u64 (f.a : Int)] 48)
        have HFA : Hid (f.a < h.ar.length) := ha
        clear ek ha
        go_upto_region 12 with fail
        have HDA := Lib.hid (HDk.out.later hba)
        have r1 : (wr.alloc (.cells #[.int .u8 6, .int .u64 (f.a : Int)] 48)).cell? ⟨wr.heap.size, 1, none⟩ = some (.int .u64 (f.a : Int)) := by go_simp
        have HRA : Hid (wr.heap.size ≠ ga) := fun e => by
          have h1 := HDk.out.m.own.ar
          rw [HDk.out.a] at h1
          have := (World.ownsRow.lt h1 ga rfl).2
          omega
        generalize hWA : wr.alloc (.cells #[.int .u8 6, .int .u64 (f.a : Int)] 48) = WA at *
        generalize hrr : wr.heap.size = r at *
        clear hWA hrr c0 c1 hba HDk
        have HD6 := Lib.hid (HDA.out.later (Below.refl WA.heap.size WA).drew)
        have R1 := Lib.hid (cell_later (Below.refl WA.heap.size WA).drew r1)
        clear r1 HDA
        refine wp_region_held_drew (S := fun W => W.cell? ⟨b, 0, none⟩ = some (.slice (some ⟨ga, 0, none⟩) v1.aN v1.aC) ∧ W.cell? ⟨r, 1, none⟩ = some (.int .u64 (f.a : Int))) (by kernel_rfl) ⟨by have h1 := HD6.out.m.s.st.c0; rwa [HD6.out.a] at h1, R1.out⟩ (fun hHeld => ?_)
        generalize WA.drew = w6 at *
        have hq1 : (0 : Int) ≤ (f.a : Int) := by omega
        have hq2 : (f.a : Int) < (v1.aN : Int) := by have h1 := HD6.out.m.own.n; have h2 := HMI.out.len; have h3 := HFA.out; omega
        refine wpAnyH_take (i := 0) (oi := _) (v := ?_) rfl (by kernel_rfl) (by kernel_rfl) (by kernel_rfl) (fun _ _ _ h => h) (Or.inl ⟨by rfl, ?_⟩) (by assumption) ?_
        rotate_left
        · intro w hSw
          try dsimp only at hSw
          obtain ⟨t0, t1⟩ := hSw
          go_simp
          all_goals with_reducible rfl
        try simp only [Act.put, List.setIfInBounds_toArray, List.set_cons_zero, List.set_cons_succ, List.getElem_toArray, List.getElem_cons_zero, List.getElem_cons_succ]
        refine wpAnyH_take (i := 1) (oi := _) (v := ?_) rfl (by kernel_rfl) (by kernel_rfl) (by kernel_rfl) (fun _ _ _ h => h) (Or.inl ⟨by rfl, ?_⟩) (by assumption) ?_
        rotate_left
        · intro w hSw
          try dsimp only at hSw
          obtain ⟨t0, t1⟩ := hSw
          go_simp
          all_goals with_reducible rfl
        try simp only [Act.put, List.setIfInBounds_toArray, List.set_cons_zero, List.set_cons_succ, List.getElem_toArray, List.getElem_cons_zero, List.getElem_cons_succ]
        refine wpAnyH_take (i := 2) (oi := _) (v := ?_) rfl (by kernel_rfl) (by kernel_rfl) (by kernel_rfl) (fun _ _ _ h => h) (Or.inl ⟨by rfl, ?_⟩) (by assumption) ?_
        rotate_left
        · intro w hSw
          try dsimp only at hSw
          obtain ⟨t0, t1⟩ := hSw
          go_simp
          all_goals with_reducible rfl
        try simp only [Act.put, List.setIfInBounds_toArray, List.set_cons_zero, List.set_cons_succ, List.getElem_toArray, List.getElem_cons_zero, List.getElem_cons_succ]
        refine wpAnyH_take (i := 3) (oi := _) (v := ?_) rfl (by kernel_rfl) (by kernel_rfl) (by kernel_rfl) (fun _ _ _ h => h) (Or.inl ⟨by rfl, ?_⟩) (by assumption) ?_
        rotate_left
        · intro w hSw
          try dsimp only at hSw
          obtain ⟨t0, t1⟩ := hSw
          go_simp
          all_goals with_reducible rfl
        try simp only [Act.put, List.setIfInBounds_toArray, List.set_cons_zero, List.set_cons_succ, List.getElem_toArray, List.getElem_cons_zero, List.getElem_cons_succ]
        refine wpAnyH_take (i := 4) (oi := _) (v := ?_) rfl (by kernel_rfl) (by kernel_rfl) (by kernel_rfl) (fun _ _ _ h => h) (Or.inl ⟨by rfl, ?_⟩) (by assumption) ?_
        rotate_left
        · intro w hSw
          try dsimp only at hSw
          obtain ⟨t0, t1⟩ := hSw
          go_simp
          all_goals with_reducible rfl
        try simp only [Act.put, List.setIfInBounds_toArray, List.set_cons_zero, List.set_cons_succ, List.getElem_toArray, List.getElem_cons_zero, List.getElem_cons_succ]
        refine wpAnyH_take (i := 5) (oi := _) (v := ?_) rfl (by kernel_rfl) (by kernel_rfl) (by kernel_rfl) (fun _ _ _ h => h) (Or.inl ⟨by rfl, ?_⟩) (by assumption) ?_
        rotate_left
        · intro w hSw
          try dsimp only at hSw
          obtain ⟨t0, t1⟩ := hSw
          go_simp
          all_goals with_reducible rfl
        try simp only [Act.put, List.setIfInBounds_toArray, List.set_cons_zero, List.set_cons_succ, List.getElem_toArray, List.getElem_cons_zero, List.getElem_cons_succ]
        refine wpAnyH_take (i := 6) (oi := _) (v := ?_) rfl (by kernel_rfl) (by kernel_rfl) (by kernel_rfl) (fun _ _ _ h => h) (Or.inl ⟨by rfl, ?_⟩) (by assumption) ?_
        rotate_left
        · intro w hSw
          try dsimp only at hSw
          obtain ⟨t0, t1⟩ := hSw
          go_simp
          all_goals with_reducible rfl
        try simp only [Act.put, List.setIfInBounds_toArray, List.set_cons_zero, List.set_cons_succ, List.getElem_toArray, List.getElem_cons_zero, List.getElem_cons_succ]
        refine wpAnyH_take (i := 7) (oi := _) (v := ?_) rfl (by kernel_rfl) (by kernel_rfl) (by kernel_rfl) (fun _ _ _ h => h) (Or.inl ⟨by rfl, ?_⟩) (by assumption) ?_
        rotate_left
        · intro w hSw
          try dsimp only at hSw
          obtain ⟨t0, t1⟩ := hSw
          go_simp
          all_goals with_reducible rfl
        try simp only [Act.put, List.setIfInBounds_toArray, List.set_cons_zero, List.set_cons_succ, List.getElem_toArray, List.getElem_cons_zero, List.getElem_cons_succ]
        refine wpAnyH_take (i := 8) (oi := _) (v := ?_) rfl (by kernel_rfl) (by kernel_rfl) (by kernel_rfl) (fun _ _ _ h => h) (Or.inl ⟨by rfl, ?_⟩) (by assumption) ?_
        rotate_left
        · intro w hSw
          try dsimp only at hSw
          obtain ⟨t0, t1⟩ := hSw
          go_simp
          all_goals with_reducible rfl
        try simp only [Act.put, List.setIfInBounds_toArray, List.set_cons_zero, List.set_cons_succ, List.getElem_toArray, List.getElem_cons_zero, List.getElem_cons_succ]
        have hx : (us hk.ar)[f.a]? = some (.int .u64 (hk.ar[f.a]'(by have h2 := HMI.out.len; have h3 := HFA.out; omega))) := by unfold us; rw [List.getElem?_map, List.getElem?_eq_getElem]; rfl
        have hou := HD6.out.m.own.ar
        rw [HD6.out.a] at hou
        unfold OwU at hou
        rw [show hk.ar.length = v1.aN from HD6.out.m.own.n.symm] at hou
        obtain ⟨cj, zj⟩ := own_cell hou hx
        have mj := World.block_lt_of_cell? _ _ cj
        clear hou hx
        generalize (hk.ar[f.a]'_) = y at cj
        have HDN := Lib.hid (HD6.out.word (k := f.a) (x := 0) HFAR.out)
        have nb : ga ≠ b := fun e => HD6.out.m.nb.ar (by rw [HD6.out.a, e]; rfl)
        have nr : ga ≠ r := fun e => HRA.out e.symm
        refine wpAnyH_ready (rs := [9]) (by kernel_rfl) (by simp) ?_
        refine AllReadyH.cons (o := _) rfl (fun KQ hKQ => ?_) AllReadyH.nil
        go_simp
        refine hKQ.out _ _ ⟨(World.cell?_setCell_far _ _ _ _ (by simpa using nb)).trans (by have h1 := HD6.out.m.s.st.c0; rwa [HD6.out.a] at h1), (World.cell?_setCell_far _ _ _ _ (by simpa using nr)).trans R1.out⟩ (fun hHeld => ?_)
        clear hKQ KQ
        try simp only [Act.put, List.setIfInBounds_toArray, List.set_cons_zero, List.set_cons_succ, List.getElem_toArray, List.getElem_cons_zero, List.getElem_cons_succ]
        refine wpAnyH_done (by kernel_rfl) ?_ _
        clear cj zj mj HD6 hq1 hq2
        go_wp2
        go_roundw
        case rel => exact ⟨k + 1, v1, by omega, by go_num, by rw [HNX.out]; exact HDN.out⟩
        case measure => simp [intOf]; omega
    · obtain rfl : k = fs.length := by omega
      rw [List.take_length] at HDk
      go_wp2
      go_end0
      exact ⟨rfl, v1, HDk.out.m⟩
end Go.Proofs.YtieijfefnedifaaGreatDoor
