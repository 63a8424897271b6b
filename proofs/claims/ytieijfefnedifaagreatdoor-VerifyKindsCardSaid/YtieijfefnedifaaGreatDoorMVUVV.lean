/- Mending, plain: a round leaves nothing wrong, or fewer objects. -/
import Derived.Test.YtieijfefnedifaaGreatDoorMVSVT
namespace Go.Proofs.YtieijfefnedifaaGreatDoor
open Go.RowKit
set_option linter.unusedVariables false
set_option linter.unusedSimpArgs false

theorem put_bit {b : BitB} (h : okB b = true) (hw : Words b.w) {k : Nat} (hk : (k : Int) < b.n) (t : Bool) (i : Nat) : bitP (putB b k t) i = if i = k then t else bitP b i := by
  have e : putB b (k : Int) t = ⟨b.n, setW b.w k t⟩ := by
    unfold putB
    rw [if_pos h, if_pos (show putIn b (k : Int) from ⟨by omega, hk⟩)]
    rfl
  rw [e]
  have h2 := okB_parts h
  exact setW_bit hw (by omega) t b.n i
theorem drop_right {s : SpanB} (h : rightP s = true) (wa : Words s.al.w) (wm : Words s.ma.w) {k : Nat} (hk : (k : Int) < s.al.n) : rightP (dropS s k) = true := by
  obtain ⟨h1, h2, h3, h4, h5, h6, h7, _⟩ := rightP_parts h
  obtain ⟨a1, a2, a3⟩ := ok_put h4 wa k false
  obtain ⟨m1, m2, m3⟩ := ok_put h5 wm k false
  rw [← rightR_eq (s := dropS s k) ⟨a3⟩ ⟨m3⟩]
  rw [← rightR_eq ⟨wa⟩ ⟨wm⟩] at h
  unfold rightR numsP fitP at h ⊢
  simp only [Bool.and_eq_true, beq_iff_eq] at h ⊢
  obtain ⟨hf, ⟨_, _, n1, n2⟩, hs⟩ := h
  refine ⟨hf, ⟨a1, m1, a2.trans n1, m2.trans n2⟩, ?_⟩
  have en : (dropS s k).ma.n = s.ma.n := m2
  rw [en]
  unfold subTo at hs ⊢
  simp only [List.all_eq_true, List.mem_range, Bool.or_eq_true, Bool.not_eq_true'] at hs ⊢
  intro i hi
  show bitP (putB s.ma k false) i = false ∨ bitP (putB s.al k false) i = true
  rw [put_bit h5 wm (by rw [n2, ← n1]; exact hk), put_bit h4 wa hk]
  by_cases e : i = k
  · rw [if_pos e]; exact Or.inl rfl
  · rw [if_neg e, if_neg e]
    exact hs i hi
/-! ### What a round keeps of the spans -/
structure SpR (s0 s : SpanB) : Prop where
  first : s.first = s0.first
  pages : s.pages = s0.pages
  size : s.size = s0.size
  sw : s.sw = s0.sw
  right : rightP s = true
  an : s.al.n = s0.al.n
  sub : ∀ j, bitP s.al j = true → bitP s0.al j = true
def StI (h0 h : HeapB) : Prop := h.sp.length = h0.sp.length ∧ ∀ (i : Nat) s0 s, h0.sp[i]? = some s0 → h.sp[i]? = some s → SpR s0 s
theorem StI.refl {h : HeapB} (hg : GeoP h) : StI h h := ⟨rfl, fun i s0 s h1 h2 => by rw [h1] at h2; cases h2; exact ⟨rfl, rfl, rfl, rfl, okL_right hg.2.2.1 h1, rfl, fun _ hj => hj⟩⟩
structure ObS (h0 : HeapB) (o : VObj) : Prop where
  i : o.i < h0.sp.length
  k : ∀ s0, h0.sp[o.i]? = some s0 → (o.k : Int) < s0.al.n
theorem StI.drop {h0 h : HeapB} {o : VObj} {s : SpanB} (st : StI h0 h) (ob : ObS h0 o) (hs : h.sp[o.i]? = some s) (wa : Words s.al.w) (wm : Words s.ma.w) : StI h0 (dropO o s h) := by
  refine ⟨by show (List.set _ _ _).length = _; rw [List.length_set]; exact st.1, fun i s0 t h1 h2 => ?_⟩
  have h2 : (h.sp.set o.i (dropS s o.k))[i]? = some t := h2
  by_cases e : i = o.i
  · subst e
    rw [List.getElem?_set_self (List.getElem?_eq_some_iff.1 hs).1] at h2
    cases h2
    have r := st.2 _ s0 s h1 hs
    have hk := ob.k s0 h1
    rw [← r.an] at hk
    have h4 := (rightP_parts r.right).2.2.2.1
    obtain ⟨a1, a2, a3⟩ := ok_put h4 wa o.k false
    refine ⟨r.first, r.pages, r.size, r.sw, drop_right r.right wa wm hk, a2.trans r.an, fun j hj => ?_⟩
    have hj : bitP (putB s.al o.k false) j = true := hj
    rw [put_bit h4 wa hk] at hj
    split at hj
    · cases hj
    · exact r.sub j hj
  · rw [List.getElem?_set_ne (by omega)] at h2
    exact st.2 i s0 t h1 h2
theorem StI.step {h0 h : HeapB} {L S : Nat} {n : Int} {own : BitB} {os : List VObj} {f : Flt} (st : StI h0 h) (m : MI L n S h) (ho : ∀ o ∈ os, ObS h0 o) : StI h0 (mendF own os h f) := by
  unfold mendF
  split
  · exact st
  · split
    · unfold dropF
      split
      · rename_i o hf
        split
        · rename_i s hs
          obtain ⟨p1, p2, p3, p4, _⟩ := m.sp s (List.mem_of_getElem? hs)
          exact st.drop (ho o (List.mem_of_find?_eq_some hf)) hs p2 p4
        · exact st
      · exact st
    · split
      · exact st
      · exact st
theorem StI.fold {h0 : HeapB} {L S : Nat} {n : Int} {own : BitB} {os : List VObj} (ho : ∀ o ∈ os, ObS h0 o) (hob : ∀ o ∈ os, ObOk L S o) : ∀ (fs : List Flt) (h : HeapB), StI h0 h → MI L n S h → (∀ f ∈ fs, FOk L n os f) → StI h0 (fs.foldl (mendF own os) h) := by
  intro fs
  induction fs with
  | nil => intro h st _ _; exact st
  | cons f t ih =>
    intro h st m hf
    exact ih _ (st.step m ho) (m.step (hf f (List.mem_cons_self ..)) hob) (fun g hg => hf g (List.mem_cons_of_mem _ hg))
theorem okL_like {l0 l : List SpanB} (h : okL l0 = true) (hl : l.length = l0.length) (hs : ∀ (i : Nat) s0 s, l0[i]? = some s0 → l[i]? = some s → SpR s0 s) : okL l = true := by
  unfold okL
  simp only [Bool.and_eq_true, decide_eq_true_eq]
  have hn := okL_len h
  refine ⟨by omega, ?_⟩
  unfold okTo
  rw [List.all_eq_true]
  intro i hi
  have hil := List.mem_range.1 hi
  have e : l[i]? = some l[i] := List.getElem?_eq_getElem hil
  have e0 : l0[i]? = some (l0[i]'(by omega)) := List.getElem?_eq_getElem _
  have r := hs i _ _ e0 e
  unfold atOk
  rw [e]
  simp only
  rw [r.right, Bool.true_and]
  rcases i with _ | i
  · rfl
  · have ep : l[i]? = some (l[i]'(by omega)) := List.getElem?_eq_getElem _
    have ep0 : l0[i]? = some (l0[i]'(by omega)) := List.getElem?_eq_getElem _
    have rp := hs i _ _ ep0 ep
    have hx := okL_next h ep0 e0
    rw [show i + 1 - 1 = i by omega, ep]
    simp only [Bool.or_eq_true, decide_eq_true_eq]
    right
    unfold endP at hx ⊢
    rw [rp.first, rp.pages, r.first]
    exact hx
/-! ### Faults of a heap whose frame and spans are right -/
theorem mem_page {a u : BitB} {f : Flt} : ∀ n, f ∈ pgTo a u n ↔ ∃ i, i < n ∧ bitP a i ≠ bitP u i ∧ f = ⟨3, i⟩ := by
  intro n
  induction n with
  | zero => simp [pgTo]
  | succ n ih =>
    rw [pgTo, List.mem_append, ih]
    constructor
    · rintro (⟨i, h1, h2, h3⟩ | h)
      · exact ⟨i, by omega, h2, h3⟩
      · split at h
        · simp at h
        · rename_i hn
          exact ⟨n, by omega, hn, by simpa using h⟩
    · rintro ⟨i, h1, h2, h3⟩
      by_cases e : i = n
      · subst e
        right
        rw [if_neg h2]
        simpa using h3
      · exact Or.inl ⟨i, by omega, h2, h3⟩
theorem mem_head {h : HeapB} {f : Flt} : f ∈ headF h ↔ ∃ c ∈ cands h.sp, c.good h.ar = false ∧ f = ⟨4, c.a⟩ := by
  unfold headF headTo
  simp only [List.mem_map, List.mem_filter, Bool.not_eq_true']
  constructor
  · rintro ⟨c, ⟨h1, h2⟩, h3⟩; exact ⟨c, h1, h2, h3.symm⟩
  · rintro ⟨c, h1, h2, h3⟩; exact ⟨c, ⟨h1, h2⟩, h3.symm⟩
theorem mem_refTo {ar : List Int} {os : List VObj} {o : VObj} {f : Flt} : ∀ n, f ∈ refTo ar os o n ↔ ∃ i, i < n ∧ mbit o.m i = true ∧ leadsQ os (wd ar (o.a + 1 + i)) = false ∧ f = ⟨5, o.a + 1 + i⟩ := by
  intro n
  induction n with
  | zero => simp [refTo]
  | succ n ih =>
    rw [refTo, List.mem_append, ih]
    constructor
    · rintro (⟨i, h1, h2, h3, h4⟩ | h)
      · exact ⟨i, by omega, h2, h3, h4⟩
      · split at h
        · rename_i hn
          exact ⟨n, by omega, hn.1, hn.2, by simpa using h⟩
        · simp at h
    · rintro ⟨i, h1, h2, h3, h4⟩
      by_cases e : i = n
      · subst e
        right
        rw [if_pos ⟨h2, h3⟩]
        simpa using h4
      · exact Or.inl ⟨i, by omega, h2, h3, h4⟩
theorem mem_ref {h : HeapB} {f : Flt} : f ∈ refF h ↔ ∃ o ∈ vobjs h, (o.ok && o.cur) = true ∧ ∃ i, i < o.n.toNat ∧ mbit o.m i = true ∧ leadsQ (vobjs h) (wd h.ar (o.a + 1 + i)) = false ∧ f = ⟨5, o.a + 1 + i⟩ := by
  unfold refF refsTo
  rw [List.mem_flatMap]
  constructor
  · rintro ⟨o, ho, hf⟩
    unfold refO at hf
    split at hf
    · rename_i hc
      exact ⟨o, ho, hc, (mem_refTo _).1 hf⟩
    · simp at hf
  · rintro ⟨o, ho, hc, hf⟩
    refine ⟨o, ho, ?_⟩
    unfold refO
    rw [if_pos hc]
    exact (mem_refTo _).2 hf
theorem mem_dirtTo {ar : List Int} {os : List VObj} {f : Flt} : ∀ n, f ∈ dirtTo ar os n ↔ ∃ i, i < n ∧ wd ar i ≠ 0 ∧ theirs os i = false ∧ f = ⟨6, i⟩ := by
  intro n
  induction n with
  | zero => simp [dirtTo]
  | succ n ih =>
    rw [dirtTo, List.mem_append, ih]
    constructor
    · rintro (⟨i, h1, h2, h3, h4⟩ | h)
      · exact ⟨i, by omega, h2, h3, h4⟩
      · split at h
        · rename_i hn
          exact ⟨n, by omega, hn.1, hn.2, by simpa using h⟩
        · simp at h
    · rintro ⟨i, h1, h2, h3, h4⟩
      by_cases e : i = n
      · subst e
        right
        rw [if_pos ⟨h2, h3⟩]
        simpa using h4
      · exact Or.inl ⟨i, by omega, h2, h3, h4⟩
theorem geo_faults {h : HeapB} (hg : GeoP h) : faultsP h = restF h := by
  obtain ⟨h1, h2⟩ := geo_iff.1 hg
  unfold faultsP
  rw [if_pos h1, if_pos h2]
theorem mem_rest {h : HeapB} {f : Flt} : f ∈ restF h ↔ f ∈ pageF h ∨ f ∈ headF h ∨ f ∈ refF h ∨ f ∈ dirtF h := by
  unfold restF
  simp only [List.mem_append, or_assoc]
theorem geo_fok {h : HeapB} (hg : GeoP h) : ∀ f ∈ faultsP h, FOk h.ar.length h.us.n (vobjs h) f := by
  rw [geo_faults hg]
  have hfit := fitQ_of hg
  intro f hf
  rcases mem_rest.1 hf with hf | hf | hf | hf
  · obtain ⟨i, h1, _, rfl⟩ := (mem_page _).1 hf
    exact Or.inl ⟨rfl, by show ((i : Nat) : Int) < _; omega⟩
  · obtain ⟨c, h1, _, rfl⟩ := mem_head.1 hf
    exact Or.inr (Or.inl ⟨rfl, _, List.mem_map.2 ⟨c, h1, rfl⟩, rfl⟩)
  · obtain ⟨o, ho, hc, i, hi, _, _, rfl⟩ := mem_ref.1 hf
    simp only [Bool.and_eq_true] at hc
    have := hfit.each o ho hc.1
    exact Or.inr (Or.inr (Or.inl ⟨rfl, by show o.a + 1 + i < _; omega⟩))
  · obtain ⟨i, h1, _, _, rfl⟩ := (mem_dirtTo _).1 hf
    exact Or.inr (Or.inr (Or.inr ⟨rfl, h1⟩))
theorem geo_ob {h : HeapB} (hg : GeoP h) : (∀ o ∈ vobjs h, ObOk h.ar.length h.sp.length o) ∧ ∀ o ∈ vobjs h, ObS h o := by
  obtain ⟨g1, g2, g3, g4, g5, g6⟩ := hg
  have key : ∀ o ∈ vobjs h, ObOk h.ar.length h.sp.length o ∧ ObS h o := by
    intro o ho
    obtain ⟨c, hc, rfl⟩ := List.mem_map.1 ho
    obtain ⟨e1, e2, e3, e4⟩ := cand_end g3 hc
    obtain ⟨hs, hk, _⟩ := mem_cands hc
    have h6 := g6 c.s (List.mem_of_getElem? hs)
    have hi := (List.getElem?_eq_some_iff.1 hs).1
    unfold endP at e2
    refine ⟨⟨hi, by show c.a + c.room ≤ _; omega, by show 0 < c.room; omega⟩, ⟨hi, fun s0 h0 => ?_⟩⟩
    have h0 : h.sp[c.i]? = some s0 := h0
    rw [hs] at h0
    cases h0
    show ((c.k : Nat) : Int) < _
    omega
  exact ⟨fun o ho => (key o ho).1, fun o ho => (key o ho).2⟩
theorem geo_mi {h : HeapB} (hg : GeoP h) (hw : WfH h) : MI h.ar.length h.us.n h.sp.length h := by
  refine ⟨rfl, hw.ar, rfl, hg.2.1, hw.us, rfl, fun s hs => ?_⟩
  obtain ⟨i, hi, rfl⟩ := List.getElem_of_mem hs
  have hr := rightP_parts (okL_right hg.2.2.1 (List.getElem?_eq_getElem hi))
  have hwf := hw.sp _ hs
  exact ⟨hr.2.2.2.1, hwf.al.words, hr.2.2.2.2.1, hwf.ma.words, hwf.f1, hwf.p1, hwf.z1⟩
def mendS (h : HeapB) : HeapB := (faultsP h).foldl (mendF (wantTo (want0 h.us.n) h.sp) (vobjs h)) h
theorem mendS_mi {h : HeapB} (hg : GeoP h) (hw : WfH h) : MI h.ar.length h.us.n h.sp.length (mendS h) := MI.fold (geo_ob hg).1 _ _ (geo_mi hg hw) (geo_fok hg)
theorem mendS_st {h : HeapB} (hg : GeoP h) (hw : WfH h) : StI h (mendS h) := StI.fold (geo_ob hg).2 (geo_ob hg).1 _ _ (StI.refl hg) (geo_mi hg hw) (geo_fok hg)
theorem mendS_geo {h : HeapB} (hg : GeoP h) (hw : WfH h) : GeoP (mendS h) := by
  have m := mendS_mi hg hw
  have st := mendS_st hg hw
  obtain ⟨g1, g2, g3, g4, g5, g6⟩ := hg
  refine ⟨by rw [m.len]; exact g1, m.ok, okL_like g3 st.1 st.2, by rw [m.n]; exact g4, by rw [m.len, m.n]; exact g5, fun s hs => ?_⟩
  obtain ⟨i, hi, rfl⟩ := List.getElem_of_mem hs
  have hi0 : i < h.sp.length := by rw [← st.1]; exact hi
  have r := st.2 i _ _ (List.getElem?_eq_getElem hi0) (List.getElem?_eq_getElem hi)
  rw [r.first, r.pages, m.n]
  exact g6 _ (List.getElem_mem hi0)
/-! ### Pages are as they should be -/
theorem want_like : ∀ (l0 l : List SpanB) (b : BitB), l.length = l0.length → (∀ (i : Nat) s0 s, l0[i]? = some s0 → l[i]? = some s → s.first = s0.first ∧ s.pages = s0.pages) → wantTo b l = wantTo b l0 := by
  intro l0
  induction l0 with
  | nil =>
    intro l b hl _
    obtain rfl : l = [] := List.eq_nil_of_length_eq_zero (by simpa using hl)
    rfl
  | cons s0 t0 ih =>
    intro l b hl hs
    rcases l with _ | ⟨s, t⟩
    · simp at hl
    · obtain ⟨e1, e2⟩ := hs 0 s0 s rfl rfl
      rw [wantTo, wantTo, e1, e2]
      exact ih t _ (by simpa using hl) (fun i a b ha hb => hs (i + 1) a b ha hb)
theorem us_fold {L S : Nat} {n : Int} {own : BitB} {os : List VObj} (hob : ∀ o ∈ os, ObOk L S o) (i : Nat) : ∀ (fs : List Flt) (h : HeapB), MI L n S h → (∀ f ∈ fs, FOk L n os f) → bitP (fs.foldl (mendF own os) h).us i = if (⟨3, i⟩ : Flt) ∈ fs then bitP own i else bitP h.us i := by
  intro fs
  induction fs with
  | nil => intro h _ _; simp
  | cons f t ih =>
    intro h m hf
    have hff := hf f (List.mem_cons_self ..)
    rw [List.foldl_cons, ih _ (m.step hff hob) (fun g hg => hf g (List.mem_cons_of_mem _ hg))]
    by_cases ht : (⟨3, i⟩ : Flt) ∈ t
    · rw [if_pos ht, if_pos (List.mem_cons_of_mem _ ht)]
    · rw [if_neg ht]
      by_cases hk : f.k = 3
      · have e : mendF own os h f = { h with us := putB h.us f.a (bitP own f.a) } := by unfold mendF; rw [if_pos hk]
        have ha : (f.a : Int) < n := by
          rcases hff with ⟨_, h1⟩ | ⟨h1, _⟩ | ⟨h1, _⟩ | ⟨h1, _⟩
          · exact h1
          all_goals omega
        rw [e]
        show bitP (putB h.us f.a (bitP own f.a)) i = _
        rw [put_bit m.ok m.wu (by rw [m.n]; exact ha)]
        by_cases hi : i = f.a
        · rw [if_pos hi, if_pos, hi]
          have : f = ⟨3, i⟩ := by cases f; simp only at hk hi; rw [hk, hi]
          rw [this]
          exact List.mem_cons_self ..
        · rw [if_neg hi, if_neg]
          intro hc
          rcases List.mem_cons.1 hc with hc | hc
          · rw [← hc] at hi; exact hi rfl
          · exact ht hc
      · have e : (mendF own os h f).us = h.us := by
          unfold mendF
          rw [if_neg hk]
          split
          · unfold dropF
            split
            · split <;> rfl
            · rfl
          · split <;> rfl
        rw [e, if_neg]
        intro hc
        rcases List.mem_cons.1 hc with hc | hc
        · rw [← hc] at hk; exact hk rfl
        · exact ht hc
theorem mendS_page {h : HeapB} (hg : GeoP h) (hw : WfH h) : pageF (mendS h) = [] := by
  have m := mendS_mi hg hw
  have st := mendS_st hg hw
  unfold pageF
  rw [pgTo_nil]
  intro i hi
  rw [m.n] at hi ⊢
  rw [want_like h.sp (mendS h).sp _ st.1 (fun i s0 s h1 h2 => ⟨(st.2 i s0 s h1 h2).first, (st.2 i s0 s h1 h2).pages⟩)]
  have e := us_fold (own := wantTo (want0 h.us.n) h.sp) (geo_ob hg).1 i _ _ (geo_mi hg hw) (geo_fok hg)
  show _ = bitP ((faultsP h).foldl _ h).us i
  rw [e]
  split
  · rfl
  · rename_i hn
    rw [geo_faults hg] at hn
    by_cases hc : bitP (wantTo (want0 h.us.n) h.sp) i = bitP h.us i
    · exact hc
    · exact absurd (mem_rest.2 (Or.inl ((mem_page _).2 ⟨i, hi, hc, rfl⟩))) hn
end Go.Proofs.YtieijfefnedifaaGreatDoor

/- Mending, plain: rounds come to an end, and what is left is right. -/
namespace Go.Proofs.YtieijfefnedifaaGreatDoor
open Go.RowKit
set_option linter.unusedVariables false
set_option linter.unusedSimpArgs false

/-! ### Where no head is wrong -/
theorem wd_set (l : List Int) (k j : Nat) : wd (l.set k 0) j = if j = k then 0 else wd l j := by
  unfold wd
  by_cases e : j = k
  · subst e
    rw [if_pos rfl]
    by_cases h : j < l.length
    · rw [List.getElem?_set_self h]
    · rw [List.getElem?_eq_none (by rw [List.length_set]; omega)]
  · rw [if_neg e, List.getElem?_set_ne (by omega)]
theorem ar_fold {own : BitB} {os : List VObj} (j : Nat) : ∀ (fs : List Flt) (h : HeapB), (∀ f ∈ fs, f.k ≠ 4) → (fs.foldl (mendF own os) h).sp = h.sp ∧ wd (fs.foldl (mendF own os) h).ar j = if (⟨5, j⟩ : Flt) ∈ fs ∨ (⟨6, j⟩ : Flt) ∈ fs then 0 else wd h.ar j := by
  intro fs
  induction fs with
  | nil => intro h _; simp
  | cons f t ih =>
    intro h hf
    have hk := hf f (List.mem_cons_self ..)
    obtain ⟨e1, e2⟩ := ih (mendF own os h f) (fun g hg => hf g (List.mem_cons_of_mem _ hg))
    rw [List.foldl_cons]
    refine ⟨e1.trans ?_, e2.trans ?_⟩
    · unfold mendF
      rw [if_neg hk]
      split
      · rfl
      · split <;> rfl
    · by_cases ht : (⟨5, j⟩ : Flt) ∈ t ∨ (⟨6, j⟩ : Flt) ∈ t
      · rw [if_pos ht, if_pos]
        rcases ht with ht | ht
        · exact Or.inl (List.mem_cons_of_mem _ ht)
        · exact Or.inr (List.mem_cons_of_mem _ ht)
      · rw [if_neg ht]
        by_cases h56 : f.k = 5 ∨ f.k = 6
        · have e : mendF own os h f = { h with ar := h.ar.set f.a 0 } := by unfold mendF; rw [if_neg (by omega), if_neg hk, if_pos h56]
          rw [e]
          show wd (h.ar.set f.a 0) j = _
          rw [wd_set]
          by_cases hj : j = f.a
          · rw [if_pos hj, if_pos]
            rcases h56 with h5 | h5
            · left
              have : f = ⟨5, j⟩ := by cases f; simp only at h5 hj; rw [h5, hj]
              rw [this]; exact List.mem_cons_self ..
            · right
              have : f = ⟨6, j⟩ := by cases f; simp only at h5 hj; rw [h5, hj]
              rw [this]; exact List.mem_cons_self ..
          · rw [if_neg hj, if_neg]
            rintro (hc | hc)
            · rcases List.mem_cons.1 hc with hc | hc
              · rw [← hc] at hj; exact hj rfl
              · exact ht (Or.inl hc)
            · rcases List.mem_cons.1 hc with hc | hc
              · rw [← hc] at hj; exact hj rfl
              · exact ht (Or.inr hc)
        · have e : (mendF own os h f).ar = h.ar := by
            unfold mendF
            rw [if_neg hk, if_neg h56]
            split <;> rfl
          rw [e, if_neg]
          rintro (hc | hc)
          · rcases List.mem_cons.1 hc with hc | hc
            · rw [← hc] at h56; exact h56 (Or.inl rfl)
            · exact ht (Or.inl hc)
          · rcases List.mem_cons.1 hc with hc | hc
            · rw [← hc] at h56; exact h56 (Or.inr rfl)
            · exact ht (Or.inr hc)
theorem theirs_cand {h : HeapB} (hg : GeoP h) {c : Cand} (hc : c ∈ cands h.sp) : theirs (vobjs h) c.a = true := by
  unfold theirs
  rw [List.any_eq_true]
  refine ⟨_, List.mem_map.2 ⟨c, hc, rfl⟩, ?_⟩
  have h2 := (cand_end hg.2.2.1 hc).2.2.1
  simp only [Bool.and_eq_true, decide_eq_true_eq]
  unfold VObj.wide Cand.vobj
  simp only
  refine ⟨Nat.le_refl _, ?_⟩
  split <;> omega
theorem mendS_right {h : HeapB} (hg : GeoP h) (hw : WfH h) (hh : headF h = []) : faultsP (mendS h) = [] := by
  have hl := headF_nil.1 hh
  have hfit := fitQ_of hg
  have hno : ∀ f ∈ faultsP h, f.k ≠ 4 := by
    rw [geo_faults hg]
    intro f hf
    rcases mem_rest.1 hf with hf | hf | hf | hf
    · obtain ⟨i, _, _, rfl⟩ := (mem_page _).1 hf; simp
    · rw [hh] at hf; simp at hf
    · obtain ⟨o, _, _, i, _, _, _, rfl⟩ := mem_ref.1 hf; simp
    · obtain ⟨i, _, _, _, rfl⟩ := (mem_dirtTo _).1 hf; simp
  have hsp : (mendS h).sp = h.sp := (ar_fold 0 _ _ hno).1
  have har : ∀ j, wd (mendS h).ar j = if (⟨5, j⟩ : Flt) ∈ faultsP h ∨ (⟨6, j⟩ : Flt) ∈ faultsP h then 0 else wd h.ar j := fun j => (ar_fold j _ _ hno).2
  have m5 : ∀ j, (⟨5, j⟩ : Flt) ∈ faultsP h ↔ ∃ o ∈ vobjs h, (o.ok && o.cur) = true ∧ ∃ i, i < o.n.toNat ∧ mbit o.m i = true ∧ leadsQ (vobjs h) (wd h.ar (o.a + 1 + i)) = false ∧ j = o.a + 1 + i := by
    intro j
    rw [geo_faults hg, mem_rest]
    constructor
    · rintro (hf | hf | hf | hf)
      · obtain ⟨i, _, _, e⟩ := (mem_page _).1 hf; simp at e
      · rw [hh] at hf; simp at hf
      · obtain ⟨o, ho, hc, i, hi, h1, h2, e⟩ := mem_ref.1 hf
        exact ⟨o, ho, hc, i, hi, h1, h2, by simpa using e⟩
      · obtain ⟨i, _, _, _, e⟩ := (mem_dirtTo _).1 hf; simp at e
    · rintro ⟨o, ho, hc, i, hi, h1, h2, e⟩
      exact Or.inr (Or.inr (Or.inl (mem_ref.2 ⟨o, ho, hc, i, hi, h1, h2, by rw [e]⟩)))
  have m6 : ∀ j, (⟨6, j⟩ : Flt) ∈ faultsP h ↔ j < h.ar.length ∧ wd h.ar j ≠ 0 ∧ theirs (vobjs h) j = false := by
    intro j
    rw [geo_faults hg, mem_rest]
    constructor
    · rintro (hf | hf | hf | hf)
      · obtain ⟨i, _, _, e⟩ := (mem_page _).1 hf; simp at e
      · rw [hh] at hf; simp at hf
      · obtain ⟨o, ho, hc, i, hi, h1, h2, e⟩ := mem_ref.1 hf; simp at e
      · obtain ⟨i, h1, h2, h3, e⟩ := (mem_dirtTo _).1 hf
        obtain rfl : j = i := by simpa using e
        exact ⟨h1, h2, h3⟩
    · rintro ⟨h1, h2, h3⟩
      exact Or.inr (Or.inr (Or.inr ((mem_dirtTo _).2 ⟨j, h1, h2, h3, rfl⟩)))
  -- heads stand as they stood
  have hhd : ∀ c ∈ cands h.sp, wd (mendS h).ar c.a = wd h.ar c.a := by
    intro c hc
    rw [har, if_neg]
    rintro (hf | hf)
    · obtain ⟨o, ho, hok, i, hi, _, _, e⟩ := (m5 _).1 hf
      obtain ⟨d, hd, rfl⟩ := List.mem_map.1 ho
      have hgd := look_good hl hd
      obtain ⟨e1, e2, e3, e4⟩ := cand_end hg.2.2.1 hd
      have hr := good_room hgd e4
      rw [vobj_good hgd] at hi e
      simp only at hi e
      obtain ⟨x, hx, ex⟩ := List.getElem_of_mem hc
      obtain ⟨y, hy, ey⟩ := List.getElem_of_mem hd
      rcases Nat.lt_trichotomy x y with hxy | hxy | hxy
      · have := List.pairwise_iff_getElem.1 (cands_apart hg.2.2.1) x y hx hy hxy
        rw [ex, ey] at this
        omega
      · subst hxy
        rw [ex] at ey
        subst ey
        omega
      · have := List.pairwise_iff_getElem.1 (cands_apart hg.2.2.1) y x hy hx hxy
        rw [ex, ey] at this
        omega
    · have h3 := ((m6 _).1 hf).2.2
      rw [theirs_cand hg hc] at h3
      cases h3
  have hgood : ∀ c ∈ cands h.sp, c.good (mendS h).ar = c.good h.ar := fun c hc => by unfold Cand.good; rw [hhd c hc]
  have hvo : vobjs (mendS h) = vobjs h := by
    unfold vobjs
    rw [hsp]
    refine List.map_congr_left fun c hc => ?_
    unfold Cand.vobj
    rw [hhd c hc, hgood c hc]
  have hg2 := mendS_geo hg hw
  rw [geo_faults hg2]
  unfold restF
  rw [mendS_page hg hw, List.nil_append]
  have e1 : headF (mendS h) = [] := by
    rw [headF_nil]
    unfold lookP
    rw [hsp, List.all_eq_true]
    intro c hc
    rw [hgood c hc]
    exact look_good hl hc
  have e2 : refF (mendS h) = [] := by
    unfold refF refsTo
    rw [List.flatMap_eq_nil_iff, hvo]
    intro o ho
    unfold refO
    split
    · rename_i hc
      rw [refTo_nil]
      intro i hi hm
      rw [har]
      split
      · unfold leadsQ
        simp
      · rename_i hn
        cases hld : leadsQ (vobjs h) (wd h.ar (o.a + 1 + i))
        · exact absurd (Or.inl ((m5 _).2 ⟨o, ho, hc, i, hi, hm, hld, rfl⟩)) hn
        · rfl
    · rfl
  have e3 : dirtF (mendS h) = [] := by
    unfold dirtF
    rw [dirtTo_nil, hvo]
    intro i hi ht
    rw [(mendS_mi hg hw).len] at hi
    rw [har]
    split
    · rfl
    · rename_i hn
      by_cases hz : wd h.ar i = 0
      · exact hz
      · exact absurd (Or.inr ((m6 _).2 ⟨hi, hz, ht⟩)) hn
  rw [e1, e2, e3]
  rfl
/-! ### Where heads are wrong there are fewer objects -/
theorem slots_le {i i' : Nat} {s0 s : SpanB} (hs : ∀ j, bitP s.al j = true → bitP s0.al j = true) : ∀ k, (slotsTo i s k).length ≤ (slotsTo i' s0 k).length := by
  intro k
  induction k with
  | zero => simp [slotsTo]
  | succ k ih =>
    cases h1 : bitP s.al k
    · rw [slotsTo_succ_no h1]
      cases h2 : bitP s0.al k
      · rw [slotsTo_succ_no h2]; exact ih
      · rw [slotsTo_succ_yes h2, List.length_append]; omega
    · rw [slotsTo_succ_yes h1, slotsTo_succ_yes (hs k h1), List.length_append, List.length_append]
      simpa using ih
theorem slots_lt {i i' : Nat} {s0 s : SpanB} (hs : ∀ j, bitP s.al j = true → bitP s0.al j = true) {j : Nat} (h0 : bitP s0.al j = true) (h1 : bitP s.al j = false) : ∀ k, j < k → (slotsTo i s k).length < (slotsTo i' s0 k).length := by
  intro k
  induction k with
  | zero => intro h; omega
  | succ k ih =>
    intro hj
    by_cases e : j = k
    · subst e
      rw [slotsTo_succ_no h1, slotsTo_succ_yes h0, List.length_append]
      have := slots_le (i := i) (i' := i') hs j
      simp
      omega
    · have := ih (by omega)
      cases h3 : bitP s.al k
      · rw [slotsTo_succ_no h3]
        cases h4 : bitP s0.al k
        · rw [slotsTo_succ_no h4]; exact this
        · rw [slotsTo_succ_yes h4, List.length_append]; omega
      · rw [slotsTo_succ_yes h3, slotsTo_succ_yes (hs k h3), List.length_append, List.length_append]
        simpa using this
theorem cands_lt {l0 l : List SpanB} (hl : l.length = l0.length) (hs : ∀ (i : Nat) s0 s, l0[i]? = some s0 → l[i]? = some s → SpR s0 s) {i0 j0 : Nat} {s0 s : SpanB} (h0 : l0[i0]? = some s0) (h1 : l[i0]? = some s) (hj : j0 < s0.al.n.toNat) (b0 : bitP s0.al j0 = true) (b1 : bitP s.al j0 = false) :
    (cands l).length < (cands l0).length := by
  have hi0 := (List.getElem?_eq_some_iff.1 h0).1
  have key : ∀ i, i ≤ l0.length → (candTo l i).length ≤ (candTo l0 i).length ∧ (i0 < i → (candTo l i).length < (candTo l0 i).length) := by
    intro i
    induction i with
    | zero => intro _; exact ⟨by simp [candTo], fun h => by omega⟩
    | succ i ih =>
      intro hi
      obtain ⟨a, b⟩ := ih (by omega)
      have e0 : l0[i]? = some l0[i] := List.getElem?_eq_getElem (by omega)
      have e1 : l[i]? = some (l[i]'(by omega)) := List.getElem?_eq_getElem _
      have r := hs i _ _ e0 e1
      have hle := slots_le (i := i) (i' := i) r.sub l0[i].al.n.toNat
      rw [candTo_succ e0, candTo_succ e1, List.length_append, List.length_append, r.an]
      refine ⟨by omega, fun hlt => ?_⟩
      by_cases e : i0 = i
      · subst e
        rw [e0] at h0
        rw [e1] at h1
        cases h0
        cases h1
        have := slots_lt (i := i0) (i' := i0) r.sub b0 b1 _ hj
        omega
      · have := b (by omega)
        omega
  unfold cands
  rw [hl]
  exact (key l0.length (Nat.le_refl _)).2 hi0
theorem al_fold {h0 : HeapB} {L S : Nat} {n : Int} {own : BitB} {os : List VObj} (hs : ∀ o ∈ os, ObS h0 o) (hob : ∀ o ∈ os, ObOk L S o) : ∀ (fs : List Flt) (h : HeapB), StI h0 h → MI L n S h → (∀ f ∈ fs, FOk L n os f) → (∃ f ∈ fs, f.k = 4) →
    ∃ o ∈ os, ∀ s, (fs.foldl (mendF own os) h).sp[o.i]? = some s → bitP s.al o.k = false := by
  intro fs
  induction fs with
  | nil => intro h _ _ _ ⟨f, hf, _⟩; simp at hf
  | cons f t ih =>
    intro h st m hf hex
    have hff := hf f (List.mem_cons_self ..)
    have m1 := m.step (own := own) hff hob
    have st1 := st.step (own := own) (f := f) m hs
    have ht : ∀ g ∈ t, FOk L n os g := fun g hg => hf g (List.mem_cons_of_mem _ hg)
    rw [List.foldl_cons]
    by_cases hk : f.k = 4
    · rcases hff with ⟨h1, _⟩ | ⟨_, ha⟩ | ⟨h1, _⟩ | ⟨h1, _⟩
      · omega
      · obtain ⟨o, ix, q1, q2, q3, q4⟩ := find_idx ha
        have hmem := List.mem_of_getElem? q1
        have ob := hob o hmem
        have hsx : h.sp[o.i]? = some (h.sp[o.i]'(by rw [m.sl]; exact ob.i)) := List.getElem?_eq_getElem _
        generalize (h.sp[o.i]'_) = s at hsx
        refine ⟨o, hmem, ?_⟩
        have e : mendF own os h f = dropO o s h := by
          unfold mendF
          rw [if_neg (by omega), if_pos hk, ← q2]
          exact dropF_of (by rw [q2]; exact q4) hsx
        have hstF := StI.fold (own := own) hs hob t _ st1 m1 ht
        -- the bit is clear behind this step, and stays so
        have hclr : ∀ (ts : List Flt) (g : HeapB), StI h0 g → MI L n S g → (∀ f ∈ ts, FOk L n os f) → (∀ s, g.sp[o.i]? = some s → bitP s.al o.k = false) → ∀ s, (ts.foldl (mendF own os) g).sp[o.i]? = some s → bitP s.al o.k = false := by
          intro ts
          induction ts with
          | nil => intro g _ _ _ hg; exact hg
          | cons u us ihu =>
            intro g sg mg hu hg
            refine ihu _ (sg.step mg hs) (mg.step (hu u (List.mem_cons_self ..)) hob) (fun x hx => hu x (List.mem_cons_of_mem _ hx)) ?_
            intro s' hs'
            unfold mendF at hs'
            split at hs'
            · exact hg s' hs'
            · split at hs'
              · unfold dropF at hs'
                split at hs'
                · rename_i p hp
                  split at hs'
                  · rename_i sp hsp
                    have hs' : (g.sp.set p.i (dropS sp p.k))[o.i]? = some s' := hs'
                    by_cases e2 : o.i = p.i
                    · rw [e2, List.getElem?_set_self (List.getElem?_eq_some_iff.1 hsp).1] at hs'
                      cases hs'
                      obtain ⟨p1, p2, _⟩ := mg.sp sp (List.mem_of_getElem? hsp)
                      have r := sg.2 p.i (h0.sp[p.i]'(hs p (List.mem_of_find?_eq_some hp)).i) sp (List.getElem?_eq_getElem _) hsp
                      have hpk := (hs p (List.mem_of_find?_eq_some hp)).k _ (List.getElem?_eq_getElem (hs p (List.mem_of_find?_eq_some hp)).i)
                      show bitP (putB sp.al p.k false) o.k = false
                      rw [put_bit p1 p2 (by rw [r.an]; exact hpk)]
                      split
                      · rfl
                      · exact hg sp (by rw [e2]; exact hsp)
                    · rw [List.getElem?_set_ne (by omega)] at hs'
                      exact hg s' hs'
                  · exact hg s' hs'
                · exact hg s' hs'
              · split at hs'
                · exact hg s' hs'
                · exact hg s' hs'
        refine hclr t _ st1 m1 ht ?_
        rw [e]
        intro s' hs'
        have hs' : (h.sp.set o.i (dropS s o.k))[o.i]? = some s' := hs'
        rw [List.getElem?_set_self (List.getElem?_eq_some_iff.1 hsx).1] at hs'
        cases hs'
        obtain ⟨p1, p2, _⟩ := m.sp s (List.mem_of_getElem? hsx)
        have hi0 := (hs o hmem).i
        have r := st.2 o.i (h0.sp[o.i]'hi0) s (List.getElem?_eq_getElem _) hsx
        have hpk := (hs o hmem).k _ (List.getElem?_eq_getElem hi0)
        show bitP (putB s.al o.k false) o.k = false
        rw [put_bit p1 p2 (by rw [r.an]; exact hpk), if_pos rfl]
      · omega
      · omega
    · obtain ⟨g, hg, hgk⟩ := hex
      rcases List.mem_cons.1 hg with rfl | hg
      · exact absurd hgk hk
      · exact ih _ st1 m1 ht ⟨g, hg, hgk⟩
theorem mendS_fewer {h : HeapB} (hg : GeoP h) (hw : WfH h) (hh : headF h ≠ []) : (cands (mendS h).sp).length < (cands h.sp).length := by
  obtain ⟨f, hf⟩ := List.exists_mem_of_ne_nil _ hh
  obtain ⟨c, hc, _, rfl⟩ := mem_head.1 hf
  have hex : ∃ f ∈ faultsP h, f.k = 4 := ⟨_, by rw [geo_faults hg]; exact mem_rest.2 (Or.inr (Or.inl hf)), rfl⟩
  have st := mendS_st hg hw
  obtain ⟨o, ho, hcl⟩ := al_fold (own := wantTo (want0 h.us.n) h.sp) (geo_ob hg).2 (geo_ob hg).1 _ _ (StI.refl hg) (geo_mi hg hw) (geo_fok hg) hex
  obtain ⟨d, hd, rfl⟩ := List.mem_map.1 ho
  obtain ⟨hs, hk, hb⟩ := mem_cands hd
  have hi := (List.getElem?_eq_some_iff.1 hs).1
  have h1 : (mendS h).sp[d.i]? = some ((mendS h).sp[d.i]'(by rw [st.1]; exact hi)) := List.getElem?_eq_getElem _
  exact cands_lt st.1 st.2 hs h1 hk hb (hcl _ h1)
end Go.Proofs.YtieijfefnedifaaGreatDoor
