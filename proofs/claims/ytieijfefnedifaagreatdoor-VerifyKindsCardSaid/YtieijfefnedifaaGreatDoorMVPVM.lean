/- Faults, plain: there are none just if a heap is right. -/
import Derived.Test.YtieijfefnedifaaGreatDoorMVF0VJ
import Derived.Test.YtieijfefnedifaaGreatDoorMD4H4
namespace Go.Proofs.YtieijfefnedifaaGreatDoor
open Go.RowKit
set_option linter.unusedVariables false
set_option linter.unusedSimpArgs false

def refTo (ar : List Int) (os : List VObj) (o : VObj) : Nat → List Flt
  | 0 => []
  | f + 1 => refTo ar os o f ++ (if mbit o.m f = true ∧ leadsQ os (wd ar (o.a + 1 + f)) = false then [⟨5, o.a + 1 + f⟩] else [])
def refO (ar : List Int) (os : List VObj) (o : VObj) : List Flt := if (o.ok && o.cur) = true then refTo ar os o o.n.toNat else []
def refsTo (ar : List Int) (os l : List VObj) : List Flt := l.flatMap (refO ar os)
def refF (h : HeapB) : List Flt := refsTo h.ar (vobjs h) (vobjs h)
def VObj.wide (o : VObj) : Nat := if o.ok then o.n.toNat + 1 else o.r
def theirs (os : List VObj) (i : Nat) : Bool := os.any (fun o => decide (o.a ≤ i) && decide (i < o.a + o.wide))
def dirtTo (ar : List Int) (os : List VObj) : Nat → List Flt
  | 0 => []
  | i + 1 => dirtTo ar os i ++ (if wd ar i ≠ 0 ∧ theirs os i = false then [⟨6, i⟩] else [])
def dirtF (h : HeapB) : List Flt := dirtTo h.ar (vobjs h) h.ar.length
def pageF (h : HeapB) : List Flt := pgTo (wantTo (want0 h.us.n) h.sp) h.us h.us.n.toNat
def spanF (h : HeapB) : List Flt := spansF h.us.n h.sp
def restF (h : HeapB) : List Flt := pageF h ++ headF h ++ refF h ++ dirtF h
def faultsP (h : HeapB) : List Flt := if frameOk h = true then (if spanF h = [] then restF h else spanF h) else [⟨1, 0⟩]
/-! ### Frame and spans -/
theorem spSt_nil {N : Int} {l : List SpanB} : ∀ k, k ≤ l.length → ((spSt N l k).2 = [] ↔ okTo l k = true ∧ ∀ i s, i < k → l[i]? = some s → 1 ≤ s.first ∧ s.first + s.pages ≤ N) ∧
    ((spSt N l k).2 = [] → (k = 0 ∧ (spSt N l k).1 = 1) ∨ ∃ s, 0 < k ∧ l[k - 1]? = some s ∧ (spSt N l k).1 = max 1 (endP s)) := by
  intro k
  induction k with
  | zero =>
    intro _
    refine ⟨⟨fun _ => ⟨by simp [okTo], fun i s hi => by omega⟩, fun _ => rfl⟩, fun _ => Or.inl ⟨rfl, rfl⟩⟩
  | succ k ih =>
    intro hk
    obtain ⟨ih1, ih2⟩ := ih (by omega)
    have hs : l[k]? = some l[k] := List.getElem?_eq_getElem (by omega)
    generalize l[k] = s at hs
    rw [spSt_next hs]
    simp only
    constructor
    · constructor
      · intro h
        obtain ⟨h1, h2⟩ := List.append_eq_nil_iff.1 h
        obtain ⟨g1, g2⟩ := ih1.1 h1
        have hen := ih2 h1
        unfold spNew at h2
        split at h2
        · rename_i hr
          simp only at h2
          split at h2
          · simp at h2
          · rename_i hn
            have hb : 1 ≤ s.first ∧ s.first + s.pages ≤ N := by
              rcases hen with ⟨_, e⟩ | ⟨p, _, _, e⟩ <;> rw [e] at hn <;> omega
            refine ⟨?_, ?_⟩
            · rw [okTo_succ, g1, Bool.true_and]
              unfold atOk
              rw [hs]
              simp only
              rw [hr, Bool.true_and]
              rcases hen with ⟨e, _⟩ | ⟨p, hp0, hp, e⟩
              · simp [e]
              · rw [hp]
                simp only [Bool.or_eq_true, decide_eq_true_eq]
                right
                rw [e] at hn
                omega
            · intro i t hi ht
              by_cases e : i = k
              · subst e
                rw [hs] at ht
                cases ht
                exact hb
              · exact g2 i t (by omega) ht
        · simp at h2
      · rintro ⟨h1, h2⟩
        rw [okTo_succ, Bool.and_eq_true] at h1
        have h3 := ih1.2 ⟨h1.1, fun i t hi ht => h2 i t (by omega) ht⟩
        rw [h3, List.nil_append]
        have hen := ih2 h3
        have hr := atOk_right hs h1.2
        unfold spNew
        rw [if_pos hr]
        simp only
        have hb := h2 k s (by omega) hs
        rw [if_neg]
        rintro (hc | hc)
        · rcases hen with ⟨_, e⟩ | ⟨p, hp0, hp, e⟩
          · rw [e] at hc; omega
          · have ha := h1.2
            have hk1 : k - 1 + 1 = k := by omega
            rw [show k = k - 1 + 1 from hk1.symm] at ha hs
            rw [atOk_next hp hs] at ha
            simp only [Bool.and_eq_true, decide_eq_true_eq] at ha
            rw [e] at hc
            omega
        · omega
    · intro h
      obtain ⟨h1, h2⟩ := List.append_eq_nil_iff.1 h
      refine Or.inr ⟨s, by omega, by simpa using hs, ?_⟩
      unfold spNew at h2 ⊢
      split at h2
      · rename_i hr
        rw [if_pos hr]
        rfl
      · simp at h2
theorem spansF_nil {N : Int} {l : List SpanB} : spansF N l = [] ↔ okL l = true ∧ ∀ s ∈ l, 1 ≤ s.first ∧ s.first + s.pages ≤ N := by
  unfold spansF okL
  split
  · rename_i hl
    rw [(spSt_nil l.length (Nat.le_refl _)).1]
    simp only [Bool.and_eq_true, decide_eq_true_eq]
    constructor
    · rintro ⟨h1, h2⟩
      refine ⟨⟨hl, h1⟩, fun s hs => ?_⟩
      obtain ⟨i, hi, rfl⟩ := List.getElem_of_mem hs
      exact h2 i _ hi (List.getElem?_eq_getElem hi)
    · rintro ⟨⟨_, h1⟩, h2⟩
      exact ⟨h1, fun i s hi hs => h2 s (List.mem_of_getElem? hs)⟩
  · rename_i hl
    simp [hl]
theorem fills_of {l : List SpanB} (hr : ∀ s ∈ l, rightP s = true) : ∀ {b : BitB}, okB b = true → Words b.w → (∀ s ∈ l, 1 ≤ s.first ∧ s.first + s.pages ≤ b.n) → fillsTo b l = true := by
  induction l with
  | nil => intro b _ _ _; rfl
  | cons x t ih =>
    intro b hb hw h
    rw [fillsTo]
    simp only [Bool.and_eq_true, beq_iff_eq, decide_eq_true_eq]
    obtain ⟨o1, o2, o3⟩ := ok_fill hb hw x.first x.pages true
    have hx := h x (List.mem_cons_self ..)
    have hsh := span_shape (hr x (List.mem_cons_self ..))
    refine ⟨?_, hx.1, ih (fun s hs => hr s (List.mem_cons_of_mem _ hs)) o1 o3 (fun s hs => by rw [o2]; exact h s (List.mem_cons_of_mem _ hs))⟩
    unfold fillE
    rw [if_pos hb, if_pos]
    exact ⟨by omega, by omega, by omega, by omega⟩
theorem frameOk_iff {h : HeapB} : frameOk h = true ↔ h.ar.length ≤ 16384 ∧ okB h.us = true ∧ 1 ≤ h.us.n ∧ (h.ar.length : Int) = h.us.n * 16 := by
  unfold frameOk
  simp only [Bool.and_eq_true, decide_eq_true_eq]
  constructor <;> rintro ⟨h1, h2, h3, h4⟩ <;> exact ⟨h1, h2, h3, by omega⟩
theorem geo_iff {h : HeapB} : GeoP h ↔ frameOk h = true ∧ spanF h = [] := by
  unfold GeoP spanF
  rw [frameOk_iff, spansF_nil]
  constructor
  · rintro ⟨h1, h2, h3, h4, h5, h6⟩
    exact ⟨⟨h1, h2, h4, h5⟩, h3, h6⟩
  · rintro ⟨⟨h1, h2, h4, h5⟩, h3, h6⟩
    exact ⟨h1, h2, h3, h4, h5, h6⟩
theorem framed_iff {h : HeapB} (hw : Words h.us.w) : framedP h = true ↔ GeoP h ∧ (wantTo (want0 h.us.n) h.sp).w = h.us.w := by
  constructor
  · intro hf
    refine ⟨framed_parts hf, ?_⟩
    unfold framedP at hf
    simp only [Bool.and_eq_true, decide_eq_true_eq] at hf
    exact hf.2.2
  · rintro ⟨⟨h1, h2, h3, h4, h5, h6⟩, h7⟩
    unfold framedP baseP
    simp only [Bool.and_eq_true, decide_eq_true_eq]
    have hu := okB_parts h2
    obtain ⟨a, b, c⟩ := ok_want0 (n := h.us.n) hu.1 hu.2.1
    refine ⟨⟨h1, h2, h3, h4, h5⟩, fills_of (fun s hs => ?_) a c (fun s hs => by rw [b]; exact h6 s hs), h7⟩
    obtain ⟨i, hi, rfl⟩ := List.getElem_of_mem hs
    exact okL_right h3 (List.getElem?_eq_getElem hi)
/-! ### Pages -/
theorem pgTo_nil {a u : BitB} : ∀ n, pgTo a u n = [] ↔ ∀ i, i < n → bitP a i = bitP u i := by
  intro n
  induction n with
  | zero => simp [pgTo]
  | succ n ih =>
    rw [pgTo, List.append_eq_nil_iff, ih]
    constructor
    · rintro ⟨h1, h2⟩ i hi
      by_cases e : i = n
      · subst e
        by_cases hc : bitP a i = bitP u i
        · exact hc
        · rw [if_neg hc] at h2; simp at h2
      · exact h1 i (by omega)
    · intro h
      exact ⟨fun i hi => h i (by omega), by rw [if_pos (h n (by omega))]⟩
theorem pageF_nil {h : HeapB} (hw : Words h.us.w) (hu : okB h.us = true) : pageF h = [] ↔ (wantTo (want0 h.us.n) h.sp).w = h.us.w := by
  unfold pageF
  rw [pgTo_nil]
  have hb := okB_parts hu
  obtain ⟨a, b, c⟩ := ok_want0 (n := h.us.n) hb.1 hb.2.1
  obtain ⟨a2, b2, c2⟩ := ok_want h.sp _ a c
  constructor
  · intro hh
    exact bits_ext a2 hu (b2.trans b) c2 hw (fun i hi => hh i (by rw [b2, b] at hi; omega))
  · intro e i _
    unfold bitP
    rw [e]
/-! ### Heads -/
theorem headF_nil {h : HeapB} : headF h = [] ↔ lookP h = true := by
  unfold headF headTo lookP
  rw [List.map_eq_nil_iff, List.filter_eq_nil_iff, List.all_eq_true]
  simp
/-! ### References -/
theorem refTo_nil {ar : List Int} {os : List VObj} {o : VObj} : ∀ n, refTo ar os o n = [] ↔ ∀ f, f < n → mbit o.m f = true → leadsQ os (wd ar (o.a + 1 + f)) = true := by
  intro n
  induction n with
  | zero => simp [refTo]
  | succ n ih =>
    rw [refTo, List.append_eq_nil_iff, ih]
    constructor
    · rintro ⟨h1, h2⟩ f hf hm
      by_cases e : f = n
      · subst e
        cases hl : leadsQ os (wd ar (o.a + 1 + f))
        · rw [if_pos ⟨hm, hl⟩] at h2; simp at h2
        · rfl
      · exact h1 f (by omega) hm
    · intro h
      refine ⟨fun f hf => h f (by omega), ?_⟩
      rw [if_neg]
      rintro ⟨h1, h2⟩
      rw [h n (by omega) h1] at h2
      cases h2
theorem refsP_iff {ar : List Int} {o : Obj} {p : Int → Bool} : ∀ n, refsP ar o p n = true ↔ ∀ f, f < n → mbit o.m f = true → p (wd ar (o.a + 1 + f)) = true := by
  intro n
  induction n with
  | zero => simp [refsP]
  | succ n ih =>
    rw [refsP, Bool.and_eq_true, ih]
    simp only [Bool.or_eq_true, Bool.not_eq_true']
    constructor
    · rintro ⟨h1, h2⟩ f hf hm
      by_cases e : f = n
      · subst e
        rcases h2 with h2 | h2
        · rw [hm] at h2; cases h2
        · exact h2
      · exact h1 f (by omega) hm
    · intro h
      refine ⟨fun f hf => h f (by omega), ?_⟩
      cases hm : mbit o.m n
      · exact Or.inl rfl
      · exact Or.inr (h n (by omega) hm)
theorem vobj_good {ar : List Int} {c : Cand} (h : c.good ar = true) : c.vobj ar = ⟨c.i, c.k, c.a, c.room, unN (wd ar c.a), unM (wd ar c.a), c.cur, true⟩ := by
  have hu : unOk (wd ar c.a) = true := by
    unfold Cand.good at h
    simp only [Bool.and_eq_true] at h
    exact h.1
  unfold Cand.vobj unpN unpM
  rw [if_pos hu, if_pos hu, h]
theorem hit_map {h : HeapB} (t : Int) : hitQ (vobjs h) t = ((cands h.sp).find? (fun c => (c.a : Int) == t)).map (Cand.vobj h.ar) := by
  unfold hitQ vobjs
  rw [List.find?_map]
  rfl
theorem findO_map {h : HeapB} (t : Int) : (objs h).find? (fun o => (o.a : Int) == t) = ((cands h.sp).find? (fun c => (c.a : Int) == t)).map (Cand.obj h.ar) := by
  unfold objs
  rw [List.find?_map]
  rfl
theorem leads_same {h : HeapB} (hl : lookP h = true) (t : Int) : leadsQ (vobjs h) t = leadsP (objs h) t := by
  unfold leadsQ leadsP findO
  rw [hit_map, findO_map]
  cases hc : (cands h.sp).find? (fun c => (c.a : Int) == t) with
  | none => simp
  | some c =>
    have hg := look_good hl (List.mem_of_find?_eq_some hc)
    simp only [Option.map_some]
    rw [vobj_good hg]
    unfold Cand.obj
    simp only
    cases c.cur <;> simp
theorem refF_nil {h : HeapB} (hl : lookP h = true) : refF h = [] ↔ ∀ o ∈ objs h, o.cur = true → refsP h.ar o (leadsP (objs h)) o.n.toNat = true := by
  unfold refF refsTo
  rw [List.flatMap_eq_nil_iff]
  unfold vobjs objs
  simp only [List.mem_map, forall_exists_index, and_imp, forall_apply_eq_imp_iff₂]
  refine forall_congr' fun c => forall_congr' fun hc => ?_
  have hg := look_good hl hc
  rw [vobj_good hg]
  unfold refO Cand.obj
  simp only [Bool.true_and]
  have hls : ∀ t, leadsQ ((cands h.sp).map (Cand.vobj h.ar)) t = leadsP ((cands h.sp).map (Cand.obj h.ar)) t := leads_same hl
  cases hcu : c.cur
  · simp
  · rw [if_pos rfl, refTo_nil, refsP_iff]
    simp only [true_implies]
    simp only [hls]
    rfl
/-! ### Words that nobody has -/
theorem dirtTo_nil {ar : List Int} {os : List VObj} : ∀ n, dirtTo ar os n = [] ↔ ∀ i, i < n → theirs os i = false → wd ar i = 0 := by
  intro n
  induction n with
  | zero => simp [dirtTo]
  | succ n ih =>
    rw [dirtTo, List.append_eq_nil_iff, ih]
    constructor
    · rintro ⟨h1, h2⟩ i hi ht
      by_cases e : i = n
      · subst e
        by_cases hz : wd ar i = 0
        · exact hz
        · rw [if_pos ⟨hz, ht⟩] at h2; simp at h2
      · exact h1 i (by omega) ht
    · intro h
      refine ⟨fun i hi => h i (by omega), ?_⟩
      rw [if_neg]
      rintro ⟨h1, h2⟩
      exact h1 (h n (by omega) h2)
theorem zeroP_iff {ar : List Int} {i j : Nat} : zeroP ar i j = true ↔ ∀ k, i ≤ k → k < j → wd ar k = 0 := by
  unfold zeroP
  simp only [List.all_eq_true, List.mem_range'_1, beq_iff_eq]
  constructor
  · intro h k h1 h2
    exact h k ⟨h1, by omega⟩
  · intro h k hk
    exact h k hk.1 (by omega)
theorem soundTo_iff {ar : List Int} {all : List Obj} : ∀ (l : List Obj) (at_ : Nat), (∀ o ∈ l, at_ ≤ o.a ∧ o.a + 1 + o.n.toNat ≤ ar.length) → l.Pairwise (fun o p => o.a + 1 + o.n.toNat ≤ p.a) →
    (soundTo ar all at_ l = true ↔ (∀ o ∈ l, o.cur = true → refsP ar o (leadsP all) o.n.toNat = true) ∧ ∀ k, at_ ≤ k → k < ar.length → (∀ o ∈ l, ¬ (o.a ≤ k ∧ k < o.a + 1 + o.n.toNat)) → wd ar k = 0) := by
  intro l
  induction l with
  | nil =>
    intro at_ _ _
    rw [soundTo, zeroP_iff]
    simp
  | cons o t ih =>
    intro at_ hin hpw
    rw [List.pairwise_cons] at hpw
    have ho := hin o (List.mem_cons_self ..)
    rw [soundTo]
    simp only [Bool.and_eq_true, Bool.or_eq_true, Bool.not_eq_true']
    rw [zeroP_iff, ih (o.a + 1 + o.n.toNat) (fun p hp => ⟨hpw.1 p hp, (hin p (List.mem_cons_of_mem _ hp)).2⟩) hpw.2]
    constructor
    · rintro ⟨h1, h2, h3, h4⟩
      refine ⟨?_, ?_⟩
      · intro p hp hc
        rcases List.mem_cons.1 hp with rfl | hp
        · rcases h2 with h2 | h2
          · rw [hc] at h2; cases h2
          · exact h2
        · exact h3 p hp hc
      · intro k hk hkl hno
        by_cases hko : k < o.a
        · exact h1 k hk hko
        · have := hno o (List.mem_cons_self ..)
          exact h4 k (by omega) hkl (fun p hp => hno p (List.mem_cons_of_mem _ hp))
    · rintro ⟨h1, h2⟩
      refine ⟨?_, ?_, fun p hp => h1 p (List.mem_cons_of_mem _ hp), ?_⟩
      · intro k hk hko
        refine h2 k hk (by omega) (fun p hp => ?_)
        rcases List.mem_cons.1 hp with rfl | hp
        · omega
        · have := hpw.1 p hp
          omega
      · cases hc : o.cur
        · exact Or.inl rfl
        · exact Or.inr (h1 o (List.mem_cons_self ..) hc)
      · intro k hk hkl hno
        refine h2 k (by omega) hkl (fun p hp => ?_)
        rcases List.mem_cons.1 hp with rfl | hp
        · omega
        · exact hno p hp
theorem geo_fit {h : HeapB} (hg : GeoP h) (hl : lookP h = true) : (∀ o ∈ objs h, o.a + 1 + o.n.toNat ≤ h.ar.length) ∧ (objs h).Pairwise (fun o p => o.a + 1 + o.n.toNat ≤ p.a) := by
  obtain ⟨g1, g2, g3, g4, g5, g6⟩ := hg
  refine ⟨?_, ?_⟩
  · intro o ho
    unfold objs at ho
    obtain ⟨c, hc, rfl⟩ := List.mem_map.1 ho
    obtain ⟨e1, e2, e3, e4⟩ := cand_end g3 hc
    obtain ⟨r1, r2, r3⟩ := good_room (look_good hl hc) e4
    obtain ⟨hs, _, _⟩ := mem_cands hc
    have h6 := g6 c.s (List.mem_of_getElem? hs)
    unfold Cand.obj
    simp only
    unfold endP at e2
    omega
  · unfold objs
    rw [List.pairwise_map]
    refine List.Pairwise.imp_of_mem ?_ (cands_apart g3)
    intro c d hc hd hcd
    obtain ⟨e1, e2, e3, e4⟩ := cand_end g3 hc
    obtain ⟨r1, r2, r3⟩ := good_room (look_good hl hc) e4
    unfold Cand.obj
    simp only
    omega
theorem theirs_objs {h : HeapB} (hl : lookP h = true) (k : Nat) : theirs (vobjs h) k = false ↔ ∀ o ∈ objs h, ¬ (o.a ≤ k ∧ k < o.a + 1 + o.n.toNat) := by
  unfold theirs vobjs objs
  rw [List.any_eq_false]
  simp only [List.mem_map, forall_exists_index, and_imp, forall_apply_eq_imp_iff₂]
  refine forall_congr' fun c => forall_congr' fun hc => ?_
  rw [vobj_good (look_good hl hc)]
  unfold VObj.wide Cand.obj
  simp only [if_true, Bool.and_eq_true, decide_eq_true_eq]
  omega
theorem sound_iff {h : HeapB} (hg : GeoP h) (hl : lookP h = true) : soundP h = true ↔ refF h = [] ∧ dirtF h = [] := by
  obtain ⟨h1, h2⟩ := geo_fit hg hl
  unfold soundP
  rw [soundTo_iff (objs h) 0 (fun o ho => ⟨Nat.zero_le _, h1 o ho⟩) h2, refF_nil hl]
  unfold dirtF
  rw [dirtTo_nil]
  constructor
  · rintro ⟨a, b⟩
    exact ⟨a, fun i hi ht => b i (Nat.zero_le _) hi ((theirs_objs hl i).1 ht)⟩
  · rintro ⟨a, b⟩
    exact ⟨a, fun k _ hk hno => b k hk ((theirs_objs hl k).2 hno)⟩
theorem faults_nil {h : HeapB} (hw : Words h.us.w) : faultsP h = [] ↔ heapP h = true := by
  unfold faultsP heapP
  simp only [Bool.and_eq_true]
  rw [framed_iff hw, geo_iff]
  by_cases hf : frameOk h = true
  · rw [if_pos hf]
    by_cases hs : spanF h = []
    · rw [if_pos hs]
      unfold restF
      rw [List.append_eq_nil_iff, List.append_eq_nil_iff, List.append_eq_nil_iff, pageF_nil hw (frameOk_iff.1 hf).2.1, headF_nil]
      constructor
      · rintro ⟨⟨⟨a, b⟩, c⟩, d⟩
        exact ⟨⟨⟨hf, hs⟩, a⟩, b, (sound_iff (geo_iff.2 ⟨hf, hs⟩) b).2 ⟨c, d⟩⟩
      · rintro ⟨⟨_, a⟩, b, c⟩
        obtain ⟨d, e⟩ := (sound_iff (geo_iff.2 ⟨hf, hs⟩) b).1 c
        exact ⟨⟨⟨a, b⟩, d⟩, e⟩
    · rw [if_neg hs]
      constructor
      · intro e; exact absurd e hs
      · rintro ⟨⟨⟨_, e⟩, _⟩, _⟩; exact absurd e hs
  · rw [if_neg hf]
    constructor
    · intro e; cases e
    · rintro ⟨⟨⟨e, _⟩, _⟩, _⟩; exact absurd e hf
end Go.Proofs.YtieijfefnedifaaGreatDoor

/- The walk of verify's refs. -/
namespace Go.Proofs.YtieijfefnedifaaGreatDoor
open Go.RowKit
set_option linter.unusedVariables false
set_option linter.unusedSimpArgs false

theorem Keeps.vq {w w1 : World} {b p : Nat} {r : Option Nat} {x : VObj} (k : Keeps w w1 b r) (h : VarQ w p x) (hpb : p ≠ b) (hr : r ≠ some p) : VarQ w1 p x := by
  have e := k.block p h.lt hpb hr
  have c : ∀ o, w1.cell? ⟨p, o, none⟩ = w.cell? ⟨p, o, none⟩ := fun o => World.cell?_of_block (w := w) e
  refine ⟨(c _).trans h.c0, (c _).trans h.c1, (c _).trans h.c2, (c _).trans h.c3, (c _).trans h.c4, (c _).trans h.c5, (c _).trans h.c6, (c _).trans h.c7, fun j hj => ?_⟩
  have hf := h.fr j hj
  unfold World.frozen? at hf ⊢
  simp only at hf ⊢
  rw [e]
  exact hf
structure FitQ (os : List VObj) (L : Nat) : Prop where
  each : ∀ o ∈ os, o.ok = true → o.a + 1 + o.n.toNat ≤ L ∧ 0 ≤ o.n ∧ o.n ≤ 48 ∧ 0 ≤ o.m ∧ o.m < 18446744073709551616
  wide : ∀ o ∈ os, o.a + o.wide ≤ L
  sorted : SortedK (keysQ os)
  few : os.length ≤ 2048
theorem unp_range (x : Int) : 0 ≤ unpN x ∧ unpN x ≤ 48 ∧ 0 ≤ unpM x ∧ unpM x < 18446744073709551616 := by
  unfold unpN unpM
  split
  · rename_i hu
    unfold unOk shOk at hu
    simp only [Bool.and_eq_true, decide_eq_true_eq] at hu
    have h1 : 0 ≤ unM x ∧ unM x < 281474976710656 := by unfold unM; omega
    omega
  · omega
theorem fitQ_of {h : HeapB} (hg : GeoP h) : FitQ (vobjs h) h.ar.length := by
  obtain ⟨g1, g2, g3, g4, g5, g6⟩ := hg
  have hin : ∀ c ∈ cands h.sp, c.a + c.room ≤ h.ar.length := by
    intro c hc
    obtain ⟨e1, e2, e3, e4⟩ := cand_end g3 hc
    obtain ⟨hs, _, _⟩ := mem_cands hc
    have h6 := g6 c.s (List.mem_of_getElem? hs)
    unfold endP at e2
    omega
  have hgood : ∀ c ∈ cands h.sp, c.good h.ar = true → (unpN (wd h.ar c.a)).toNat + 1 ≤ c.room := by
    intro c hc hgd
    obtain ⟨e1, e2, e3, e4⟩ := cand_end g3 hc
    have hr := good_room hgd e4
    have hu : unOk (wd h.ar c.a) = true := by
      unfold Cand.good at hgd
      simp only [Bool.and_eq_true] at hgd
      exact hgd.1
    unfold unpN
    rw [if_pos hu]
    exact hr.2.2
  refine ⟨?_, ?_, ?_, ?_⟩
  · intro o ho hok
    obtain ⟨c, hc, rfl⟩ := List.mem_map.1 ho
    have h1 := hin c hc
    have h2 := hgood c hc hok
    have h3 := unp_range (wd h.ar c.a)
    unfold Cand.vobj
    simp only
    omega
  · intro o ho
    obtain ⟨c, hc, rfl⟩ := List.mem_map.1 ho
    have h1 := hin c hc
    have h2 := hgood c hc
    unfold VObj.wide Cand.vobj
    simp only
    split
    · rename_i hk
      have := h2 hk
      omega
    · exact h1
  · intro i j x y hij hx hy
    have hl : j < (cands h.sp).length := by
      have := (List.getElem?_eq_some_iff.1 hy).1
      simpa [keysQ, vobjs] using this
    have e1 : (keysQ (vobjs h))[i]? = some (((cands h.sp)[i]'(by omega)).a : Int) := by simp [keysQ, vobjs, Cand.vobj, show i < (cands h.sp).length by omega]
    have e2 : (keysQ (vobjs h))[j]? = some (((cands h.sp)[j]).a : Int) := by simp [keysQ, vobjs, Cand.vobj, hl]
    rw [e1] at hx
    rw [e2] at hy
    cases hx
    cases hy
    by_cases e : i = j
    · subst e; exact Int.le_refl _
    · have := List.pairwise_iff_getElem.1 (cands_apart g3) i j (by omega) hl (by omega)
      omega
  · have h1 := candTo_few g3 h.sp.length (Nat.le_refl _)
    have h2 := okL_len g3
    unfold vobjs cands
    rw [List.length_map]
    omega
theorem refTo_len (ar : List Int) (os : List VObj) (o : VObj) : ∀ n, (refTo ar os o n).length ≤ n := by
  intro n
  induction n with
  | zero => simp [refTo]
  | succ n ih =>
    rw [refTo, List.length_append]
    split <;> simp <;> omega
theorem refsTo_len {ar : List Int} {os : List VObj} {L : Nat} (hf : FitQ os L) : ∀ l, (∀ o ∈ l, o ∈ os) → (refsTo ar os l).length ≤ 48 * l.length := by
  intro l
  induction l with
  | nil => intro _; simp [refsTo]
  | cons o t ih =>
    intro hm
    have h1 := ih (fun p hp => hm p (List.mem_cons_of_mem _ hp))
    have h2 : (refO ar os o).length ≤ 48 := by
      unfold refO
      split
      · rename_i hc
        simp only [Bool.and_eq_true] at hc
        have h3 := hf.each o (hm o (List.mem_cons_self ..)) hc.1
        have h4 := refTo_len ar os o o.n.toNat
        omega
      · simp
    have e : refsTo ar os (o :: t) = refO ar os o ++ refsTo ar os t := by simp [refsTo]
    rw [e, List.length_append, List.length_cons]
    omega
theorem refsTo_next {ar : List Int} {os : List VObj} {k : Nat} {o : VObj} (ho : os[k]? = some o) : refsTo ar os (os.take (k + 1)) = refsTo ar os (os.take k) ++ refO ar os o := by
  obtain ⟨hk, e⟩ := List.getElem?_eq_some_iff.1 ho
  rw [List.take_add_one, ho]
  simp [refsTo]
structure RfS (w0 w wx : World) (b : Nat) (v : HeapV) (fs : List Flt) (FA : Option Addr) (fc : Nat) (os : List VObj) (OA : Option Addr) (oc q : Nat) (o : VObj) : Prop where
  s : Sgt w0 wx b v fs FA fc os OA oc
  vq : VarQ wx q o
  be : Below b w wx
  bq : b < q
  gf : (Value.slice FA fs.length fc).ownBlock ≠ some q
theorem RfS.later {w0 w wx w1 : World} {b fc oc q : Nat} {v : HeapV} {fs : List Flt} {FA OA : Option Addr} {os : List VObj} {o : VObj} (h : RfS w0 w wx b v fs FA fc os OA oc q o) (hb : Below wx.heap.size wx w1) : RfS w0 w w1 b v fs FA fc os OA oc q o :=
  ⟨h.s.later hb, h.vq.below hb, h.be.trans (hb.mono (Nat.le_of_lt h.s.lt)), h.bq, h.gf⟩
theorem RfS.told {w0 w wx w1 : World} {b fc oc q g cap : Nat} {v : HeapV} {fs fs1 : List Flt} {FA OA : Option Addr} {os : List VObj} {o : VObj} (h : RfS w0 w wx b v fs FA fc os OA oc q o) (s : Sgt w0 w1 b v fs1 (some ⟨g, 0, none⟩) cap os OA oc)
    (hg : (Value.slice FA fs.length fc).ownBlock = some g ∨ wx.heap.size ≤ g) (k : Keeps wx w1 b (Value.slice FA fs.length fc).ownBlock) : RfS w0 w w1 b v fs1 (some ⟨g, 0, none⟩) cap os OA oc q o := by
  have hp := h.bq
  refine ⟨s, k.vq h.vq (by omega) h.gf, h.be.trans k.be, h.bq, fun e => ?_⟩
  have e2 : g = q := Option.some.inj e
  subst e2
  rcases hg with e | e
  · exact h.gf e
  · have := h.vq.lt
    omega
set_option maxRecDepth 100000 in
set_option maxHeartbeats 16000000 in
theorem refs41 (w0 w : World) (b fc oc : Nat) (v : HeapV) (h : HeapB) (fs0 : List Flt) (FA OA : Option Addr) (os : List VObj) (st : Sgt w0 w b v fs0 FA fc os OA oc) (hr : RdH w0 v h) (hf : FitQ os h.ar.length) (hlen : h.ar.length ≤ 16384) (hfs : fs0.length ≤ 100000) :
    Calls Tryz.prog 41 #[.pointer (some ⟨b, 0, none⟩)] w (MoreP w0 w b v (fs0 ++ refsTo h.ar os os) os OA oc) := by
  have HST := Lib.hid st
  have HR := Lib.hid hr
  have HF := Lib.hid hf
  have HAR := Lib.hid hlen
  have HFS0 := Lib.hid hfs
  have HFEW : Hid (∀ k, k ≤ os.length → (fs0 ++ refsTo h.ar os (os.take k)).length ≤ 200000) := by
    intro k hk
    rw [List.length_append]
    have h1 := refsTo_len (ar := h.ar) hf (os.take k) (fun o ho => List.mem_of_mem_take ho)
    rw [List.length_take] at h1
    have h2 := hf.few
    omega
  have hn := hr.n
  have s5 := st.st.c5
  have hb := st.lt
  have hfew := hf.few
  obtain ⟨aA, aN, aC, ub, sA, sN, sC, vs⟩ := v
  simp only at hn HR HST
  subst hn
  clear hr hf st hlen hfs
  go_enter Tryz.func41, Tryz.ntmps41
  go_wp2
  clear s5
  obtain ⟨wo, hwo⟩ : ∃ wo : World, wo = w := ⟨_, rfl⟩
  go_loopw [11] (fun i wr => ∃ (k : Nat) (FA : Option Addr) (fc : Nat), k ≤ os.length ∧ i = .int .i64 k ∧ Hid (Sgt w0 wr b ⟨aA, h.ar.length, aC, ub, sA, sN, sC, vs⟩ (fs0 ++ refsTo h.ar os (os.take k)) FA fc os OA oc) ∧ Hid (Below b w wr)) (fun i _ => os.length - (intOf i).toNat)
  case atStart =>
    have hx1 : fs0 ++ refsTo h.ar os (os.take 0) = fs0 := by simp [refsTo]
    exact ⟨0, FA, fc, Nat.zero_le _, rfl, by rw [hx1]; exact HST.out, Below.refl _ _⟩
  case round =>
    obtain ⟨k, FA, fc, hk, rfl, HSi, HBi⟩ := hrel
    clear HST hwo
    by_cases hlt : k < os.length
    · have ho : os[k]? = some os[k] := List.getElem?_eq_getElem hlt
      generalize os[k] = o at ho
      obtain ⟨bk, oo, hA, hbk, c0, c1, c2, c3, c4, c5, c6, c7⟩ := (HSi.out.oo.rd rfl).at_ ho
      have HNX0 := Lib.hid (refsTo_next (ar := h.ar) ho)
      have HEA := Lib.hid (HF.out.each o (List.mem_of_getElem? ho))
      have HFK := Lib.hid (HFEW.out k hk)
      subst hA
      clear hbk
      by_cases hgo : (o.ok && o.cur) = true
      · have hgo2 := hgo
        simp only [Bool.and_eq_true] at hgo2
        obtain ⟨hok, hcu⟩ := hgo2
        obtain ⟨e1, e2, e3, e4, e5⟩ := HEA.out hok
        obtain ⟨N, hN⟩ := Int.eq_ofNat_of_zero_le e2
        have HNX : Hid (refsTo h.ar os (os.take (k + 1)) = refsTo h.ar os (os.take k) ++ refTo h.ar os o N) := by show _ = _; rw [HNX0.out]; unfold refO; rw [if_pos hgo, hN]; rfl
        have HN : Hid (o.a + 1 + N ≤ h.ar.length ∧ N ≤ 48 ∧ 0 ≤ o.m ∧ o.m < 18446744073709551616) := ⟨by omega, by omega, e4, e5⟩
        rw [hok] at c7
        rw [hcu] at c6
        rw [hN] at c4
        clear hgo hok hcu e1 e2 e3 e4 e5 hN HNX0 HEA ho
        go_wp2
        have hba := balloc (Below.refl wr.heap.size wr) (.cells #[.int .i64 o.i, .int .i64 o.k, .int .u64 o.a, .int .u64 o.r, .int .i64 (N : Int), .int .u64 o.m, .bool true, .bool true] 124)
        have HCL : Hid (RfS w0 w (wr.alloc (.cells #[.int .i64 o.i, .int .i64 o.k, .int .u64 o.a, .int .u64 o.r, .int .i64 (N : Int), .int .u64 o.m, .bool true, .bool true] 124)) b ⟨aA, h.ar.length, aC, ub, sA, sN, sC, vs⟩ (fs0 ++ refsTo h.ar os (os.take k)) FA fc os (some ⟨bk, oo, none⟩) oc wr.heap.size ⟨o.i, o.k, o.a, o.r, (N : Int), o.m, true, true⟩) :=
          ⟨HSi.out.later hba, VarQ.made wr ⟨o.i, o.k, o.a, o.r, (N : Int), o.m, true, true⟩ _ rfl, HBi.out.trans (hba.mono (Nat.le_of_lt HSi.out.lt)), HSi.out.lt, fun e => by have := (World.ownsRow.lt HSi.out.fo _ e).2; omega⟩
        generalize hWA : wr.alloc (.cells #[.int .i64 o.i, .int .i64 o.k, .int .u64 o.a, .int .u64 o.r, .int .i64 (N : Int), .int .u64 o.m, .bool true, .bool true] 124) = WA at *
        generalize hqq : wr.heap.size = q at *
        clear hWA hqq c0 c1 c2 c3 c4 c5 c6 c7 hba HSi HBi
        obtain ⟨wi, hwi⟩ : ∃ wi : World, wi = WA := ⟨_, rfl⟩
        go_loopw [26] (fun i5 wq => ∃ (f : Nat) (FA : Option Addr) (fc : Nat), f ≤ N ∧ i5 = .int .i64 f ∧ Hid (RfS w0 w wq b ⟨aA, h.ar.length, aC, ub, sA, sN, sC, vs⟩ (fs0 ++ (refsTo h.ar os (os.take k) ++ refTo h.ar os o f)) FA fc os (some ⟨bk, oo, none⟩) oc q ⟨o.i, o.k, o.a, o.r, (N : Int), o.m, true, true⟩)) (fun i5 _ => N - (intOf i5).toNat)
        case atStart =>
          have hx0 : refsTo h.ar os (os.take k) ++ refTo h.ar os o 0 = refsTo h.ar os (os.take k) := by simp [refTo]
          exact ⟨0, FA, fc, Nat.zero_le _, rfl, by rw [hx0]; exact HCL.out⟩
        case round =>
          clear HCL hwi
          obtain ⟨f, FA, fc, hfN, rfl, HLf⟩ := hrel
          have hN48 : N ≤ 48 := HN.out.2.1
          by_cases hff : f < N
          · have q2 := HLf.out.vq.c2
            have q4 := HLf.out.vq.c4
            have q5 := HLf.out.vq.c5
            simp only at q2 q4 q5
            have CI : Hid (∀ W, Calls Tryz.prog 78 #[.agg #[.int .i64 (N : Int), .int .u64 o.m], .int .i64 f] W (Ret (.bool (mbit o.m f)) W)) := fun W => mbit_is N o.m f W HN.out.2.2 (by have := HN.out; omega)
            have HNF0 : Hid (refTo h.ar os o (f + 1) = refTo h.ar os o f ++ (if mbit o.m f = true ∧ leadsQ os (wd h.ar (o.a + 1 + f)) = false then [⟨5, o.a + 1 + f⟩] else [])) := rfl
            obtain ⟨j, hj⟩ : ∃ j, j = o.a + 1 + f := ⟨_, rfl⟩
            have hjl : j < h.ar.length := by have := HN.out; omega
            have ej : (o.a : Int) + 1 + (f : Int) = (j : Int) := by omega
            have hx : h.ar[j]? = some h.ar[j] := List.getElem?_eq_getElem hjl
            have hwx : wd h.ar (o.a + 1 + f) = h.ar[j] := by rw [← hj]; exact wd_at hx
            generalize h.ar[j] = x at hx hwx
            rw [hwx, ← hj] at HNF0
            obtain ⟨ba, oa, hAa, hba, hca⟩ := (HR.out.ar.below HLf.out.s.lo).at_ hx
            simp only at hAa
            subst hAa
            have HCA := Lib.hid hca
            have HJ : Hid (j < h.ar.length ∧ o.a + 1 + f = j) := ⟨hjl, hj.symm⟩
            have hw1 : IntKind.u64.wrap ((o.a : Int) + 1) = (o.a : Int) + 1 := by rw [u64_wrap_]; have := HAR.out; omega
            have hw2 : IntKind.u64.wrap (f : Int) = (f : Int) := by rw [u64_wrap_]; have := HN.out; omega
            have hw3 : IntKind.u64.wrap ((o.a : Int) + 1 + (f : Int)) = (j : Int) := by rw [ej, u64_wrap_]; have := HAR.out; omega
            have hq1 : (0 : Int) ≤ (j : Int) := by omega
            have hq2 : (j : Int) < (h.ar.length : Int) := by omega
            have CL : Hid (∀ W, Below wr.heap.size wr W → Calls Tryz.prog 79 #[.pointer (some ⟨b, 0, none⟩), .int .u64 x] W (Ret (.bool (leadsQ os x)) W)) := fun W hW =>
              leads79 b oc os _ x W (HLf.out.s.st.c5 |> cell_later hW) (Nat.lt_of_lt_of_le HLf.out.s.lt hW.size) ((HLf.out.s.oo.rd rfl).below hW) (by have := HF.out.few; omega) HF.out.sorted
            clear hx hwx hba hca hj hjl ej
            cases hbit : mbit o.m f
            · have HNF : Hid (refTo h.ar os o (f + 1) = refTo h.ar os o f) := by show _ = _; rw [HNF0.out, hbit]; simp
              rw [hbit] at CI
              clear hbit CL HNF0
              go_wp2_with (go_at_call 78; refine (CI.out _).mono ?_)
              rintro e w3 ⟨rfl, hb3⟩
              have HL3 := Lib.hid (HLf.out.later hb3)
              have HB3 := Lib.hid hb3
              clear q2 q4 q5
              clear hb3 HB3 HLf CI hw1 hw2 hw3 hq1 hq2
              go_wp2
              go_roundw
              case rel => exact ⟨f + 1, FA, fc, by omega, by go_num, by rw [HNF.out]; exact HL3.out⟩
              case measure => simp [intOf]; omega
            · rw [hbit] at CI
              cases hld : leadsQ os x
              · have HNF : Hid (refTo h.ar os o (f + 1) = refTo h.ar os o f ++ [⟨5, j⟩]) := by show _ = _; rw [HNF0.out, hbit, hld]; simp
                rw [hld] at CL
                clear hbit hld HNF0
                go_wp2_with (go_at_call 78; refine (CI.out _).mono ?_)
                rintro e w3 ⟨rfl, hb3⟩
                have HL3 := Lib.hid (HLf.out.later hb3)
                have HB3 := Lib.hid hb3
                clear q2 q4 q5
                have s0 := HL3.out.s.st.c0
                simp only at s0
                have x3 := cell_later hb3 HCA.out
                clear hb3 CI
                go_wp2_with (go_at_call 79; refine (CL.out _ HB3.out).mono ?_)
                rintro e w4 ⟨rfl, hb4⟩
                have HL4 := Lib.hid (HL3.out.later hb4)
                have hfl : (fs0 ++ (refsTo h.ar os (os.take k) ++ refTo h.ar os o f)).length ≤ 1000000 := by
                  have h1 := HFK.out
                  have h2 := refTo_len h.ar os o f
                  have h3 := HN.out
                  rw [List.length_append] at h1 ⊢
                  rw [List.length_append]
                  omega
                have CT := Lib.hid (tell75 w0 w4 b fc oc _ _ FA _ os ⟨5, j⟩ HL4.out.s hfl)
                clear hb4 CL HB3 HL3 HLf s0 x3 HCA hw1 hw2 hw3 hq1 hq2 hfl
                go_wp2_with (go_at_call 75; refine CT.out.mono ?_)
                rintro e w9 ⟨rfl, g, cap, hs9, hg9, hk9⟩
                have HL9 := Lib.hid (HL4.out.told hs9 hg9 hk9)
                clear hs9 hg9 hk9 CT HL4
                go_wp2
                go_roundw
                case rel => exact ⟨f + 1, some ⟨g, 0, none⟩, cap, by omega, by go_num, by rw [HNF.out, ← List.append_assoc (refsTo h.ar os (os.take k)), ← List.append_assoc]; exact HL9.out⟩
                case measure => simp [intOf]; omega
              · have HNF : Hid (refTo h.ar os o (f + 1) = refTo h.ar os o f) := by show _ = _; rw [HNF0.out, hbit, hld]; simp
                rw [hld] at CL
                clear hbit hld HNF0
                go_wp2_with (go_at_call 78; refine (CI.out _).mono ?_)
                rintro e w3 ⟨rfl, hb3⟩
                have HL3 := Lib.hid (HLf.out.later hb3)
                have HB3 := Lib.hid hb3
                clear q2 q4 q5
                have s0 := HL3.out.s.st.c0
                simp only at s0
                have x3 := cell_later hb3 HCA.out
                clear hb3 CI
                go_wp2_with (go_at_call 79; refine (CL.out _ HB3.out).mono ?_)
                rintro e w4 ⟨rfl, hb4⟩
                have HL4 := Lib.hid (HL3.out.later hb4)
                clear hb4 CL HB3 HL3 HLf s0 x3 HCA hw1 hw2 hw3 hq1 hq2
                go_wp2
                go_roundw
                case rel => exact ⟨f + 1, FA, fc, by omega, by go_num, by rw [HNF.out]; exact HL4.out⟩
                case measure => simp [intOf]; omega
          · obtain rfl : f = N := by omega
            go_wp2
            go_roundw
            case rel => exact ⟨k + 1, FA, fc, by omega, by go_num, by rw [HNX.out]; exact HLf.out.s, HLf.out.be⟩
            case measure => simp [intOf]; omega
      · have HNX : Hid (refsTo h.ar os (os.take (k + 1)) = refsTo h.ar os (os.take k)) := by show _ = _; rw [HNX0.out]; unfold refO; rw [if_neg hgo, List.append_nil]
        have hba := balloc (Below.refl wr.heap.size wr) (.cells #[.int .i64 o.i, .int .i64 o.k, .int .u64 o.a, .int .u64 o.r, .int .i64 o.n, .int .u64 o.m, .bool o.cur, .bool o.ok] 124)
        have HSA := Lib.hid (HSi.out.later hba)
        have HBA : Hid (Below b w (wr.alloc (.cells #[.int .i64 o.i, .int .i64 o.k, .int .u64 o.a, .int .u64 o.r, .int .i64 o.n, .int .u64 o.m, .bool o.cur, .bool o.ok] 124))) := HBi.out.trans (hba.mono (Nat.le_of_lt HSi.out.lt))
        generalize hon : o.n = on at *
        generalize hcu : o.cur = cu at *
        generalize hok : o.ok = ok at *
        clear hba HEA HNX0 ho hon hcu hok
        cases ok
        · clear hgo
          cases cu
          · go_wp2
            go_roundw
            case rel => exact ⟨k + 1, FA, fc, by omega, by go_num, by rw [HNX.out]; exact HSA.out, HBA.out⟩
            case measure => simp [intOf]; omega
          · go_wp2
            go_roundw
            case rel => exact ⟨k + 1, FA, fc, by omega, by go_num, by rw [HNX.out]; exact HSA.out, HBA.out⟩
            case measure => simp [intOf]; omega
        · cases cu
          · clear hgo
            go_wp2
            go_roundw
            case rel => exact ⟨k + 1, FA, fc, by omega, by go_num, by rw [HNX.out]; exact HSA.out, HBA.out⟩
            case measure => simp [intOf]; omega
          · exact absurd rfl hgo
    · obtain rfl : k = os.length := by omega
      rw [List.take_length] at HSi
      go_wp2
      go_end0
      exact ⟨rfl, ⟨FA, fc, HSi.out⟩, HBi.out⟩
end Go.Proofs.YtieijfefnedifaaGreatDoor

/- The walk of verify's dirt. -/
namespace Go.Proofs.YtieijfefnedifaaGreatDoor
open Go.RowKit
set_option linter.unusedVariables false
set_option linter.unusedSimpArgs false

def bls (l : List Bool) : List Value := l.map Value.bool
def OwT (w : World) (base : Nat) (v : Value) (l : List Bool) : Prop := w.ownsRow base 4 1 v l.length (bls l)
theorem infoT : (Tryz.prog.info? 4).map (fun i => (i.zero, i.size, i.bytes)) = some (some (.bool false), 1, 1) := by kernel_rfl
theorem OwT.below {w w1 : World} {base : Nat} {v : Value} {l : List Bool} (h : OwT w base v l) (hb : Below w.heap.size w w1) : OwT w1 base v l := own_below h hb
theorem made_bs (n : Nat) : (madeCells (Value.cells (.bool false)) (n * 1)).toList = bls (List.replicate n false) := by
  apply List.ext_getElem
  · simp [madeCells, bls]
  · intro i h1 h2
    simp [madeCells, bls, Value.cells, Nat.mod_one]
def marks (os : List VObj) (k a f L : Nat) : List Bool := (List.range L).map (fun i => theirs (os.take k) i || (decide (a ≤ i) && decide (i < a + f)))
theorem marks_len (os : List VObj) (k a f L : Nat) : (marks os k a f L).length = L := by simp [marks]
theorem marks_at {os : List VObj} {k a f L i : Nat} (hi : i < L) : (marks os k a f L)[i]? = some (theirs (os.take k) i || (decide (a ≤ i) && decide (i < a + f))) := by
  unfold marks
  rw [List.getElem?_map, List.getElem?_range hi]
  rfl
theorem marks_set {os : List VObj} {k a f L : Nat} : (marks os k a f L).set (a + f) true = marks os k a (f + 1) L := by
  apply List.ext_getElem?
  intro i
  by_cases hi : i < L
  · rw [marks_at hi]
    by_cases e : i = a + f
    · subst e
      rw [List.getElem?_set_self (by rw [marks_len]; exact hi)]
      simp
    · rw [List.getElem?_set_ne (by omega), marks_at hi]
      congr 2
      by_cases h1 : a ≤ i
      · simp [h1]; omega
      · simp [h1]
  · rw [List.getElem?_eq_none (by rw [List.length_set, marks_len]; omega), List.getElem?_eq_none (by rw [marks_len]; omega)]
theorem marks_next {os : List VObj} {k L : Nat} {o : VObj} (ho : os[k]? = some o) : marks os k o.a o.wide L = marks os (k + 1) 0 0 L := by
  unfold marks
  refine List.map_congr_left fun i _ => ?_
  have e : os.take (k + 1) = os.take k ++ [o] := by rw [List.take_add_one, ho]; rfl
  rw [e]
  unfold theirs
  rw [List.any_append]
  simp
theorem marks_zero (os : List VObj) (k a L : Nat) : marks os k a 0 L = marks os k 0 0 L := by
  unfold marks
  refine List.map_congr_left fun i _ => ?_
  congr 1
  have h1 : (decide (a ≤ i) && decide (i < a + 0)) = false := by simp
  have h2 : (decide (0 ≤ i) && decide (i < 0 + 0)) = false := by simp
  rw [h1, h2]
theorem marks_none (os : List VObj) (L : Nat) : marks os 0 0 0 L = List.replicate L false := by
  unfold marks theirs
  rw [List.eq_replicate_iff]
  simp
theorem marks_all {os : List VObj} {L i : Nat} (hi : i < L) : (marks os os.length 0 0 L)[i]? = some (theirs os i) := by
  rw [marks_at hi, List.take_length]
  simp
theorem OwT.set {w : World} {base g n cap j : Nat} {l : List Bool} (h : OwT w base (.slice (some ⟨g, 0, none⟩) n cap) l) (hn : l.length = n) (x : Bool) : OwT (w.setCell ⟨g, j, none⟩ (.bool x)) base (.slice (some ⟨g, 0, none⟩) n cap) (l.set j x) := by
  subst hn
  have e : bls (l.set j x) = (bls l).set j (.bool x) := by simp [bls, List.map_set]
  unfold OwT at h ⊢
  rw [List.length_set, e]
  exact own_setCell h _
theorem Sgt.set_far {w0 w : World} {b fc oc g j : Nat} {v : HeapV} {fs : List Flt} {FA OA : Option Addr} {os : List VObj} (s : Sgt w0 w b v fs FA fc os OA oc) (hb : b < g) (hf : (Value.slice FA fs.length fc).ownBlock ≠ some g) (ho : (Value.slice OA os.length oc).ownBlock ≠ some g) (u : Value) : Sgt w0 (w.setCell ⟨g, j, none⟩ u) b v fs FA fc os OA oc := by
  have far : ∀ o, (w.setCell ⟨g, j, none⟩ u).cell? ⟨b, o, none⟩ = w.cell? ⟨b, o, none⟩ := fun o => World.cell?_setCell_far _ _ _ _ (by simp; omega)
  have h0 := s.hb
  refine ⟨⟨(far 0).trans s.st.c0, (far 1).trans s.st.c1, (far 2).trans s.st.c2, (far 3).trans s.st.c3, (far 4).trans s.st.c4, (far 5).trans s.st.c5⟩, ownsRow_setCell_other s.fo hf u, ownsRow_setCell_other s.oo ho u, fun i => by rw [World.frozen?_setCell]; exact s.fr i, s.lo.setCell (p := ⟨g, j, none⟩) (by simp; omega) _, ?_, s.hb⟩
  have := s.lt
  simp
  exact this
structure DtS (w0 w wx : World) (b : Nat) (v : HeapV) (fs : List Flt) (FA : Option Addr) (fc : Nat) (os : List VObj) (OA : Option Addr) (oc g L : Nat) (l : List Bool) : Prop where
  s : Sgt w0 wx b v fs FA fc os OA oc
  t : OwT wx (b + 1) (.slice (some ⟨g, 0, none⟩) L L) l
  be : Below b w wx
theorem DtS.later {w0 w wx w1 : World} {b fc oc g L : Nat} {v : HeapV} {fs : List Flt} {FA OA : Option Addr} {os : List VObj} {l : List Bool} (h : DtS w0 w wx b v fs FA fc os OA oc g L l) (hb : Below wx.heap.size wx w1) : DtS w0 w w1 b v fs FA fc os OA oc g L l :=
  ⟨h.s.later hb, h.t.below hb, h.be.trans (hb.mono (Nat.le_of_lt h.s.lt))⟩
theorem DtS.set {w0 w wx : World} {b fc oc g L j : Nat} {v : HeapV} {fs : List Flt} {FA OA : Option Addr} {os : List VObj} {l : List Bool} (h : DtS w0 w wx b v fs FA fc os OA oc g L l) (hn : l.length = L) (x : Bool) : DtS w0 w (wx.setCell ⟨g, j, none⟩ (.bool x)) b v fs FA fc os OA oc g L (l.set j x) := by
  have hg : b + 1 ≤ g := (World.ownsRow.lt h.t g rfl).1
  exact ⟨h.s.set_far (g := g) (j := j) (show b < g by omega) (fun e => own_tag h.s.fo h.t (by decide) e rfl) (fun e => own_tag h.s.oo h.t (by decide) e rfl) _, h.t.set hn x, h.be.setCell (p := ⟨g, j, none⟩) (by simp; omega) _⟩
theorem DtS.told {w0 w wx w1 : World} {b fc oc g L g1 cap : Nat} {v : HeapV} {fs fs1 : List Flt} {FA OA : Option Addr} {os : List VObj} {l : List Bool} (h : DtS w0 w wx b v fs FA fc os OA oc g L l) (s : Sgt w0 w1 b v fs1 (some ⟨g1, 0, none⟩) cap os OA oc) (k : Keeps wx w1 b (Value.slice FA fs.length fc).ownBlock) : DtS w0 w w1 b v fs1 (some ⟨g1, 0, none⟩) cap os OA oc g L l :=
  ⟨s, k.own h.t (by omega) (fun q hq => own_tag h.t h.s.fo (by decide) hq), h.be.trans k.be⟩
theorem dirtTo_len (ar : List Int) (os : List VObj) : ∀ n, (dirtTo ar os n).length ≤ n := by
  intro n
  induction n with
  | zero => simp [dirtTo]
  | succ n ih =>
    rw [dirtTo, List.length_append]
    split <;> simp <;> omega
set_option maxRecDepth 100000 in
set_option maxHeartbeats 16000000 in
theorem dirt42 (w0 w : World) (b fc oc : Nat) (v : HeapV) (h : HeapB) (fs0 : List Flt) (FA OA : Option Addr) (os : List VObj) (st : Sgt w0 w b v fs0 FA fc os OA oc) (hr : RdH w0 v h) (hf : FitQ os h.ar.length) (hlen : h.ar.length ≤ 16384) (hfs : fs0.length ≤ 500000) :
    Calls Tryz.prog 42 #[.pointer (some ⟨b, 0, none⟩)] w (MoreP w0 w b v (fs0 ++ dirtTo h.ar os h.ar.length) os OA oc) := by
  have HST := Lib.hid st
  have HR := Lib.hid hr
  have HF := Lib.hid hf
  have HAR := Lib.hid hlen
  have HFS0 := Lib.hid hfs
  have hn := hr.n
  have s0 := st.st.c0
  have hb := st.lt
  obtain ⟨aA, aN, aC, ub, sA, sN, sC, vs⟩ := v
  simp only at hn s0 HR HST
  subst hn
  clear hr hf st hfs
  have Q6 : Hid (1 * h.ar.length ≤ 281474976710656) := by show _ ≤ _; omega
  have Q7 : Hid (h.ar.length ≤ maxLen) := by show _ ≤ _; unfold maxLen; omega
  obtain ⟨i0, hi, hz0, hz1, hz2⟩ := info_parts infoT
  have HZ0 := Lib.hid hz0
  have HZ1 := Lib.hid hz1
  have HZ2 := Lib.hid hz2
  have HI := Lib.hid hi
  clear hz0 hz1 hz2 hi hlen
  go_enter Tryz.func42, Tryz.ntmps42
  go_wp2_with (at_make; refine wpList_make_full _ rfl (.tmp 15) (.tmp 15) 130 rfl (b + 1) 4 i0 (.bool false) 1 Tryz.underlying130 HI.out HZ0.out HZ1.out .i64 .i64 _ _ h.ar.length rfl rfl ?c1 ?c2 ?c3 ?c4 ?c5 ?_)
  try (case c1 => omega)
  try (case c2 => omega)
  case c3 => rw [HZ2.out]; exact Q6.out
  case c4 => exact Q7.out
  case c5 => omega
  intro w1 ho hg
  have HB1 := Lib.hid (bgrown (Below.refl _ w) hg (by simp))
  have HS1 := Lib.hid (HST.out.later HB1.out)
  have HD1 : Hid (DtS w0 w w1 b ⟨aA, h.ar.length, aC, ub, sA, sN, sC, vs⟩ fs0 FA fc os OA oc w.heap.size h.ar.length (marks os 0 0 0 h.ar.length)) := by
    refine ⟨HS1.out, ?_, HB1.out.mono (Nat.le_of_lt hb)⟩
    show OwT _ _ _ _
    rw [marks_none]
    unfold OwT
    rw [List.length_replicate, ← made_bs, Nat.mul_one]
    exact ho
  have HGB : Hid (b < w.heap.size) := hb
  generalize hgg : w.heap.size = g at *
  clear ho hg HB1 HS1 hgg s0 HST
  have s5 := HD1.out.s.st.c5
  have hfew := HF.out.few
  go_wp2
  clear s5
  obtain ⟨wo, hwo⟩ : ∃ wo : World, wo = w1 := ⟨_, rfl⟩
  go_loopw [22] (fun i wr => ∃ (k : Nat), k ≤ os.length ∧ i = .int .i64 k ∧ Hid (DtS w0 w wr b ⟨aA, h.ar.length, aC, ub, sA, sN, sC, vs⟩ fs0 FA fc os OA oc g h.ar.length (marks os k 0 0 h.ar.length))) (fun i _ => os.length - (intOf i).toNat)
  case atStart => exact ⟨0, Nat.zero_le _, rfl, HD1.out⟩
  case round =>
    obtain ⟨k, hk, rfl, HSi⟩ := hrel
    clear HD1 hwo
    by_cases hlt : k < os.length
    · have ho : os[k]? = some os[k] := List.getElem?_eq_getElem hlt
      generalize os[k] = o at ho
      obtain ⟨bk, oo, hA, hbk, c0, c1, c2, c3, c4, c5, c6, c7⟩ := (HSi.out.s.oo.rd rfl).at_ ho
      have HMN0 := Lib.hid (marks_next (L := h.ar.length) ho)
      have HEA := Lib.hid (HF.out.each o (List.mem_of_getElem? ho))
      have HWI := Lib.hid (HF.out.wide o (List.mem_of_getElem? ho))
      have HEW : Hid (o.wide = if o.ok = true then o.n.toNat + 1 else o.r) := rfl
      subst hA
      clear hbk ho
      cases hok : o.ok
      · have hMN : marks os k o.a o.r h.ar.length = marks os (k + 1) 0 0 h.ar.length := by rw [← HMN0.out, HEW.out, hok]; rfl
        have hMM : o.a + o.r ≤ h.ar.length := by have := HWI.out; rw [HEW.out, hok] at this; simp at this; omega
        rw [hok] at c7
        have HMN := Lib.hid hMN
        have HM := Lib.hid hMM
        clear hMN hMM hok HEA HWI HEW HMN0
        generalize hon : o.n = on at *
        generalize hrM : o.r = M at *
        clear hon hrM
        have hba := balloc (Below.refl wr.heap.size wr) (.cells #[.int .i64 o.i, .int .i64 o.k, .int .u64 o.a, .int .u64 M, .int .i64 on, .int .u64 o.m, .bool o.cur, .bool false] 124)
        go_wp2
        have HDA := Lib.hid (HSi.out.later hba)
        have HQA : Hid (VarQ (wr.alloc (.cells #[.int .i64 o.i, .int .i64 o.k, .int .u64 o.a, .int .u64 M, .int .i64 on, .int .u64 o.m, .bool o.cur, .bool false] 124)) wr.heap.size ⟨o.i, o.k, o.a, M, on, o.m, o.cur, false⟩) := VarQ.made wr ⟨o.i, o.k, o.a, M, on, o.m, o.cur, false⟩ _ rfl
        have HQG : Hid (wr.heap.size ≠ g) := fun e => by have := (World.ownsRow.lt HSi.out.t g rfl).2; omega
        generalize hWA : wr.alloc (.cells #[.int .i64 o.i, .int .i64 o.k, .int .u64 o.a, .int .u64 M, .int .i64 on, .int .u64 o.m, .bool o.cur, .bool false] 124) = WA at *
        generalize hqq : wr.heap.size = q at *
        clear hWA hqq c0 c1 c2 c3 c4 c5 c6 c7 hba HSi
        obtain ⟨wi, hwi⟩ : ∃ wi : World, wi = WA := ⟨_, rfl⟩
        go_loopw [36] (fun i5 wq => ∃ (f : Nat), f ≤ M ∧ i5 = .int .u64 f ∧ Hid (DtS w0 w wq b ⟨aA, h.ar.length, aC, ub, sA, sN, sC, vs⟩ fs0 FA fc os (some ⟨bk, oo, none⟩) oc g h.ar.length (marks os k o.a f h.ar.length)) ∧ Hid (VarQ wq q ⟨o.i, o.k, o.a, M, on, o.m, o.cur, false⟩)) (fun i5 _ => M - (intOf i5).toNat)
        case atStart =>
          exact ⟨0, Nat.zero_le _, rfl, by rw [marks_zero]; exact HDA.out, HQA.out⟩
        case round =>
          clear HDA HQA hwi
          obtain ⟨f, hfM, rfl, HDf, HQf⟩ := hrel
          by_cases hff : f < M
          · have q2 := HQf.out.c2
            simp only at q2
            obtain ⟨j, hj⟩ : ∃ j, j = o.a + f := ⟨_, rfl⟩
            have hjl : j < h.ar.length := by have := HM.out; omega
            have hw2 : IntKind.u64.wrap ((o.a : Int) + (f : Int)) = (j : Int) := by rw [show (o.a : Int) + (f : Int) = (j : Int) by omega, u64_wrap_]; have := HAR.out; omega
            have hw3 : IntKind.u64.wrap ((f : Int) + 1) = (f : Int) + 1 := by rw [u64_wrap_]; have := HAR.out; have := HM.out; omega
            have hq1 : (0 : Int) ≤ (j : Int) := by omega
            have hq2 : (j : Int) < (h.ar.length : Int) := by omega
            have hmj : (bls (marks os k o.a f h.ar.length))[j]? = some (.bool (theirs (os.take k) j || (decide (o.a ≤ j) && decide (j < o.a + f)))) := by unfold bls; rw [List.getElem?_map, marks_at hjl]; rfl
            have hoc := HDf.out.t
            unfold OwT at hoc
            rw [marks_len] at hoc
            obtain ⟨cj, zj⟩ := own_cell hoc hmj
            have mj := World.block_lt_of_cell? _ _ cj
            have HDN : Hid (DtS w0 w (wr.setCell ⟨g, j, none⟩ (.bool true)) b ⟨aA, h.ar.length, aC, ub, sA, sN, sC, vs⟩ fs0 FA fc os (some ⟨bk, oo, none⟩) oc g h.ar.length (marks os k o.a (f + 1) h.ar.length)) := by rw [← marks_set, ← hj]; exact HDf.out.set (marks_len _ _ _ _ _) true
            have HQN := Lib.hid (HQf.out.set_ne (p := ⟨g, j, none⟩) (fun e => HQG.out e.symm) (.bool true))
            generalize (theirs (os.take k) j || (decide (o.a ≤ j) && decide (j < o.a + f))) = tt at cj
            clear hmj hoc hj HDf HQf
            go_wp2
            clear cj zj mj q2 hw2 hq1 hq2
            go_roundw
            case rel => exact ⟨f + 1, by omega, by first | go_num | (simp; omega), HDN.out, HQN.out⟩
            case measure => simp [intOf]; omega
          · obtain rfl : f = M := by omega
            have HDL : Hid (DtS w0 w wr b ⟨aA, h.ar.length, aC, ub, sA, sN, sC, vs⟩ fs0 FA fc os (some ⟨bk, oo, none⟩) oc g h.ar.length (marks os (k + 1) 0 0 h.ar.length)) := by rw [← HMN.out]; exact HDf.out
            clear HDf HQf
            go_wp2
            go_roundw
            case rel => exact ⟨k + 1, by omega, by go_num, HDL.out⟩
            case measure => simp [intOf]; omega
      · obtain ⟨e1, e2, e3, e4, e5⟩ := HEA.out hok
        obtain ⟨N, hN⟩ := Int.eq_ofNat_of_zero_le e2
        have hMN : marks os k o.a (N + 1) h.ar.length = marks os (k + 1) 0 0 h.ar.length := by rw [← HMN0.out, HEW.out, hok, hN]; rfl
        have hw1 : IntKind.u64.wrap (N : Int) = (N : Int) := by rw [u64_wrap_]; omega
        have hw4 : IntKind.u64.wrap ((N : Int) + 1) = (N : Int) + 1 := by rw [u64_wrap_]; omega
        have hMM : o.a + (N + 1) ≤ h.ar.length := by omega
        rw [hok] at c7
        rw [hN] at c4
        have HMN := Lib.hid hMN
        have HM := Lib.hid hMM
        have HN := Lib.hid (show N ≤ 48 by omega)
        clear hMN hMM hok HEA HWI HEW HMN0 hN e1 e2 e3 e4 e5
        have hba := balloc (Below.refl wr.heap.size wr) (.cells #[.int .i64 o.i, .int .i64 o.k, .int .u64 o.a, .int .u64 o.r, .int .i64 (N : Int), .int .u64 o.m, .bool o.cur, .bool true] 124)
        go_wp2
        clear hw1 hw4
        obtain ⟨M, hM⟩ : ∃ M, M = N + 1 := ⟨_, rfl⟩
        have eM : (N : Int) + 1 = (M : Int) := by omega
        rw [eM]
        rw [← hM] at HMN HM
        clear hM eM
        have HDA := Lib.hid (HSi.out.later hba)
        have HQA : Hid (VarQ (wr.alloc (.cells #[.int .i64 o.i, .int .i64 o.k, .int .u64 o.a, .int .u64 o.r, .int .i64 (N : Int), .int .u64 o.m, .bool o.cur, .bool true] 124)) wr.heap.size ⟨o.i, o.k, o.a, o.r, (N : Int), o.m, o.cur, true⟩) := VarQ.made wr ⟨o.i, o.k, o.a, o.r, (N : Int), o.m, o.cur, true⟩ _ rfl
        have HQG : Hid (wr.heap.size ≠ g) := fun e => by have := (World.ownsRow.lt HSi.out.t g rfl).2; omega
        generalize hWA : wr.alloc (.cells #[.int .i64 o.i, .int .i64 o.k, .int .u64 o.a, .int .u64 o.r, .int .i64 (N : Int), .int .u64 o.m, .bool o.cur, .bool true] 124) = WA at *
        generalize hqq : wr.heap.size = q at *
        clear hWA hqq c0 c1 c2 c3 c4 c5 c6 c7 hba HSi
        obtain ⟨wi, hwi⟩ : ∃ wi : World, wi = WA := ⟨_, rfl⟩
        go_loopw [36] (fun i5 wq => ∃ (f : Nat), f ≤ M ∧ i5 = .int .u64 f ∧ Hid (DtS w0 w wq b ⟨aA, h.ar.length, aC, ub, sA, sN, sC, vs⟩ fs0 FA fc os (some ⟨bk, oo, none⟩) oc g h.ar.length (marks os k o.a f h.ar.length)) ∧ Hid (VarQ wq q ⟨o.i, o.k, o.a, o.r, (N : Int), o.m, o.cur, true⟩)) (fun i5 _ => M - (intOf i5).toNat)
        case atStart =>
          exact ⟨0, Nat.zero_le _, rfl, by rw [marks_zero]; exact HDA.out, HQA.out⟩
        case round =>
          clear HDA HQA hwi
          obtain ⟨f, hfM, rfl, HDf, HQf⟩ := hrel
          by_cases hff : f < M
          · have q2 := HQf.out.c2
            simp only at q2
            obtain ⟨j, hj⟩ : ∃ j, j = o.a + f := ⟨_, rfl⟩
            have hjl : j < h.ar.length := by have := HM.out; omega
            have hw2 : IntKind.u64.wrap ((o.a : Int) + (f : Int)) = (j : Int) := by rw [show (o.a : Int) + (f : Int) = (j : Int) by omega, u64_wrap_]; have := HAR.out; omega
            have hw3 : IntKind.u64.wrap ((f : Int) + 1) = (f : Int) + 1 := by rw [u64_wrap_]; have := HAR.out; have := HM.out; omega
            have hq1 : (0 : Int) ≤ (j : Int) := by omega
            have hq2 : (j : Int) < (h.ar.length : Int) := by omega
            have hmj : (bls (marks os k o.a f h.ar.length))[j]? = some (.bool (theirs (os.take k) j || (decide (o.a ≤ j) && decide (j < o.a + f)))) := by unfold bls; rw [List.getElem?_map, marks_at hjl]; rfl
            have hoc := HDf.out.t
            unfold OwT at hoc
            rw [marks_len] at hoc
            obtain ⟨cj, zj⟩ := own_cell hoc hmj
            have mj := World.block_lt_of_cell? _ _ cj
            have HDN : Hid (DtS w0 w (wr.setCell ⟨g, j, none⟩ (.bool true)) b ⟨aA, h.ar.length, aC, ub, sA, sN, sC, vs⟩ fs0 FA fc os (some ⟨bk, oo, none⟩) oc g h.ar.length (marks os k o.a (f + 1) h.ar.length)) := by rw [← marks_set, ← hj]; exact HDf.out.set (marks_len _ _ _ _ _) true
            have HQN := Lib.hid (HQf.out.set_ne (p := ⟨g, j, none⟩) (fun e => HQG.out e.symm) (.bool true))
            generalize (theirs (os.take k) j || (decide (o.a ≤ j) && decide (j < o.a + f))) = tt at cj
            clear hmj hoc hj HDf HQf
            go_wp2
            clear cj zj mj q2 hw2 hq1 hq2
            go_roundw
            case rel => exact ⟨f + 1, by omega, by first | go_num | (simp; omega), HDN.out, HQN.out⟩
            case measure => simp [intOf]; omega
          · obtain rfl : f = M := by omega
            have HDL : Hid (DtS w0 w wr b ⟨aA, h.ar.length, aC, ub, sA, sN, sC, vs⟩ fs0 FA fc os (some ⟨bk, oo, none⟩) oc g h.ar.length (marks os (k + 1) 0 0 h.ar.length)) := by rw [← HMN.out]; exact HDf.out
            clear HDf HQf
            go_wp2
            go_roundw
            case rel => exact ⟨k + 1, by omega, by go_num, HDL.out⟩
            case measure => simp [intOf]; omega
    · obtain rfl : k = os.length := by omega
      have s0 := HSi.out.s.st.c0
      simp only at s0
      have hAR := HAR.out
      go_wp2
      clear s0
      obtain ⟨wp, hwp⟩ : ∃ wp : World, wp = wr := ⟨_, rfl⟩
      go_loopw [54] (fun i wq => ∃ (k : Nat) (FA : Option Addr) (fc : Nat), k ≤ h.ar.length ∧ i = .int .i64 k ∧ Hid (DtS w0 w wq b ⟨aA, h.ar.length, aC, ub, sA, sN, sC, vs⟩ (fs0 ++ dirtTo h.ar os k) FA fc os OA oc g h.ar.length (marks os os.length 0 0 h.ar.length))) (fun i _ => h.ar.length - (intOf i).toNat)
      case atStart =>
        have hx1 : fs0 ++ dirtTo h.ar os 0 = fs0 := by simp [dirtTo]
        exact ⟨0, FA, fc, Nat.zero_le _, rfl, by rw [hx1]; exact HSi.out⟩
      case round =>
        clear HSi hwp
        obtain ⟨i, FA, fc, hi, rfl, HDi⟩ := hrel
        by_cases hlt : i < h.ar.length
        · have hx : h.ar[i]? = some h.ar[i] := List.getElem?_eq_getElem hlt
          have hwx : wd h.ar i = h.ar[i] := wd_at hx
          generalize h.ar[i] = x at hx hwx
          have HNF0 : Hid (dirtTo h.ar os (i + 1) = dirtTo h.ar os i ++ (if wd h.ar i ≠ 0 ∧ theirs os i = false then [⟨6, i⟩] else [])) := rfl
          rw [hwx] at HNF0
          obtain ⟨ba, oa, hAa, hba, hca⟩ := (HR.out.ar.below HDi.out.s.lo).at_ hx
          simp only at hAa
          subst hAa
          have hq1 : (0 : Int) ≤ (i : Int) := by omega
          have hq2 : (i : Int) < (h.ar.length : Int) := by omega
          clear hx hwx hba
          by_cases hx0 : x = 0
          · have HNF : Hid (dirtTo h.ar os (i + 1) = dirtTo h.ar os i) := by show _ = _; rw [HNF0.out]; simp [hx0]
            have hd : (x != 0) = false := by simp [hx0]
            clear hx0 HNF0
            go_wp2
            go_roundw
            case rel => exact ⟨i + 1, FA, fc, by omega, by go_num, by rw [HNF.out]; exact HDi.out⟩
            case measure => simp [intOf]; omega
          · have hd : (x != 0) = true := by simpa using hx0
            have hmj : (bls (marks os os.length 0 0 h.ar.length))[i]? = some (.bool (theirs os i)) := by unfold bls; rw [List.getElem?_map, marks_all hlt]; rfl
            have hoc := HDi.out.t
            unfold OwT at hoc
            rw [marks_len] at hoc
            have cj := (own_cell hoc hmj).1
            clear hmj hoc
            cases hth : theirs os i
            · have HNF : Hid (dirtTo h.ar os (i + 1) = dirtTo h.ar os i ++ [⟨6, i⟩]) := by show _ = _; rw [HNF0.out, if_pos ⟨hx0, hth⟩]
              rw [hth] at cj
              have hfl : (fs0 ++ dirtTo h.ar os i).length ≤ 1000000 := by
                rw [List.length_append]
                have h1 := dirtTo_len h.ar os i
                have h2 := HFS0.out
                have h3 := HAR.out
                omega
              have hw1 : IntKind.u64.wrap (i : Int) = (i : Int) := by rw [u64_wrap_]; have := HAR.out; omega
              obtain ⟨FS, hFS⟩ : ∃ FS, FS = fs0 ++ dirtTo h.ar os i := ⟨_, rfl⟩
              rw [← hFS] at HDi hfl
              have HFS := Lib.hid hFS
              have CT := Lib.hid (tell75 w0 wr b fc oc _ FS FA _ os ⟨6, i⟩ HDi.out.s hfl)
              clear hx0 hth HNF0 hfl hFS
              go_wp2_with (go_at_call 75; refine CT.out.mono ?_)
              rintro e w9 ⟨rfl, g9, cap, hs9, hg9, hk9⟩
              have HD9 := Lib.hid (HDi.out.told hs9 hk9)
              clear hs9 hg9 hk9 CT HDi cj hca
              go_wp2
              go_roundw
              case rel => exact ⟨i + 1, some ⟨g9, 0, none⟩, cap, by omega, by go_num, by rw [HNF.out, ← List.append_assoc, ← HFS.out]; exact HD9.out⟩
              case measure => simp [intOf]; omega
            · have HNF : Hid (dirtTo h.ar os (i + 1) = dirtTo h.ar os i) := by show _ = _; rw [HNF0.out, hth]; simp
              rw [hth] at cj
              clear hx0 hth HNF0
              go_wp2
              go_roundw
              case rel => exact ⟨i + 1, FA, fc, by omega, by go_num, by rw [HNF.out]; exact HDi.out⟩
              case measure => simp [intOf]; omega
        · obtain rfl : i = h.ar.length := by omega
          go_wp2
          go_end0
          exact ⟨rfl, ⟨FA, fc, HDi.out.s⟩, HDi.out.be⟩
end Go.Proofs.YtieijfefnedifaaGreatDoor
