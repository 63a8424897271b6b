/- The walk of the reference's Add. -/
import Derived.Test.YtchbbldanmmpjaaDoorUH
namespace Go.Proofs.YtchbbldanmmpjaaDoor
open Go.RowKit
set_option linter.unusedVariables false
set_option linter.unusedSimpArgs false

def lapR (s x : SpanB) : Bool := decide (x.first < endP s) && decide (s.first < endP x)
def stR (s : SpanB) (q : List SpanB × Bool) (x : SpanB) : List SpanB × Bool := if !q.2 && decide (s.first < x.first) then (q.1 ++ [s] ++ [x], true) else (q.1 ++ [x], q.2)
def stK (s : SpanB) (l : List SpanB) (k : Nat) : List SpanB × Bool := (l.take k).foldl (stR s) ([], false)
theorem stK_succ {s : SpanB} {l : List SpanB} {k : Nat} {x : SpanB} (hs : l[k]? = some x) : stK s l (k + 1) = stR s (stK s l k) x := by
  have hk := (List.getElem?_eq_some_iff.1 hs).1
  unfold stK
  rw [List.take_succ_eq_append_getElem hk, List.foldl_append, (List.getElem?_eq_some_iff.1 hs).2]
  rfl
theorem st_cnt (s : SpanB) : ∀ (m : List SpanB) (q : List SpanB × Bool), (m.foldl (stR s) q).1.length + (if (m.foldl (stR s) q).2 then 0 else 1) = q.1.length + (if q.2 then 0 else 1) + m.length := by
  intro m
  induction m with
  | nil => intro q; rfl
  | cons x r ih =>
    intro q
    rw [List.foldl_cons, ih]
    obtain ⟨o, p⟩ := q
    unfold stR
    cases p <;> by_cases h : s.first < x.first <;> simp [h] <;> omega
theorem stK_len {s : SpanB} {l : List SpanB} {k : Nat} (hk : k ≤ l.length) : (stK s l k).1.length ≤ k + 1 := by
  have h := st_cnt s (l.take k) ([], false)
  rw [List.length_take] at h
  unfold stK
  simp only [List.length_nil, Bool.false_eq_true, if_false] at h
  split at h <;> omega
theorem st_put (s : SpanB) : ∀ (m o : List SpanB), m.foldl (stR s) (o, true) = (o ++ m, true) := by
  intro m
  induction m with
  | nil => intro o; simp
  | cons x r ih => intro o; rw [List.foldl_cons]; unfold stR; simp only [Bool.not_true, Bool.false_and, Bool.false_eq_true, if_false]; exact (ih _).trans (by simp)
theorem st_none (s : SpanB) : ∀ (m o : List SpanB), m.foldl (stR s) (o, false) = if m.all (fun x => !decide (s.first < x.first)) then (o ++ m, false) else (o ++ (m.takeWhile (fun x => !decide (s.first < x.first)) ++ s :: m.dropWhile (fun x => !decide (s.first < x.first))), true) := by
  intro m
  induction m with
  | nil => intro o; simp
  | cons x r ih =>
    intro o
    rw [List.foldl_cons]
    by_cases h : s.first < x.first
    · have e : stR s (o, false) x = (o ++ [s] ++ [x], true) := by unfold stR; simp [h]
      rw [e, st_put]
      simp [h]
    · have e : stR s (o, false) x = (o ++ [x], false) := by unfold stR; simp [h]
      rw [e, ih]
      simp [h]
theorem takeWhile_all {α : Type} {p : α → Bool} : ∀ (l : List α), (∀ x ∈ l, p x = true) → l.takeWhile p = l := by
  intro l
  induction l with
  | nil => intro _; rfl
  | cons x r ih => intro h; rw [List.takeWhile_cons_of_pos (h x (by simp)), ih (fun y hy => h y (by simp [hy]))]
theorem take_drop_while {α : Type} (p : α → Bool) (l : List α) : l.takeWhile p = l.take (l.takeWhile p).length ∧ l.dropWhile p = l.drop (l.takeWhile p).length := by
  induction l with
  | nil => simp
  | cons x r ih =>
    by_cases h : p x = true
    · rw [List.takeWhile_cons_of_pos h, List.dropWhile_cons_of_pos h]
      simp only [List.length_cons, List.take_succ_cons, List.drop_succ_cons]
      exact ⟨by rw [← ih.1], ih.2⟩
    · rw [List.takeWhile_cons_of_neg h, List.dropWhile_cons_of_neg h]
      simp
/-- Whether a span lies over another one, the reference's way. -/
theorem lap_eq {l : List SpanB} {s : SpanB} (hok : okL l = true) (hr : rightP s = true) : lapP l s = l.any (lapR s) := by
  have hs := right_less hr
  have hle := posP_le l (fun x => x.first) s.first
  have hlow : ∀ a, a < posF l s → ∀ y, l[a]? = some y → y.first < s.first := fun a ha y hy => posP_less (l := l) (key := fun x => x.first) (t := s.first) ha y hy
  have hgo : ∀ {i : Nat} {x : SpanB}, l[i]? = some x → lapR s x = true → l.any (lapR s) = true := fun hx h => List.any_eq_true.2 ⟨_, List.mem_of_getElem? hx, h⟩
  cases hfd : foundP l (fun x => x.first) s.first
  · have hat : ∀ y, l[posF l s]? = some y → s.first < y.first := by
      intro y hy
      have h1 : ¬ y.first < s.first := by
        intro hlt
        have h2 : posF l s < posP l (fun x => x.first) s.first := by
          have h3 : l.takeWhile (fun x => decide (x.first < s.first)) ++ l.dropWhile (fun x => decide (x.first < s.first)) = l := List.takeWhile_append_dropWhile
          have h4 := take_drop_while (fun x : SpanB => decide (x.first < s.first)) l
          have h5 : l.dropWhile (fun x => decide (x.first < s.first)) = l.drop (posF l s) := h4.2
          have h6 : (l.drop (posF l s))[0]? = some y := by rw [List.getElem?_drop, Nat.add_zero]; exact hy
          rw [← h5] at h6
          have h7 := List.head?_dropWhile_not (fun x : SpanB => decide (x.first < s.first)) l
          rw [List.head?_eq_getElem?, h6] at h7
          simp at h7
          omega
        exact Nat.lt_irrefl _ h2
      unfold foundP at hfd
      rw [show posP l (fun x => x.first) s.first = posF l s from rfl, hy] at hfd
      rw [beq_eq_false_iff_ne] at hfd
      have h3 : y.first ≠ s.first := hfd
      omega
    unfold lapP
    rw [hfd, Bool.false_or]
    cases hL : leftP l (posF l s) s
    · rw [Bool.false_or]
      cases hN : nextP l (posF l s) s
      · symm
        rw [List.any_eq_false]
        intro x hx hlx
        obtain ⟨i, hi, rfl⟩ := List.getElem_of_mem hx
        have hx' : l[i]? = some l[i] := List.getElem?_eq_getElem hi
        generalize l[i] = x at hx' hlx
        unfold lapR at hlx
        simp only [Bool.and_eq_true, decide_eq_true_eq] at hlx
        rcases Nat.lt_trichotomy i (posF l s) with h | h | h
        · -- ahead: the one ahead of the place ends behind s begins
          obtain ⟨j, hj⟩ : ∃ j, posF l s = j + 1 := ⟨posF l s - 1, by omega⟩
          have hp' : posF l s ≤ l.length := hle
          have hjl : j < l.length := by omega
          have hy : l[j]? = some l[j] := List.getElem?_eq_getElem hjl
          rw [hj] at hL
          unfold leftP at hL
          simp only at hL
          rw [hy] at hL
          simp only [decide_eq_false_iff_not] at hL
          rcases Nat.lt_or_ge i j with h' | h'
          · have := okL_lt hok h' hx' hy
            have := hlow j (by omega) _ hy
            omega
          · obtain rfl : i = j := by omega
            rw [hx'] at hy
            cases Option.some.inj hy
            exact hL hlx.2
        · subst h
          unfold nextP at hN
          rw [hx'] at hN
          simp only [decide_eq_false_iff_not] at hN
          exact hN hlx.1
        · have hpl : posF l s < l.length := by omega
          have hy : l[posF l s]? = some l[posF l s] := List.getElem?_eq_getElem hpl
          unfold nextP at hN
          rw [hy] at hN
          simp only [decide_eq_false_iff_not] at hN
          have h1 := okL_lt hok h hy hx'
          have h2 := right_less (okL_right hok hy)
          omega
      · symm
        unfold nextP at hN
        split at hN
        · rename_i y hy
          simp only [decide_eq_true_eq] at hN
          have h1 := hat y hy
          have h2 := right_less (okL_right hok hy)
          exact hgo hy (by unfold lapR; rw [decide_eq_true hN, decide_eq_true (by omega)]; rfl)
        · cases hN
    · symm
      rw [Bool.true_or]
      unfold leftP at hL
      split at hL
      · cases hL
      · rename_i j hj
        split at hL
        · rename_i y hy
          simp only [decide_eq_true_eq] at hL
          have h1 := hlow j (by omega) y hy
          exact hgo hy (by unfold lapR; rw [decide_eq_true (by omega), decide_eq_true hL]; rfl)
        · cases hL
  · obtain ⟨y, hy, he⟩ := found_lt hfd
    have he' : y.first = s.first := he
    have h2 := right_less (okL_right hok hy)
    unfold lapP
    rw [hfd, Bool.true_or]
    symm
    exact hgo hy (by unfold lapR; rw [decide_eq_true (by omega), decide_eq_true (by omega)]; rfl)
/-- Where it is put, the reference's way. -/
theorem st_ins {l : List SpanB} {s : SpanB} (hok : okL l = true) (hr : rightP s = true) (hno : ∀ j, j < l.length → ∀ x, l[j]? = some x → lapR s x = false) :
    ((stK s l l.length).2 = true → (stK s l l.length).1 = insB l (posF l s) s) ∧ ((stK s l l.length).2 = false → (stK s l l.length).1 ++ [s] = insB l (posF l s) s) := by
  have hs := right_less hr
  have hne : ∀ x ∈ l, (!decide (s.first < x.first)) = decide (x.first < s.first) := by
    intro x hx
    obtain ⟨j, hj, rfl⟩ := List.getElem_of_mem hx
    have h1 := hno j hj _ (List.getElem?_eq_getElem hj)
    have h2 := right_less (okL_right hok (List.getElem?_eq_getElem hj))
    unfold lapR at h1
    rw [Bool.and_eq_false_iff, decide_eq_false_iff_not, decide_eq_false_iff_not] at h1
    by_cases h3 : l[j].first < s.first
    · rw [decide_eq_true h3, decide_eq_false (by omega)]; rfl
    · rw [decide_eq_false h3, decide_eq_true (by omega)]; rfl
  have e1 : l.takeWhile (fun x => !decide (s.first < x.first)) = l.takeWhile (fun x => decide (x.first < s.first)) := by
    clear hno hok
    induction l with
    | nil => rfl
    | cons a r ih =>
      rw [List.takeWhile_cons, List.takeWhile_cons, hne a (by simp), ih (fun x hx => hne x (by simp [hx]))]
  have e2 := take_drop_while (fun x : SpanB => !decide (s.first < x.first)) l
  have e3 : (l.takeWhile (fun x => !decide (s.first < x.first))).length = posF l s := by rw [e1]; rfl
  rw [e3] at e2
  unfold stK
  rw [List.take_length, st_none]
  cases ha : l.all (fun x => !decide (s.first < x.first))
  · refine ⟨fun _ => ?_, fun h => by simp at h⟩
    show [] ++ (_ ++ s :: _) = _
    rw [List.nil_append, e2.1, e2.2]
    rfl
  · refine ⟨fun h => by simp at h, fun _ => ?_⟩
    have h3 : l.takeWhile (fun x => !decide (s.first < x.first)) = l := takeWhile_all l (fun x hx => (List.all_eq_true.1 ha) x hx)
    have h4 : posF l s = l.length := by rw [← e3, h3]
    show [] ++ l ++ [s] = _
    unfold insB
    rw [h4]
    simp
theorem add_lap {l : List SpanB} {s : SpanB} (hok : okL l = true) (hr : rightP s = true) {k : Nat} {x : SpanB} (hx : l[k]? = some x) (h : lapR s x = true) : addL l s = l ∧ addE l s = 4 := by
  have h1 : lapP l s = true := by rw [lap_eq hok hr]; exact List.any_eq_true.2 ⟨_, List.mem_of_getElem? hx, h⟩
  unfold addL addE
  simp [hok, hr, h1]
theorem add_nolap {l : List SpanB} {s : SpanB} (hok : okL l = true) (hr : rightP s = true) (hno : ∀ j, j < l.length → ∀ x, l[j]? = some x → lapR s x = false) :
    addL l s = (if l.length = 256 then l else insB l (posF l s) s) ∧ addE l s = if l.length = 256 then 6 else 0 := by
  have h1 : lapP l s = false := by
    rw [lap_eq hok hr, List.any_eq_false]
    intro x hx
    obtain ⟨j, hj, rfl⟩ := List.getElem_of_mem hx
    rw [hno j hj _ (List.getElem?_eq_getElem hj)]
    simp
  unfold addL addE
  simp [hok, hr, h1]
theorem VarS.grown {w w1 : World} {b : Nat} {x : SpanV} {r : Option Nat} (h : VarS w b x) (hg : w.grownBy w1 r) (hr : some b ≠ r) : VarS w1 b x :=
  ⟨gcell hg h.c0 hr, gcell hg h.c1 hr, gcell hg h.c2 hr, gcell hg h.c3 hr, gcell hg h.c4 hr, gcell hg h.c5 hr, gcell hg h.c6 hr, gcell hg h.c7 hr⟩

def Acc (w W : World) (v : Value) (l : List SpanB) : Prop := OwL W (w.heap.size + 1) v l ∧ Below w.heap.size w W ∧ w.heap.size + 1 ≤ W.heap.size
theorem acc_put {w W w2 : World} {v : Value} {l : List SpanB} {x : SpanV} {s : SpanB} (h : Acc w W v l) (hb : Below W.heap.size W w2) (hx : OwN w2 W.heap.size x s) :
    ∃ us, OwS (w2.alloc (.cells #[.int .i64 x.first, .int .i64 x.pages, .int .i64 x.size, .int .i64 x.al.n, .slice x.al.A x.al.m x.al.c, .int .i64 x.ma.n, .slice x.ma.A x.ma.m x.ma.c, .bool x.sw] 26)) (w.heap.size + 1) v us ∧ us.length = l.length ∧
      RdS (w2.alloc (.cells #[.int .i64 x.first, .int .i64 x.pages, .int .i64 x.size, .int .i64 x.al.n, .slice x.al.A x.al.m x.al.c, .int .i64 x.ma.n, .slice x.ma.A x.ma.m x.ma.c, .bool x.sw] 26)) (some ⟨w2.heap.size, 0, none⟩) [x] ∧
      w.heap.size + 1 ≤ (w2.alloc (.cells #[.int .i64 x.first, .int .i64 x.pages, .int .i64 x.size, .int .i64 x.al.n, .slice x.al.A x.al.m x.al.c, .int .i64 x.ma.n, .slice x.ma.A x.ma.m x.ma.c, .bool x.sw] 26)).heap.size ∧
      ∀ v' w4, OwS w4 (w.heap.size + 1) v' (us ++ [x]) → (w2.alloc (.cells #[.int .i64 x.first, .int .i64 x.pages, .int .i64 x.size, .int .i64 x.al.n, .slice x.al.A x.al.m x.al.c, .int .i64 x.ma.n, .slice x.ma.A x.ma.m x.ma.c, .bool x.sw] 26)).grownBy w4 v.ownBlock →
        Acc w w4 v' (l ++ [s]) ∧ ∀ b y, VarS W b y → (∀ k, v.ownBlock = some k → k ≠ b) → VarS w4 b y := by
  obtain ⟨⟨us, hO, hN⟩, hB, hz⟩ := h
  have ha := balloc (Below.refl w2.heap.size w2) (.cells #[.int .i64 x.first, .int .i64 x.pages, .int .i64 x.size, .int .i64 x.al.n, .slice x.al.A x.al.m x.al.c, .int .i64 x.ma.n, .slice x.ma.A x.ma.m x.ma.c, .bool x.sw] 26)
  have hO3 := (hO.below hb).below ha
  have hN3 := (hN.below hb).below ha
  have hx3 := (hx.mono (base' := w.heap.size + 1) hz).below ha
  have hz3 := Nat.le_trans hz (Nat.le_trans hb.size ha.size)
  refine ⟨us, hO3, hN.1, RdS.made w2 x, hz3, fun v' w4 ho hg => ⟨⟨OwL.snoc hO3 hN3 hx3 ho hg, bgrown (bthen (bthen hB hb) ha) hg (fun k hk => by have := (hO3.lt k hk).1; omega), Nat.le_trans hz3 hg.size⟩, fun b y hv hne => ?_⟩⟩
  exact ((hv.below hb).below ha).grown hg (fun e => hne b e.symm rfl)
set_option maxRecDepth 100000 in
set_option maxHeartbeats 16000000 in
theorem add27 (A : Option Addr) (c : Nat) (vs : List SpanV) (l : List SpanB) (v : SpanV) (s : SpanB) (w : World) (h : RdL w A vs l) (hv : RdN w v s) : Calls Tryd.prog 27 #[.slice A l.length c, v.v] w (RetLE (addL l s) (addE l s) w) := by
  have hl := h.len
  have CC : Hid (∀ W, Below w.heap.size w W → Calls Tryd.prog 20 #[.slice A l.length c] W (Ret (.int .i64 (chkE l)) W)) := fun W hW => check20 A c vs l W (h.below hW)
  have CR : Hid (∀ W, Below w.heap.size w W → Calls Tryd.prog 41 #[v.v] W (Ret (.bool (rightP s)) W)) := fun W hW => right41' v s W (hv.below hW)
  have CN : Hid (rightP s = true → ∀ W, Below w.heap.size w W → Calls Tryd.prog 31 #[v.v] W (RetN s W)) := fun hr W hW => one31 v s W (hv.below hW) (right_small hr)
  have CP : Hid (okL l = true → ∀ W, Below w.heap.size w W → Calls Tryd.prog 25 #[.slice A l.length c] W (RetL l W)) := fun hok W hW => copy25 A c vs l W (h.below hW) (okL_small hok)
  have H := Lib.hid h
  have hfi := hv.first
  have hpg := hv.pages
  obtain ⟨f, p, z, ⟨n, A1, m1, ca⟩, ⟨n', A2, m', cb⟩, sw⟩ := v
  unfold SpanV.v at CR CN ⊢
  simp only at CR CN hfi hpg ⊢
  subst hfi
  subst hpg
  have HB0 : Hid (Below w.heap.size w (w.alloc (.cells #[.int .i64 s.first, .int .i64 s.pages, .int .i64 z, .int .i64 n, .slice A1 m1 ca, .int .i64 n', .slice A2 m' cb, .bool sw] 26))) := balloc (Below.refl _ _) _
  have HV0 : Hid (VarS (w.alloc (.cells #[.int .i64 s.first, .int .i64 s.pages, .int .i64 z, .int .i64 n, .slice A1 m1 ca, .int .i64 n', .slice A2 m' cb, .bool sw] 26)) w.heap.size ⟨s.first, s.pages, z, ⟨n, A1, m1, ca⟩, ⟨n', A2, m', cb⟩, sw⟩) := VarS.made w ⟨s.first, s.pages, z, ⟨n, A1, m1, ca⟩, ⟨n', A2, m', cb⟩, sw⟩ _ rfl
  clear h hv
  by_cases hok : okL l = true
  · rw [show chkE l = 0 from by simp [chkE, hok]] at CC
    have CP := Lib.hid (CP.out hok)
    by_cases hr : rightP s = true
    · have CN := Lib.hid (CN.out hr)
      rw [hr] at CR
      have HOK := Lib.hid hok
      have HR := Lib.hid hr
      have HLEN := Lib.hid (okL_len hok)
      have hrl := right_less hr
      have hs0 : 0 ≤ s.first := hrl.2
      have hre := right_end hr
      have hs1 : 1 ≤ s.pages := by have := hrl.1; unfold endP at this; omega
      have hs2 : s.first + s.pages ≤ 1024 := hre.2.2
      clear hok hr hrl hre
      go_enter Tryd.func27, Tryd.ntmps27
      go_wp2_with (go_at_call 20; refine (CC.out _ HB0.out).mono ?_)
      rintro e w1 ⟨rfl, hb1⟩
      have HB1 := Lib.hid (bthen HB0.out hb1)
      have HV1 := Lib.hid (HV0.out.below hb1)
      clear hb1
      obtain ⟨k0, k1, k2, k3, k4, k5, k6, k7⟩ := HV1.out
      simp only at k0 k1 k2 k3 k4 k5 k6 k7
      go_wp2_with (go_at_call 41; refine (CR.out _ HB1.out).mono ?_)
      rintro e w2 ⟨rfl, hb2⟩
      have HB2 := Lib.hid (bthen HB1.out hb2)
      have HV2 := Lib.hid (HV1.out.below hb2)
      clear hb2
      clear k0 k1 k2 k3 k4 k5 k6 k7
      go_wp2
      have HZ2 : Hid (w.heap.size + 1 ≤ w2.heap.size) := by show _ ≤ _; have := HV2.out.lt; omega
      obtain ⟨wo, hwo⟩ : ∃ wo : World, wo = w2 := ⟨w2, rfl⟩
      go_loopw [6, 7, 20] (fun v6 t7 i wr => ∃ k : Nat, k ≤ l.length ∧ i = .int .i64 k ∧ t7 = .bool (stK s l k).2 ∧ Hid (Acc w wr v6 (stK s l k).1) ∧ Hid (VarS wr w.heap.size ⟨s.first, s.pages, z, ⟨n, A1, m1, ca⟩, ⟨n', A2, m', cb⟩, sw⟩) ∧ Hid (∀ j, j < k → ∀ x, l[j]? = some x → lapR s x = false)) (fun v6 t7 i _ => l.length - (intOf i).toNat)
      case atStart => exact ⟨0, Nat.zero_le _, rfl, rfl, ⟨OwL.nil_ _ _, HB2.out, HZ2.out⟩, HV2.out, fun j hj => by omega⟩
      case round =>
        obtain ⟨k, hk, rfl, rfl, HA, HV, HNO⟩ := hrel
        have HBr := Lib.hid HA.out.2.1
        have HLK := Lib.hid (stK_len (s := s) hk)
        by_cases hlt : k < l.length
        · have hs : l[k]? = some l[k] := List.getElem?_eq_getElem hlt
          generalize l[k] = y at hs
          obtain ⟨v, bk, o, hv, hR, hA, hbk, c0, c1, c2, c3, c4, c5, c6, c7⟩ := H.out.at_ hs
          obtain ⟨hcr, hfr⟩ := bcell HBr.out
          have hry := okL_right HOK.out hs
          have hyl := right_less hry
          have hye := right_end hry
          have CY : Hid (∀ W, Below w.heap.size w W → Calls Tryd.prog 31 #[v.v] W (RetN y W)) := fun W hW => one31 v y W (hR.below hW) (right_small hry)
          have HSUC := Lib.hid (stK_succ (s := s) hs)
          have h1 := hR.first
          have h2 := hR.pages
          obtain ⟨fy, py, zy, ⟨ny, A1y, my, cay⟩, ⟨ny', A2y, my', cby⟩, swy⟩ := v
          unfold SpanV.v at CY
          simp only at c0 c1 c2 c3 c4 c5 c6 c7 CY h1 h2
          subst hA
          subst h1
          subst h2
          have hy0 : 0 ≤ y.first := hyl.2
          have hy1 : 1 ≤ y.pages := by have := hyl.1; unfold endP at this; omega
          have hy2 : y.first + y.pages ≤ 1024 := hye.2.2
          have HSS := Lib.hid hs
          have HB3 := Lib.hid (balloc HBr.out (.cells #[.int .i64 y.first, .int .i64 y.pages, .int .i64 zy, .int .i64 ny, .slice A1y my cay, .int .i64 ny', .slice A2y my' cby, .bool swy] 26))
          have HVY : Hid (VarS (wr.alloc (.cells #[.int .i64 y.first, .int .i64 y.pages, .int .i64 zy, .int .i64 ny, .slice A1y my cay, .int .i64 ny', .slice A2y my' cby, .bool swy] 26)) wr.heap.size ⟨y.first, y.pages, zy, ⟨ny, A1y, my, cay⟩, ⟨ny', A2y, my', cby⟩, swy⟩) := VarS.made wr ⟨y.first, y.pages, zy, ⟨ny, A1y, my, cay⟩, ⟨ny', A2y, my', cby⟩, swy⟩ _ rfl
          have HAlloc := Lib.hid (balloc (Below.refl wr.heap.size wr) (.cells #[.int .i64 y.first, .int .i64 y.pages, .int .i64 zy, .int .i64 ny, .slice A1y my cay, .int .i64 ny', .slice A2y my' cby, .bool swy] 26))
          have HV3 := Lib.hid (HV.out.below HAlloc.out)
          have HA3 : Hid (Acc w (wr.alloc (.cells #[.int .i64 y.first, .int .i64 y.pages, .int .i64 zy, .int .i64 ny, .slice A1y my cay, .int .i64 ny', .slice A2y my' cby, .bool swy] 26)) _ (stK s l k).1) := ⟨HA.out.1.below HAlloc.out, HB3.out, Nat.le_trans HA.out.2.2 HAlloc.out.size⟩
          have HNB : Hid (∀ g, Value.ownBlock u6 = some g → g ≠ wr.heap.size ∧ g ≠ w.heap.size) := fun g hg => by
            obtain ⟨us, ho, _⟩ := HA.out.1
            have := ho.lt g hg
            omega
          have hz1 : w.heap.size < wr.heap.size := HA.out.2.2
          clear hv hs hR hry hyl hye
          obtain ⟨k0, k1, k2, k3, k4, k5, k6, k7⟩ := HV.out
          simp only at k0 k1 k2 k3 k4 k5 k6 k7
          by_cases ho1 : y.first < s.first + s.pages
          · by_cases ho2 : s.first < y.first + y.pages
            · have hlap : lapR s y = true := by unfold lapR; rw [decide_eq_true (by show _ < s.first + s.pages; exact ho1), decide_eq_true (by show _ < y.first + y.pages; exact ho2)]; rfl
              have E1 := Lib.hid (add_lap HOK.out HR.out HSS.out hlap).1
              have E2 := Lib.hid (add_lap HOK.out HR.out HSS.out hlap).2
              clear hlap
              go_wp2_with (go_at_call 25; refine (CP.out _ HB3.out).mono ?_)
              rintro e wc ⟨vc, rfl, hoc, hbc⟩
              have HOC := Lib.hid (hoc.mono HB3.out.size)
              have HBC := Lib.hid (bthen HB3.out hbc)
              clear hoc hbc
              go_wp2
              go_ret2
              rw [E2.out]
              exact ⟨_, rfl, by rw [E1.out]; exact HOC.out, HBC.out⟩
            · have HLP : Hid (lapR s y = false) := by show _ = _; unfold lapR; rw [decide_eq_false (p := s.first < endP y) (by show ¬ _ < y.first + y.pages; exact ho2), Bool.and_false]
              cases hp : (stK s l k).2
              · have hg : ¬ s.first < y.first := by omega
                have E5 : Hid (stR s (stK s l k) y = ((stK s l k).1 ++ [y], false)) := by show _ = _; unfold stR; rw [hp, decide_eq_false hg]; rfl
                clear hp
                have HVZ := HVY
                clear k0 k1 k2 k3 k4 k5 k6 k7
                obtain ⟨k0, k1, k2, k3, k4, k5, k6, k7⟩ := HV.out
                simp only at k0 k1 k2 k3 k4 k5 k6 k7
                obtain ⟨j0, j1, j2, j3, j4, j5, j6, j7⟩ := HVZ.out
                simp only at j0 j1 j2 j3 j4 j5 j6 j7
                go_wp2_with (go_at_call 31; refine (CY.out _ HB3.out).mono ?_)
                rintro e w2 ⟨x, rfl, hx, hb2⟩
                obtain ⟨us, hO3, hlen3, hX3, hsz3, hgo⟩ := acc_put HA3.out hb2 hx
                have HO3 := Lib.hid hO3
                have HL3 := Lib.hid hlen3
                have HX3 := Lib.hid hX3
                have HS3 := Lib.hid hsz3
                have HGO := Lib.hid hgo
                clear hO3 hlen3 hX3 hsz3 hgo hx hb2
                unfold SpanV.v
                go_wp2_with (at_builtin; refine wpl_appS rfl (.tmp 58) (.tmp 61) rfl (w.heap.size + 1) _ us [x] rfl HO3.out (some ⟨w2.heap.size, 0, none⟩) 1 rfl HX3.out ?h1 HS3.out ?_)
                case h1 =>
                  have h2 := HL3.out
                  have h3 := HLK.out
                  have h4 := HLEN.out
                  simp only [List.length_singleton]
                  omega
                intro v' w4 ho hg
                obtain ⟨hA4, hV4⟩ := HGO.out v' w4 ho hg
                have HA4 := Lib.hid hA4
                have HB4 := Lib.hid hA4.2.1
                have HV4 := Lib.hid hV4
                clear ho hg HGO HO3 HL3 HX3 HS3 hA4 hV4
                have HV5 : Hid (VarS w4 w.heap.size ⟨s.first, s.pages, z, ⟨n, A1, m1, ca⟩, ⟨n', A2, m', cb⟩, sw⟩) := HV4.out _ _ HV3.out (fun g hg => (HNB.out g hg).2)
                clear j0 j1 j2 j3 j4 j5 j6 j7
                go_wp2
                go_roundw
                case rel => exact ⟨k + 1, by omega, by go_num, (by rw [HSUC.out, E5.out]), (by rw [HSUC.out, E5.out]; exact HA4.out), HV5.out, no_next HSS.out HLP.out HNO.out⟩
                case measure => simp [intOf]; omega
              · have E5 : Hid (stR s (stK s l k) y = ((stK s l k).1 ++ [y], true)) := by show _ = _; unfold stR; rw [hp]; rfl
                clear hp
                have HVZ := HVY
                obtain ⟨j0, j1, j2, j3, j4, j5, j6, j7⟩ := HVZ.out
                simp only at j0 j1 j2 j3 j4 j5 j6 j7
                go_wp2_with (go_at_call 31; refine (CY.out _ HB3.out).mono ?_)
                rintro e w2 ⟨x, rfl, hx, hb2⟩
                obtain ⟨us, hO3, hlen3, hX3, hsz3, hgo⟩ := acc_put HA3.out hb2 hx
                have HO3 := Lib.hid hO3
                have HL3 := Lib.hid hlen3
                have HX3 := Lib.hid hX3
                have HS3 := Lib.hid hsz3
                have HGO := Lib.hid hgo
                clear hO3 hlen3 hX3 hsz3 hgo hx hb2
                unfold SpanV.v
                go_wp2_with (at_builtin; refine wpl_appS rfl (.tmp 58) (.tmp 61) rfl (w.heap.size + 1) _ us [x] rfl HO3.out (some ⟨w2.heap.size, 0, none⟩) 1 rfl HX3.out ?h1 HS3.out ?_)
                case h1 =>
                  have h2 := HL3.out
                  have h3 := HLK.out
                  have h4 := HLEN.out
                  simp only [List.length_singleton]
                  omega
                intro v' w4 ho hg
                obtain ⟨hA4, hV4⟩ := HGO.out v' w4 ho hg
                have HA4 := Lib.hid hA4
                have HB4 := Lib.hid hA4.2.1
                have HV4 := Lib.hid hV4
                clear ho hg HGO HO3 HL3 HX3 HS3 hA4 hV4
                have HV5 : Hid (VarS w4 w.heap.size ⟨s.first, s.pages, z, ⟨n, A1, m1, ca⟩, ⟨n', A2, m', cb⟩, sw⟩) := HV4.out _ _ HV3.out (fun g hg => (HNB.out g hg).2)
                clear j0 j1 j2 j3 j4 j5 j6 j7
                go_wp2
                go_roundw
                case rel => exact ⟨k + 1, by omega, by go_num, (by rw [HSUC.out, E5.out]), (by rw [HSUC.out, E5.out]; exact HA4.out), HV5.out, no_next HSS.out HLP.out HNO.out⟩
                case measure => simp [intOf]; omega
          · have HLP : Hid (lapR s y = false) := by show _ = _; unfold lapR; rw [decide_eq_false (p := y.first < endP s) (by show ¬ _ < s.first + s.pages; exact ho1)]; rfl
            cases hp : (stK s l k).2
            · have hg : s.first < y.first := by omega
              have E5 : Hid (stR s (stK s l k) y = ((stK s l k).1 ++ [s] ++ [y], true)) := by show _ = _; unfold stR; rw [hp, decide_eq_true hg]; rfl
              clear hp
              go_wp2_with (go_at_call 31; refine (CN.out _ HB3.out).mono ?_)
              rintro e w2 ⟨x, rfl, hx, hb2⟩
              obtain ⟨us, hO3, hlen3, hX3, hsz3, hgo⟩ := acc_put HA3.out hb2 hx
              have HO3 := Lib.hid hO3
              have HL3 := Lib.hid hlen3
              have HX3 := Lib.hid hX3
              have HS3 := Lib.hid hsz3
              have HGO := Lib.hid hgo
              clear hO3 hlen3 hX3 hsz3 hgo hx hb2
              unfold SpanV.v
              go_wp2_with (at_builtin; refine wpl_appS rfl (.tmp 53) (.tmp 56) rfl (w.heap.size + 1) _ us [x] rfl HO3.out (some ⟨w2.heap.size, 0, none⟩) 1 rfl HX3.out ?h1 HS3.out ?_)
              case h1 =>
                have h2 := HL3.out
                have h3 := HLK.out
                have h4 := HLEN.out
                simp only [List.length_singleton]
                omega
              intro v' w4 ho hg
              obtain ⟨hA4, hV4⟩ := HGO.out v' w4 ho hg
              have HA4 := Lib.hid hA4
              have HB4 := Lib.hid hA4.2.1
              have HV4 := Lib.hid hV4
              clear ho hg HGO HO3 HL3 HX3 HS3 hA4 hV4
              have HV5 := Lib.hid (HV4.out _ _ HV3.out (fun g hg => (HNB.out g hg).2))
              have HVZ := Lib.hid (HV4.out _ _ HVY.out (fun g hg => (HNB.out g hg).1))
              have HB5 := HB4
              have HA5 := HA4
              clear HV4 HB4 HA4
              clear k0 k1 k2 k3 k4 k5 k6 k7
              obtain ⟨w5, hw5⟩ : ∃ w5 : World, w5 = w4 := ⟨w4, rfl⟩
              subst hw5
              obtain ⟨v5, hv5⟩ : ∃ v5 : Value, v5 = v' := ⟨v', rfl⟩
              subst hv5
              obtain ⟨j0, j1, j2, j3, j4, j5, j6, j7⟩ := HVZ.out
              simp only at j0 j1 j2 j3 j4 j5 j6 j7
              go_wp2_with (go_at_call 31; refine (CY.out _ HB5.out).mono ?_)
              rintro e w2 ⟨x, rfl, hx, hb2⟩
              obtain ⟨us, hO3, hlen3, hX3, hsz3, hgo⟩ := acc_put HA5.out hb2 hx
              have HO3 := Lib.hid hO3
              have HL3 := Lib.hid hlen3
              have HX3 := Lib.hid hX3
              have HS3 := Lib.hid hsz3
              have HGO := Lib.hid hgo
              clear hO3 hlen3 hX3 hsz3 hgo hx hb2
              unfold SpanV.v
              go_wp2_with (at_builtin; refine wpl_appS rfl (.tmp 58) (.tmp 61) rfl (w.heap.size + 1) _ us [x] rfl HO3.out (some ⟨w2.heap.size, 0, none⟩) 1 rfl HX3.out ?h1 HS3.out ?_)
              case h1 =>
                have h2 := HL3.out
                have h3 := (show ((stK s l k).1 ++ [s]).length ≤ k + 2 from by rw [List.length_append]; have := HLK.out; simp; omega)
                have h4 := HLEN.out
                simp only [List.length_singleton]
                omega
              intro v' w4 ho hg
              obtain ⟨hA4, hV4⟩ := HGO.out v' w4 ho hg
              have HA4 := Lib.hid hA4
              have HB4 := Lib.hid hA4.2.1
              have HV4 := Lib.hid hV4
              clear ho hg HGO HO3 HL3 HX3 HS3 hA4 hV4
              have HV5 : Hid (VarS w4 w.heap.size ⟨s.first, s.pages, z, ⟨n, A1, m1, ca⟩, ⟨n', A2, m', cb⟩, sw⟩) := HV4.out _ _ HV5.out (fun g hg => by obtain ⟨us', ho, _⟩ := HA5.out.1; have := ho.lt g hg; omega)
              clear j0 j1 j2 j3 j4 j5 j6 j7
              go_wp2
              go_roundw
              case rel => exact ⟨k + 1, by omega, by go_num, (by rw [HSUC.out, E5.out]), (by rw [HSUC.out, E5.out]; exact HA4.out), HV5.out, no_next HSS.out HLP.out HNO.out⟩
              case measure => simp [intOf]; omega
            · have E5 : Hid (stR s (stK s l k) y = ((stK s l k).1 ++ [y], true)) := by show _ = _; unfold stR; rw [hp]; rfl
              clear hp
              have HVZ := HVY
              obtain ⟨j0, j1, j2, j3, j4, j5, j6, j7⟩ := HVZ.out
              simp only at j0 j1 j2 j3 j4 j5 j6 j7
              go_wp2_with (go_at_call 31; refine (CY.out _ HB3.out).mono ?_)
              rintro e w2 ⟨x, rfl, hx, hb2⟩
              obtain ⟨us, hO3, hlen3, hX3, hsz3, hgo⟩ := acc_put HA3.out hb2 hx
              have HO3 := Lib.hid hO3
              have HL3 := Lib.hid hlen3
              have HX3 := Lib.hid hX3
              have HS3 := Lib.hid hsz3
              have HGO := Lib.hid hgo
              clear hO3 hlen3 hX3 hsz3 hgo hx hb2
              unfold SpanV.v
              go_wp2_with (at_builtin; refine wpl_appS rfl (.tmp 58) (.tmp 61) rfl (w.heap.size + 1) _ us [x] rfl HO3.out (some ⟨w2.heap.size, 0, none⟩) 1 rfl HX3.out ?h1 HS3.out ?_)
              case h1 =>
                have h2 := HL3.out
                have h3 := HLK.out
                have h4 := HLEN.out
                simp only [List.length_singleton]
                omega
              intro v' w4 ho hg
              obtain ⟨hA4, hV4⟩ := HGO.out v' w4 ho hg
              have HA4 := Lib.hid hA4
              have HB4 := Lib.hid hA4.2.1
              have HV4 := Lib.hid hV4
              clear ho hg HGO HO3 HL3 HX3 HS3 hA4 hV4
              have HV5 : Hid (VarS w4 w.heap.size ⟨s.first, s.pages, z, ⟨n, A1, m1, ca⟩, ⟨n', A2, m', cb⟩, sw⟩) := HV4.out _ _ HV3.out (fun g hg => (HNB.out g hg).2)
              clear j0 j1 j2 j3 j4 j5 j6 j7
              go_wp2
              go_roundw
              case rel => exact ⟨k + 1, by omega, by go_num, (by rw [HSUC.out, E5.out]), (by rw [HSUC.out, E5.out]; exact HA4.out), HV5.out, no_next HSS.out HLP.out HNO.out⟩
              case measure => simp [intOf]; omega
        · obtain rfl : k = l.length := by omega
          have HNL := Lib.hid (add_nolap HOK.out HR.out HNO.out)
          have HIN := Lib.hid (st_ins HOK.out HR.out HNO.out)
          clear HNO
          by_cases h256 : l.length = 256
          · have E1 : Hid (addL l s = l) := by show _ = _; rw [HNL.out.1, if_pos h256]
            have E2 : Hid (addE l s = 6) := by show _ = _; rw [HNL.out.2, if_pos h256]
            have e3 : ((l.length : Nat) : Int) = 256 := by omega
            have e4 : (l.length == 256) = true := by simpa using h256
            clear h256
            go_wp2_with (go_at_call 25; refine (CP.out _ HBr.out).mono ?_)
            rintro e wc ⟨vc, rfl, hoc, hbc⟩
            have HOC := Lib.hid (hoc.mono HBr.out.size)
            have HBC := Lib.hid (bthen HBr.out hbc)
            clear hoc hbc
            go_wp2
            go_ret2
            rw [E2.out]
            exact ⟨_, rfl, by rw [E1.out]; exact HOC.out, HBC.out⟩
          · have E1 : Hid (addL l s = insB l (posF l s) s) := by show _ = _; rw [HNL.out.1, if_neg h256]
            have E2 : Hid (addE l s = 0) := by show _ = _; rw [HNL.out.2, if_neg h256]
            have e3 : (l.length == 256) = false := by simpa using h256
            have e4 : (((l.length : Nat) : Int) == 256) = false := by rw [beq_eq_false_iff_ne]; omega
            clear h256
            cases hp : (stK s l l.length).2
            · have E3 := Lib.hid (HIN.out.2 hp)
              clear hp HIN HNL
              obtain ⟨k0, k1, k2, k3, k4, k5, k6, k7⟩ := HV.out
              simp only at k0 k1 k2 k3 k4 k5 k6 k7
              go_wp2_with (go_at_call 31; refine (CN.out _ HBr.out).mono ?_)
              rintro e w2 ⟨x, rfl, hx, hb2⟩
              obtain ⟨us, hO3, hlen3, hX3, hsz3, hgo⟩ := acc_put HA.out hb2 hx
              have HO3 := Lib.hid hO3
              have HL3 := Lib.hid hlen3
              have HX3 := Lib.hid hX3
              have HS3 := Lib.hid hsz3
              have HGO := Lib.hid hgo
              clear hO3 hlen3 hX3 hsz3 hgo hx hb2
              unfold SpanV.v
              go_wp2_with (at_builtin; refine wpl_appS rfl (.tmp 71) (.tmp 74) rfl (w.heap.size + 1) _ us [x] rfl HO3.out (some ⟨w2.heap.size, 0, none⟩) 1 rfl HX3.out ?h1 HS3.out ?_)
              case h1 =>
                have h2 := HL3.out
                have h3 := HLK.out
                have h4 := HLEN.out
                simp only [List.length_singleton]
                omega
              intro v' w4 ho hg
              obtain ⟨hA4, hV4⟩ := HGO.out v' w4 ho hg
              have HA4 := Lib.hid hA4
              have HB4 := Lib.hid hA4.2.1
              have HV4 := Lib.hid hV4
              clear ho hg HGO HO3 HL3 HX3 HS3 hA4 hV4
              have HOL : Hid (OwL w4 w.heap.size v' (insB l (posF l s) s)) := by
                show OwL _ _ _ _
                rw [← E3.out]
                exact HA4.out.1.mono (by omega)
              go_wp2
              go_ret2
              rw [E2.out]
              exact ⟨_, rfl, by rw [E1.out]; exact HOL.out, HB4.out⟩
            · have E3 := Lib.hid (HIN.out.1 hp)
              clear hp HIN HNL
              have HOL : Hid (OwL wr w.heap.size u6 (insB l (posF l s) s)) := by
                show OwL _ _ _ _
                rw [← E3.out]
                exact HA.out.1.mono (by omega)
              go_wp2
              go_ret2
              rw [E2.out]
              exact ⟨_, rfl, by rw [E1.out]; exact HOL.out, HBr.out⟩
    · have hr' : rightP s = false := by simpa using hr
      have E1 : Hid (addL l s = []) := by show _ = _; unfold addL; rw [if_neg (fun h => hr h.2)]
      have E2 : Hid (addE l s = 2) := by show _ = _; unfold addE; rw [if_neg (fun h => hr h.2)]
      rw [hr'] at CR
      clear hok hr hr' CN CP
      go_enter Tryd.func27, Tryd.ntmps27
      go_wp2_with (go_at_call 20; refine (CC.out _ HB0.out).mono ?_)
      rintro e w1 ⟨rfl, hb1⟩
      have HB1 := Lib.hid (bthen HB0.out hb1)
      have HV1 := Lib.hid (HV0.out.below hb1)
      clear hb1
      obtain ⟨k0, k1, k2, k3, k4, k5, k6, k7⟩ := HV1.out
      simp only at k0 k1 k2 k3 k4 k5 k6 k7
      go_wp2_with (go_at_call 41; refine (CR.out _ HB1.out).mono ?_)
      rintro e w2 ⟨rfl, hb2⟩
      have HB2 := Lib.hid (bthen HB1.out hb2)
      clear hb2
      go_wp2
      go_ret2
      rw [E2.out]
      exact ⟨_, rfl, by rw [E1.out]; exact (OwL.nil_ _ _), HB2.out⟩
  · have E1 : Hid (addL l s = []) := by show _ = _; unfold addL; rw [if_neg (fun h => hok h.1)]
    have E2 : Hid (addE l s = 2) := by show _ = _; unfold addE; rw [if_neg (fun h => hok h.1)]
    rw [show chkE l = 2 from by simp [chkE, hok]] at CC
    clear hok CN CP CR
    go_enter Tryd.func27, Tryd.ntmps27
    go_wp2_with (go_at_call 20; refine (CC.out _ HB0.out).mono ?_)
    rintro e w1 ⟨rfl, hb1⟩
    have HB1 := Lib.hid (bthen HB0.out hb1)
    clear hb1
    go_wp2
    go_ret2
    rw [E2.out]
    exact ⟨_, rfl, by rw [E1.out]; exact (OwL.nil_ _ _), HB1.out⟩
end Go.Proofs.YtchbbldanmmpjaaDoor
