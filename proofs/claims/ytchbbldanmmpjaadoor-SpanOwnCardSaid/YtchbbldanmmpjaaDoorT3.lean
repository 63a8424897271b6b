/- The walk of span.Drop. -/
import Derived.Test.YtchbbldanmmpjaaDoorT2
namespace Go.Proofs.YtchbbldanmmpjaaDoor
open Go.RowKit
set_option linter.unusedVariables false
set_option linter.unusedSimpArgs false

theorem right_small {s : SpanB} (h : rightP s = true) : smallS s := by
  obtain ⟨hs, _, _, ha, hm, hn, hn', _⟩ := rightP_parts h
  have hb := manyP_of hs
  have h1 := okB_parts ha
  have h2 := okB_parts hm
  exact ⟨by omega, by omega⟩
theorem okL_small {l : List SpanB} (h : okL l = true) : smallL l := by
  refine ⟨by have := okL_len h; omega, fun s hs => ?_⟩
  obtain ⟨i, hi, rfl⟩ := List.getElem_of_mem hs
  exact right_small (okL_right h (List.getElem?_eq_getElem hi))
theorem AllN.filter {w : World} {base : Nat} {p : SpanV → Bool} {q : SpanB → Bool} (hpq : ∀ v s, OwN w base v s → p v = q s) : ∀ {vs : List SpanV} {l : List SpanB}, AllN w base vs l → AllN w base (vs.filter p) (l.filter q) := by
  intro vs
  induction vs with
  | nil =>
    intro l h
    have : l = [] := List.eq_nil_of_length_eq_zero h.1.symm
    subst this
    exact AllN.nil_ _ _
  | cons x r ih =>
    intro l h
    cases l with
    | nil => have := h.1; simp at this
    | cons s t =>
      have hx := h.2 0 x s rfl rfl
      have ht : AllN w base r t := ⟨by have := h.1; simpa using this, fun i y u hy hu => h.2 (i + 1) y u (by simpa using hy) (by simpa using hu)⟩
      have e := hpq x s hx
      rw [List.filter_cons, List.filter_cons, ← e]
      split
      · exact AllN.append (AllN.one hx) (ih ht)
      · exact ih ht
theorem clo60 (s : SpanV) (x : Int) (b : Nat) (w : World) (hc : w.cell? ⟨b, 0, none⟩ = some (.int .i64 x)) : Calls Tryd.prog 60 (#[s.v] ++ #[.pointer (some ⟨b, 0, none⟩)]) w (Ret (.bool (s.first == x)) w) := by
  have hbl := World.block_lt_of_cell? w _ hc
  have hbl2 : b < w.heap.size := hbl
  clear hbl
  unfold SpanV.v
  go_enter Tryd.func60, Tryd.ntmps60
  go_wp2
  go_ret
  exact ⟨rfl, balloc (Below.refl _ _) _⟩
theorem enters60 : Enters 60 := fun args w => by kernel_rfl

def RetLE (l : List SpanB) (x : Int) (w : World) (e : Ending) (w' : World) : Prop := ∃ v, e = .returned (.tuple #[v, .int .i64 x]) ∧ OwL w' w.heap.size v l ∧ Below w.heap.size w w'
def dropL (l : List SpanB) (f : Int) : List SpanB := if okL l = true then l.filter (fun s => !(s.first == f)) else []
def dropE (l : List SpanB) (f : Int) : Int := if okL l = true then (if (l.filter (fun s => !(s.first == f))).length = l.length then 3 else 0) else 2
set_option maxRecDepth 100000 in
set_option maxHeartbeats 8000000 in
theorem drop28 (A : Option Addr) (c : Nat) (vs : List SpanV) (l : List SpanB) (f : Int) (w : World) (h : RdL w A vs l) : Calls Tryd.prog 28 #[.slice A l.length c, .int .i64 f] w (RetLE (dropL l f) (dropE l f) w) := by
  have hl := h.len
  have CC : Hid (∀ W, Below w.heap.size w W → Calls Tryd.prog 19 #[.slice A l.length c] W (Ret (.int .i64 (chkE l)) W)) := fun W hW => check19 A c vs l W (h.below hW)
  have HB0 : Hid (Below w.heap.size w (w.alloc (.cells #[.int .i64 f] 3))) := balloc (Below.refl _ _) _
  have F0 : Hid ((w.alloc (.cells #[.int .i64 f] 3)).cell? ⟨w.heap.size, 0, none⟩ = some (.int .i64 f)) := by show _ = _; go_simp
  by_cases hok : okL l = true
  · rw [show chkE l = 0 from by simp [chkE, hok]] at CC
    have CO : Hid (∀ W, Below w.heap.size w W → Calls Tryd.prog 53 #[.slice A l.length c] W (RetL l W)) := fun W hW => own53 A c vs l W (h.below hW) (okL_small hok)
    have E1 : Hid (dropL l f = l.filter (fun s => !(s.first == f))) := by show _ = _; unfold dropL; rw [if_pos hok]
    have EE : Hid (dropE l f = if (l.filter (fun s => !(s.first == f))).length = l.length then 3 else 0) := by show _ = _; unfold dropE; rw [if_pos hok]
    clear h hok
    go_enter Tryd.func28, Tryd.ntmps28
    go_wp2_with (go_at_call 19; refine (CC.out _ HB0.out).mono ?_)
    rintro e w1 ⟨rfl, hb1⟩
    have HB1 := Lib.hid (bthen HB0.out hb1)
    have F1 := Lib.hid (cell_later hb1 F0.out)
    clear hb1
    go_wp2_with (go_at_call 53; refine (CO.out _ HB1.out).mono ?_)
    rintro e w2 ⟨v2, rfl, ⟨us, ho, hN⟩, hb2⟩
    obtain ⟨A2, c2, rfl, hc2, hr2⟩ := ho.shape
    have HUL := Lib.hid hN.1
    have HB2 := Lib.hid (bthen HB1.out hb2)
    have F2 := Lib.hid (cell_later hb2 F1.out)
    have HZ1 : Hid (w.heap.size < w1.heap.size) := by show _ < _; have := World.block_lt_of_cell? w1 _ F1.out; exact this
    have HSZ : Hid (w1.heap.size ≤ w2.heap.size) := hb2.size
    have C59 : Hid (Calls Tryd.prog 59 #[.slice A2 us.length c2, .func (.func 60) #[] #[.pointer (some ⟨w.heap.size, 0, none⟩)]] w2 (RetG w1.heap.size (.slice A2 us.length c2) (us.filter fun s => !(s.first == f)) w2)) :=
      delete59 us _ w1.heap.size 60 #[.pointer (some ⟨w.heap.size, 0, none⟩)] (fun s => s.first == f) w2 ho hb2.size enters60 (fun s _ w' hg => clo60 s f _ w' (gcell hg F2.out (fun e => by
        have h1 := (ho.lt _ e.symm).1
        have h2 := HZ1.out
        have h3 : w1.heap.size ≤ w.heap.size := h1
        omega)))
    have HO := Lib.hid ho
    have HN := Lib.hid hN
    clear ho hN hc2 hr2 hb2
    rw [HUL.out] at *
    go_wp2_with (go_at_call 59; refine C59.out.mono ?_)
    rintro e w3 ⟨v3, rfl, ho3, hg3⟩
    obtain ⟨A3, c3, rfl, hc3, hr3⟩ := ho3.shape
    have HB3 := Lib.hid (bgrown HB2.out hg3 (fun k hk => by have := (HO.out.lt k hk).1; have := HZ1.out; omega))
    have HN3 : Hid (AllN w3 w1.heap.size (us.filter fun s => !(s.first == f)) (l.filter fun s => !(s.first == f))) :=
      AllN.filter (fun v s h => by rw [h.first]) (HN.out.keep HO.out hg3)
    have HO3 := Lib.hid ho3
    have HL3 := Lib.hid HN3.out.1
    clear ho3 hg3 hc3 hr3
    have HOL : Hid (OwL w3 w.heap.size (.slice A3 (us.filter fun s => !(s.first == f)).length c3) (l.filter fun s => !(s.first == f))) :=
      OwL.mono ⟨_, HO3.out, HN3.out⟩ (by have := HZ1.out; omega)
    rw [HL3.out] at HOL ⊢
    by_cases hlen : (l.filter (fun s => !(s.first == f))).length = l.length
    · have E2 : Hid (dropE l f = 3) := by show _ = _; rw [EE.out, if_pos hlen]
      rw [hlen] at HOL ⊢
      clear hlen
      go_wp2
      go_ret2
      rw [E2.out]
      exact ⟨_, rfl, by rw [E1.out]; exact HOL.out, HB3.out⟩
    · have E2 : Hid (dropE l f = 0) := by show _ = _; rw [EE.out, if_neg hlen]
      have e1 : ((l.filter (fun s => !(s.first == f))).length == l.length) = false := by simpa using hlen
      have e2 : ((((l.filter (fun s => !(s.first == f))).length : Nat) : Int) == ((l.length : Nat) : Int)) = false := by rw [beq_eq_false_iff_ne]; omega
      generalize (l.filter (fun s => !(s.first == f))).length = q at *
      clear hlen
      go_wp2
      go_ret2
      rw [E2.out]
      exact ⟨_, rfl, by rw [E1.out]; exact HOL.out, HB3.out⟩
  · have E1 : Hid (dropL l f = []) := by show _ = _; unfold dropL; rw [if_neg hok]
    have E2 : Hid (dropE l f = 2) := by show _ = _; unfold dropE; rw [if_neg hok]
    rw [show chkE l = 2 from by simp [chkE, hok]] at CC
    clear h hok
    go_enter Tryd.func28, Tryd.ntmps28
    go_wp2_with (go_at_call 19; refine (CC.out _ HB0.out).mono ?_)
    rintro e w1 ⟨rfl, hb1⟩
    have HB1 := Lib.hid (bthen HB0.out hb1)
    clear hb1
    go_wp2
    go_ret2
    rw [E2.out]
    exact ⟨_, rfl, by rw [E1.out]; exact (OwL.nil_ _ _), HB1.out⟩
end Go.Proofs.YtchbbldanmmpjaaDoor
