/- The walk of slices.Insert at specials: one more, in place or in a new row. -/
import Derived.Test.YtchbbldanmmpjaaDoorT4
namespace Go.Proofs.YtchbbldanmmpjaaDoor
open Go.RowKit
set_option linter.unusedVariables false
set_option linter.unusedSimpArgs false

theorem ins_room {X D xc ys : List Value} {k d : Nat} (h1 : X.length = k) (h2 : D.length = d) (h3 : xc.length = 8) (h4 : ys.length = 8) :
    List.take k (List.take (k + 8) (X ++ D ++ ys) ++ D ++ List.drop (k + 8 + d) (X ++ D ++ ys)) ++ xc ++ List.drop (k + 8) (List.take (k + 8) (X ++ D ++ ys) ++ D ++ List.drop (k + 8 + d) (X ++ D ++ ys)) = X ++ xc ++ D := by
  have e1 : List.drop (k + 8 + d) (X ++ D ++ ys) = [] := List.drop_eq_nil_of_le (by simp only [List.length_append]; omega)
  have hlen : (List.take (k + 8) (X ++ D ++ ys)).length = k + 8 := by rw [List.length_take]; simp only [List.length_append]; omega
  rw [e1, List.append_nil]
  have e2 : List.take k (List.take (k + 8) (X ++ D ++ ys) ++ D) = X := by
    rw [List.take_append_of_le_length (by omega), List.take_take, Nat.min_eq_left (by omega), List.append_assoc, List.take_append_of_le_length (by omega), List.take_of_length_le (by omega)]
  have e3 : List.drop (k + 8) (List.take (k + 8) (X ++ D ++ ys) ++ D) = D := by
    rw [List.drop_append_of_le_length (by omega), List.drop_eq_nil_of_le (by omega), List.nil_append]
  rw [e2, e3]
theorem ins_grow {X D xc Z : List Value} {k d : Nat} (h1 : X.length = k) (h2 : D.length = d) (h3 : xc.length = 8) (h4 : Z.length = d + 8) :
    List.take (k + 8) (List.take k (X ++ Z) ++ xc ++ List.drop (k + 8) (X ++ Z)) ++ D ++ List.drop (k + 8 + d) (List.take k (X ++ Z) ++ xc ++ List.drop (k + 8) (X ++ Z)) = X ++ xc ++ D := by
  have e1 : List.take k (X ++ Z) = X := by rw [List.take_append_of_le_length (by omega), List.take_of_length_le (by omega)]
  rw [e1]
  have e2 : List.take (k + 8) (X ++ xc ++ List.drop (k + 8) (X ++ Z)) = X ++ xc := by
    rw [List.take_append_of_le_length (by rw [List.length_append]; omega), List.take_of_length_le (by rw [List.length_append]; omega)]
  have e3 : List.drop (k + 8 + d) (X ++ xc ++ List.drop (k + 8) (X ++ Z)) = [] := List.drop_eq_nil_of_le (by simp only [List.length_append, List.length_drop]; omega)
  rw [e2, e3, List.append_nil]

theorem run_overlaps73 (w : World) (vb g lb cb k cap n : Nat) (x : SpanV) (xs : List Value) (base : Nat) (hx : w.heap[vb]? = some (.cells x.cs.toArray 26 (0, 0))) (hne : vb ≠ g)
    (ho : w.ownsRow base 26 8 (.slice (some ⟨g, 0, none⟩) n cap) n xs) (hcap : 0 < cap) :
    (callFunc 73 #[.slice (some ⟨vb, 0, none⟩) 1 1, .slice (some ⟨g, k, none⟩) lb cb]).run Tryd.prog w = .ok (.value (.bool false)) w := by
  obtain ⟨i26, hi, _, hs, _⟩ := info_parts info26
  have hsz : ∀ w, (Go.sizeOf 26).run Tryd.prog w = .ok 8 w := fun w => by simp [Go.sizeOf, typeInfo, hi, hs]
  rw [run_callFunc_extern Tryd.func73 (by kernel_rfl) (by kernel_rfl) (by kernel_rfl) (e := Extern.SlicesOverlaps.overlaps #[27, 27] #[4]) (by kernel_rfl),
    Lib.run_overlaps_apart w 27 4 26 Tryd.underlying27 8 hsz ⟨vb, 0, none⟩ ⟨g, k, none⟩ 1 1 lb cb hne 26 26 8 (cap * 8) (by simp [World.shape?, hx, SpanV.cs]) (own_shape? ho) (by omega) (by simp [World.frozen?, hx]) (by simp [World.frozen?, hx])]
  rfl

def insP (l : List SpanV) (i : Nat) (x : SpanV) : List SpanV := l.take i ++ x :: l.drop i
theorem fl_ins (l : List SpanV) (i : Nat) (x : SpanV) : fl (insP l i x) = (fl l).take (i * 8) ++ x.cs ++ (fl l).drop (i * 8) := by
  unfold insP
  rw [fl_append]
  have : fl (x :: l.drop i) = x.cs ++ fl (l.drop i) := rfl
  rw [this, ← List.append_assoc]
  unfold fl
  rw [flat_take SpanV.cs 8 SpanV.cs_len, flat_drop SpanV.cs 8 SpanV.cs_len]
theorem insP_len (l : List SpanV) (i : Nat) (x : SpanV) (hi : i ≤ l.length) : (insP l i x).length = l.length + 1 := by
  unfold insP
  simp
  omega

set_option maxRecDepth 100000 in
set_option maxHeartbeats 8000000 in
theorem insert57_end (l : List SpanV) (v : Value) (base : Nat) (x : SpanV) (vb : Nat) (w : World) (ho : OwS w base v l) (hbase : base ≤ w.heap.size) (hlen : (l.length + 1) * 96 ≤ 140737488355328)
    (hx : RdS w (some ⟨vb, 0, none⟩) [x]) : Calls Tryd.prog 57 #[v, .int .i64 l.length, .slice (some ⟨vb, 0, none⟩) 1 1] w (RetG base v (insP l l.length x) w) := by
  have hl := ho.len
  obtain ⟨A, c, rfl, hlc, hr⟩ := ho.shape
  have HO := Lib.hid ho
  have HX := Lib.hid hx
  have E : Hid (insP l l.length x = l ++ [x]) := by show _ = _; simp [insP]
  clear ho hx hr
  go_enter Tryd.func57, Tryd.ntmps57
  go_wp2_with (at_builtin; refine wpl_appS rfl (.tmp 23) (.tmp 24) rfl base _ l [x] rfl HO.out (some ⟨vb, 0, none⟩) 1 rfl HX.out ?hb1 hbase ?_)
  case hb1 => exact hlen
  all_goals
    intro v' w' ho' hg'
    have H := Lib.hid (show OwS w' base v' (insP l l.length x) by rw [E.out]; exact ho')
    have G : Hid (w.grownBy w' (Value.slice A l.length c).ownBlock) := by show World.grownBy _ _ _; cases A <;> exact hg'
    clear ho' hg'
    go_wp2
    go_ret
    exact ⟨_, rfl, H.out, G.out⟩

set_option maxRecDepth 100000 in
set_option maxHeartbeats 8000000 in
theorem insert57_mid (l : List SpanV) (v : Value) (base i : Nat) (x : SpanV) (vb : Nat) (w : World) (ho : OwS w base v l) (hbase : base ≤ w.heap.size) (hi : i < l.length) (hlen : (l.length + 1) * 96 ≤ 140737488355328)
    (hx : w.heap[vb]? = some (.cells x.cs.toArray 26 (0, 0))) (hvb : ∀ k, v.ownBlock = some k → vb ≠ k) : Calls Tryd.prog 57 #[v, .int .i64 i, .slice (some ⟨vb, 0, none⟩) 1 1] w (RetG base v (insP l i x) w) := by
  have hl := ho.len
  rcases ho.2 with ⟨_, h0⟩ | ⟨g, c, cur, rfl, hbg, hgh, hnc, hcm, _, _⟩
  · omega
  have hvg : vb ≠ g := hvb g rfl
  have hne : ((i : Int) == (l.length : Int)) = false := by rw [beq_eq_false_iff_ne]; omega
  have hci : ¬ c = i := by omega
  have hvlt : vb < w.heap.size := (Array.getElem?_eq_some_iff.1 hx).1
  have HX := Lib.hid hx
  have HO := Lib.hid (show w.ownsRow base 26 8 (.slice (some ⟨g, 0, none⟩) l.length c) l.length (fl l) from ho)
  have HG := Lib.hid hgh
  have HV := Lib.hid hvg
  clear ho hx hgh hvb hvg
  have hDl : ((fl l).drop (i * 8)).length = (l.length - i) * 8 := by rw [List.length_drop, fl_len, ← Nat.sub_mul]
  have hXl : ((fl l).take (i * 8)).length = i * 8 := by rw [List.length_take, fl_len]; omega
  obtain ⟨D, hD⟩ : ∃ D, D = (fl l).drop (i * 8) := ⟨_, rfl⟩
  obtain ⟨X, hX⟩ : ∃ X, X = (fl l).take (i * 8) := ⟨_, rfl⟩
  have HE : Hid (fl l = X ++ D) := by show _ = _; rw [hX, hD, List.take_append_drop]
  have HD1 : Hid (∀ u ∈ D, u.oneCell' = true) := by intro u hu; rw [hD] at hu; exact fl_one l u (List.mem_of_mem_drop hu)
  rw [← hD] at hDl
  rw [← hX] at hXl
  have HDL := Lib.hid hDl
  have HXL := Lib.hid hXl
  have HFIN : Hid (X ++ x.cs ++ D = fl (insP l i x)) := by show _ = _; rw [fl_ins, hX, hD]
  have HCUT : Hid (w.ownsRow base 26 8 (.slice (some ⟨g, 0, none⟩) i c) i X) := by show World.ownsRow _ _ _ _ _ _ _; rw [hX]; exact own_cut HO.out i (by omega)
  clear hDl hXl hX hD
  have hs26 : (Tryd.prog.info? 26).map (·.size) = some 8 := by obtain ⟨i26, hi, _, hs, _⟩ := info_parts info26; rw [hi]; simp [hs]
  have HS := Lib.hid hs26
  clear hs26
  by_cases hroom : l.length + 1 ≤ c
  · have hcl : ¬ c < l.length + 1 := by omega
    have hci1 : ¬ c = i + 1 := by omega
    obtain ⟨ys, hys, hmore⟩ := own_more HO.out 1 hroom
    obtain ⟨A, hA⟩ : ∃ A, A = fl l ++ ys := ⟨_, rfl⟩
    rw [← hA] at hmore
    have HA : Hid (A = X ++ D ++ ys) := by show _ = _; rw [hA, HE.out]
    have HM := Lib.hid hmore
    have HY := Lib.hid hys
    clear hmore hys hA
    have hov := fun lb cb => run_overlaps73 w vb g lb cb ((i + 1) * 8) c _ x _ base HX.out HV.out HO.out (by omega)
    have hil : i + 1 ≤ l.length + 1 := by omega
    have hil2 : (i : Int) + 1 ≤ (l.length : Int) + 1 := by omega
    have hil3 : (i : Int) ≤ (l.length : Int) + 1 := by omega
    have hin : i ≤ l.length + 1 := by omega
    have hile : i ≤ l.length := by omega
    have q1 : IntKind.i64.wrap ((i : Int) + 1) = (i : Int) + 1 := by rw [IntKind.wrap_i64]; omega
    have q2 : (0 : Int) ≤ (i : Int) + 1 := by omega
    have q3 : ((i : Int) + 1).toNat = i + 1 := by omega
    go_enter Tryd.func57, Tryd.ntmps57
    go_wp2
    go_still_tail 8, (by kernel_rfl)
    clear q1 q2 q3
    go_wp2_with (refine wpl_copy_own rfl (.tmp 73) (.tmp 76) 27 27 rfl base 26 8 26 Tryd.underlying27 HS.out g (l.length + 1) c A HM.out.drew (some ⟨g, (i + 1) * 8, none⟩) (some ⟨g, i * 8, none⟩) _ _ _ _ rfl rfl ((i + 1) * 8) D ?a1 ?a2 ?a3 ?a4 ?_)
    case a1 => have e1 : min (l.length + 1 - i) (l.length - i) = l.length - i := by omega
               rw [HDL.out]; exact congrArg (· * 8) e1.symm
    case a2 =>
      intro _
      refine ⟨g, i * 8, ⟨rfl, rfl⟩, fun j v hv => ?_⟩
      have hj : j < D.length := (List.getElem?_eq_some_iff.1 hv).1
      rw [HDL.out] at hj
      refine (HM.out.cellAt (i * 8 + j) (by omega)).trans ?_
      rw [HA.out, List.append_assoc, List.getElem?_append_right (by rw [HXL.out]; omega), HXL.out, List.getElem?_append_left (by rw [HDL.out]; omega)]
      rw [show i * 8 + j - i * 8 = j by omega]
      exact hv
    case a3 => rw [HDL.out]; omega
    case a4 => exact HD1.out
    intro w1 ho1 hg1
    obtain ⟨A1, hA1⟩ : ∃ A1, A1 = List.take (i * 8 + 8) A ++ D ++ List.drop (i * 8 + 8 + D.length) A := ⟨_, rfl⟩
    have HO1 : Hid (w1.ownsRow base 26 8 (.slice (some ⟨g, 0, none⟩) (l.length + 1) c) (l.length + 1) A1) := by
      show World.ownsRow _ _ _ _ _ _ _
      rw [hA1, show i * 8 + 8 = (i + 1) * 8 by omega]
      simpa [List.append_assoc] using ho1
    have HA1 := Lib.hid hA1
    have HG1 : Hid (w.grownBy w1 (some g)) := gtrans (gdrew (World.grownBy.refl w (some g))) hg1
    clear ho1 hg1 hA1
    have HVX : Hid (w1.heap[vb]? = some (.cells x.cs.toArray 26 (0, 0))) := (HG1.out.block vb hvlt (by intro e; exact HV.out (by simpa using e))).trans HX.out
    go_wp2_with (refine wpl_copy_own rfl (.tmp 80) (.tmp 81) 27 27 rfl base 26 8 26 Tryd.underlying27 HS.out g (l.length + 1) c A1 HO1.out (some ⟨g, i * 8, none⟩) (some ⟨vb, 0, none⟩) _ _ _ _ rfl rfl (i * 8) x.cs ?b1 ?b2 ?b3 ?b4 ?_)
    case b1 => have e1 : min 1 (l.length + 1 - i) = 1 := by omega
               exact congrArg (· * 8) e1.symm
    case b2 =>
      intro _
      refine ⟨vb, 0, ⟨rfl, rfl⟩, fun j v hv => ?_⟩
      rw [cell_of_row w1 vb _ _ 26 (0, 0) HVX.out, Nat.zero_add]
      simpa using hv
    case b3 => show i * 8 + 8 ≤ _; omega
    case b4 => exact fun u hu => fl_one [x] u (by simpa [fl] using hu)
    intro w3 ho3 hg3
    have HF : Hid (OwS w3 base (.slice (some ⟨g, 0, none⟩) (l.length + 1) c) (insP l i x)) := by
      show World.ownsRow _ _ _ _ _ _ _
      rw [insP_len l i x (by omega), ← HFIN.out, ← ins_room (ys := ys) HXL.out rfl rfl HY.out, ← HA.out, ← HA1.out]
      simpa [List.append_assoc, SpanV.cs_len] using ho3
    have HG3 : Hid (w.grownBy w3 (some g)) := gtrans HG1.out hg3
    clear ho3 hg3
    go_wp2
    go_ret
    exact ⟨_, rfl, HF.out, HG3.out⟩
  · obtain ⟨m, hm⟩ : ∃ m : Nat, m = l.length + 1 - i := ⟨_, rfl⟩
    have hme : (l.length : Int) + 1 - (i : Int) = (m : Int) := by omega
    obtain ⟨cap', w2, hrun, hown2, hb2⟩ := run_append_zeros_grow (P := Tryd.prog) 27 3 27 _ 96 Tryd.underlying27 Tryd.underlying3 info26 rfl (by omega) (by omega) HCUT.out .i64 m (by omega) (by omega) (by omega) hbase
    have HR := Lib.hid hrun
    have HM := Lib.hid hm
    have hmp : 0 < m := by omega
    have hcap : i + m ≤ cap' := by obtain ⟨_, _, e, h, _⟩ := own_shape hown2; simp only [Value.slice.injEq] at e; omega
    obtain ⟨Z, hZ⟩ : ∃ Z, Z = (Builtin.zeroCells (Value.agg #[.int .i64 0, .int .i64 0, .int .i64 0, .int .i64 0, .slice none 0 0, .int .i64 0, .slice none 0 0, .bool false]).cells m).toList := ⟨_, rfl⟩
    have hZl : Z.length = m * 8 := by rw [hZ, Array.length_toList, size_zeroCells]; rfl
    rw [← hZ] at hown2
    obtain ⟨B, hB⟩ : ∃ B, B = X ++ Z := ⟨_, rfl⟩
    rw [← hB] at hown2
    have H2 := Lib.hid hown2
    have HB := Lib.hid hB
    have HZ := Lib.hid hZl
    have hc1 : ¬ cap' = i := by omega
    have hc2 : ¬ cap' = i + 1 := by omega
    have hgw : g < w.heap.size := (Array.getElem?_eq_some_iff.1 HG.out).1
    have HVR : Hid (w2.heap[vb]? = some (.cells x.cs.toArray 26 (0, 0))) := (hb2.block vb hvlt).trans HX.out
    have HGR : Hid (w2.ownsRow base 26 8 (.slice (some ⟨g, 0, none⟩) l.length c) l.length (X ++ D)) := by
      show World.ownsRow _ _ _ _ _ _ _
      rw [← HE.out]
      exact own_below HO.out hb2
    clear hm hrun hown2 hB hZ hZl
    have hci1 : ¬ c = i ∧ i ≤ c := by omega
    have q1 : IntKind.i64.wrap ((i : Int) + 1) = (i : Int) + 1 := by rw [IntKind.wrap_i64]; omega
    have q2 : (0 : Int) ≤ (i : Int) + 1 := by omega
    have q3 : ((i : Int) + 1).toNat = i + 1 := by omega
    have q4 : (i : Int) + 1 ≤ (i : Int) + (m : Int) := by omega
    have q5 : i ≤ l.length := by omega
    have Q := Lib.hid (And.intro q1 (And.intro q2 (And.intro q3 q4)))
    clear q1 q2 q3 q4
    go_enter Tryd.func57, Tryd.ntmps57
    go_wp2_with (first
      | refine Lib.wpList_append_run w rfl (.tmp 34) (.tmp 39) 27 3 rfl _ _ rfl rfl _ w2 HR.out ?_
      | refine wpl_copy_own rfl (.tmp 43) (.tmp 44) 27 27 rfl base 26 8 26 Tryd.underlying27 HS.out w.heap.size (i + m) cap' B H2.out (some ⟨w.heap.size, i * 8, none⟩) (some ⟨vb, 0, none⟩) _ _ _ _ rfl rfl (i * 8) x.cs ?a1 ?a2 ?a3 ?a4 ?_)
    case a1 => have e1 : min 1 m = 1 := by omega
               exact congrArg (· * 8) e1.symm
    case a2 =>
      intro _
      refine ⟨vb, 0, ⟨rfl, rfl⟩, fun j v hv => ?_⟩
      rw [cell_of_row w2 vb _ _ 26 (0, 0) HVR.out, Nat.zero_add]
      simpa using hv
    case a3 => show i * 8 + 8 ≤ _; omega
    case a4 => exact fun u hu => fl_one [x] u (by simpa [fl] using hu)
    intro w3 ho3 hg3
    obtain ⟨B1, hB1⟩ : ∃ B1, B1 = List.take (i * 8) B ++ x.cs ++ List.drop (i * 8 + 8) B := ⟨_, rfl⟩
    have HO3 : Hid (w3.ownsRow base 26 8 (.slice (some ⟨w.heap.size, 0, none⟩) (i + m) cap') (i + m) B1) := by
      show World.ownsRow _ _ _ _ _ _ _
      rw [hB1]
      simpa [List.append_assoc, SpanV.cs_len] using ho3
    have HB1 := Lib.hid hB1
    have HG3 := Lib.hid hg3
    have HGR3 : Hid (w3.drew.ownsRow base 26 8 (.slice (some ⟨g, 0, none⟩) l.length c) l.length (X ++ D)) := (HGR.out.kept hg3 (.inr (by simp [Value.ownBlock]; omega))).drew
    clear ho3 hg3 hB1
    go_wp2
    obtain ⟨q1, q2, q3, q4⟩ := Q.out
    go_still_tail 8, (by kernel_rfl)
    clear q1 q2 q3 q4 Q
    go_wp2_with (refine wpl_copy_own rfl (.tmp 50) (.tmp 53) 27 27 rfl base 26 8 26 Tryd.underlying27 HS.out w.heap.size (i + m) cap' B1 HO3.out.drew (some ⟨w.heap.size, (i + 1) * 8, none⟩) (some ⟨g, i * 8, none⟩) _ _ _ _ rfl rfl ((i + 1) * 8) D ?b1 ?b2 ?b3 ?b4 ?_)
    case b1 =>
      have hm := HM.out
      have e1 : min (l.length - i) (i + m - (i + 1)) = l.length - i := by omega
      rw [HDL.out]
      exact congrArg (· * 8) e1.symm
    case b2 =>
      intro _
      refine ⟨g, i * 8, ⟨rfl, rfl⟩, fun j v hv => ?_⟩
      have hj : j < D.length := (List.getElem?_eq_some_iff.1 hv).1
      rw [HDL.out] at hj
      refine (HGR3.out.cellAt (i * 8 + j) (by omega)).trans ?_
      rw [List.getElem?_append_right (by rw [HXL.out]; omega), HXL.out]
      rw [show i * 8 + j - i * 8 = j by omega]
      exact hv
    case b3 => have hm := HM.out; rw [HDL.out]; omega
    case b4 => exact HD1.out
    intro w4 ho4 hg4
    have HF : Hid (OwS w4 base (.slice (some ⟨w.heap.size, 0, none⟩) (i + m) cap') (insP l i x)) := by
      show World.ownsRow _ _ _ _ _ _ _
      have hm := HM.out
      rw [insP_len l i x (by omega), ← HFIN.out, ← ins_grow (Z := Z) (D := D) (xc := x.cs) HXL.out rfl rfl (by rw [HZ.out, HDL.out]; omega), ← HB.out, ← HB1.out]
      rw [show l.length + 1 = i + m by omega, show i * 8 + 8 = (i + 1) * 8 by omega]
      simpa [List.append_assoc] using ho4
    have HG4 : Hid (w.grownBy w4 (some g)) := by
      have h1 : Below w.heap.size w w4 := (bgrown (bgrown hb2 HG3.out (fun k e => by simp at e; omega)).drew hg4 (fun k e => by simp at e; omega))
      exact gbelow h1 _
    clear ho4 hg4
    go_wp2
    go_ret
    exact ⟨_, rfl, HF.out, HG4.out⟩
end Go.Proofs.YtchbbldanmmpjaaDoor
