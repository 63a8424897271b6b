/- Laws on copy into a row of the call's own; the walk of slices.Repeat. -/
import Derived.Test.YtfgeomdfgjefdaaDoorA5
import Derived.Test.YtfgeomdfgjefdaaDoorAS
import Derived.Deep.RegionHeld3
namespace Go.Proofs.YtfgeomdfgjefdaaDoor
open Go.RowKit
set_option linter.unusedVariables false
set_option linter.unusedSimpArgs false
section
variable {P : Program} {w : World} {base : Nat} {e : TypeId} {size g n cap : Nat} {xs : List Value}
/-- 'copy(d, s)', d lying in a row of the call's own: what is read of s is written there. -/
theorem run_copy_own (dT sT ty el : TypeId) (hu : P.underlying dT = some (.slice el)) (hs : (P.info? el).map (·.size) = some size)
    (h : w.ownsRow base e size (.slice (some ⟨g, 0, none⟩) n cap) n xs) (D S : Option Addr) (dl dc sl sc k : Nat) (cs : List Value) (hl : cs.length = Nat.min sl dl * size)
    (hD : 0 < Nat.min sl dl → D = some ⟨g, k, none⟩ ∧ ∃ b o, S = some ⟨b, o, none⟩ ∧ ∀ j v, cs[j]? = some v → w.cell? ⟨b, o + j, none⟩ = some v)
    (hk : k + cs.length ≤ n * size) (h1 : ∀ u ∈ cs, u.oneCell' = true) :
    ∃ w', (Builtin.copy_ #[dT, sT] ty #[.slice D dl dc, .slice S sl sc]).run P w = .ok (goInt (Nat.min sl dl)) w' ∧
      w'.ownsRow base e size (.slice (some ⟨g, 0, none⟩) n cap) n (xs.take k ++ cs ++ xs.drop (k + cs.length)) ∧ w.grownBy w' (some g) := by
  cases hq : P.info? el with
  | none => rw [hq] at hs; simp at hs
  | some i =>
    rw [hq] at hs
    simp only [Option.map_some, Option.some.injEq] at hs
    subst hs
    rcases Nat.eq_zero_or_pos (Nat.min sl dl) with h0 | hp
    · have hc : cs = [] := List.eq_nil_of_length_eq_zero (by rw [hl, h0, Nat.zero_mul])
      subst hc
      refine ⟨w, ?_, by simpa using h, World.grownBy.refl w _⟩
      have h0' : min sl dl = 0 := h0
      cases S <;> cases D <;> simp [Builtin.copy_, run_underlying hu, sizeOf, typeInfo, hq, Builtin.lenOf, Builtin.firstCells, h0', loadCells, loadCellsFrom, storeCells]
    · obtain ⟨rfl, b, o, rfl, hc⟩ := hD hp
      obtain ⟨w', h2, h3, h4⟩ := own_put (P := P) h k cs hk h1
      have hfc := run_firstCells_some (P := P) (w := w) i.size (Nat.min sl dl) ⟨b, o, none⟩ sl sc cs hl (fun j v hv => by rw [addOff]; exact hc j v hv)
      refine ⟨w', ?_, h3, h4⟩
      have e1 : Nat.min sl dl = min sl dl := rfl
      rw [e1] at hfc ⊢
      simp [Builtin.copy_, run_underlying hu, sizeOf, typeInfo, hq, Builtin.lenOf, hfc, h2]

theorem wpl_copy_own {ops : Array Oper} {rest : List Oper} {o : Oper} {a : Act} {Q : Exit → Act → World → Prop} (hgd : o.guard = none) (d s : Operand) (dT sT : TypeId)
    (ho : o.op = .call { callee := .builtin .copy, args := #[d, s], argTypes := #[dT, sT] }) (base : Nat) (e : TypeId) (size : Nat) (el : TypeId) (hu : P.underlying dT = some (.slice el)) (hs : (P.info? el).map (·.size) = some size)
    (g n cap : Nat) (xs : List Value) (h : w.ownsRow base e size (.slice (some ⟨g, 0, none⟩) n cap) n xs) (D S : Option Addr) (dl dc sl sc : Nat) (hd : a.eval d = .slice D dl dc) (hsv : a.eval s = .slice S sl sc)
    (k : Nat) (cs : List Value) (hl : cs.length = Nat.min sl dl * size)
    (hD : 0 < Nat.min sl dl → D = some ⟨g, k, none⟩ ∧ ∃ b o, S = some ⟨b, o, none⟩ ∧ ∀ j v, cs[j]? = some v → w.cell? ⟨b, o + j, none⟩ = some v)
    (hk : k + cs.length ≤ n * size) (h1 : ∀ u ∈ cs, u.oneCell' = true)
    (hK : ∀ w', w'.ownsRow base e size (.slice (some ⟨g, 0, none⟩) n cap) n (xs.take k ++ cs ++ xs.drop (k + cs.length)) → w.grownBy w' (some g) → wpList P ops Q rest (a.put o.dst (goInt (Nat.min sl dl))) w') :
    wpList P ops Q (o :: rest) a w := by
  refine wpList_plain hgd fun K hK' => ?_
  obtain ⟨w', hr, h2, h3⟩ := run_copy_own (P := P) dT sT o.type el hu hs h D S dl dc sl sc k cs hl hD hk h1
  unfold Oper.wp execOp
  simp only [ho, resolve, invoke, builtin, Sem.run_bind, Sem.run_pure, Result.andThen_ok, List.map_toArray, List.map_cons, List.map_nil, hd, hsv, hr]
  exact hK' _ _ (hK w' h2 h3)

theorem step_copy_own {ops : Array Oper} {o : Oper} {a : Act} {K : Act → World → Prop} {Q : Exit → Act → World → Prop} {E : Prop} (hgd : o.guard = none) (d s : Operand) (dT sT : TypeId)
    (ho : o.op = .call { callee := .builtin .copy, args := #[d, s], argTypes := #[dT, sT] }) (base : Nat) (e : TypeId) (size : Nat) (el : TypeId) (hu : P.underlying dT = some (.slice el)) (hs : (P.info? el).map (·.size) = some size)
    (g n cap : Nat) (xs : List Value) (h : w.ownsRow base e size (.slice (some ⟨g, 0, none⟩) n cap) n xs) (D S : Option Addr) (dl dc sl sc : Nat) (hd : a.eval d = .slice D dl dc) (hsv : a.eval s = .slice S sl sc)
    (k : Nat) (cs : List Value) (hl : cs.length = Nat.min sl dl * size)
    (hD : 0 < Nat.min sl dl → D = some ⟨g, k, none⟩ ∧ ∃ b o, S = some ⟨b, o, none⟩ ∧ ∀ j v, cs[j]? = some v → w.cell? ⟨b, o + j, none⟩ = some v)
    (hk : k + cs.length ≤ n * size) (h1 : ∀ u ∈ cs, u.oneCell' = true)
    (hK : ∀ w', w'.ownsRow base e size (.slice (some ⟨g, 0, none⟩) n cap) n (xs.take k ++ cs ++ xs.drop (k + cs.length)) → w.grownBy w' (some g) → K (a.put o.dst (goInt (Nat.min sl dl))) w') :
    if Region.wanted o (yielded ops a.tmps) = true then Oper.wp P o a w K Q else E := by
  have hw : Region.wanted o (yielded ops a.tmps) = true := by simp [Region.wanted, hgd]
  rw [if_pos hw]
  obtain ⟨w', hr, h2, h3⟩ := run_copy_own (P := P) dT sT o.type el hu hs h D S dl dc sl sc k cs hl hD hk h1
  unfold Oper.wp execOp
  simp only [ho, resolve, invoke, builtin, Sem.run_bind, Sem.run_pure, Result.andThen_ok, List.map_toArray, List.map_cons, List.map_nil, hd, hsv, hr]
  exact hK w' h2 h3
end
theorem info41p : ∃ i0, Tryd.prog.info? 41 = some i0 ∧ i0.zero = some (.agg #[.bool false, .int .i64 0, .int .u8 0, .int .i64 0, .int .i64 0]) ∧ i0.size = 5 ∧ i0.bytes = 40 := by
  obtain ⟨i0, hi, hz0, hz1, hz2⟩ := info_parts info41
  exact ⟨i0, hi, hz0, hz1, hz2⟩
theorem size41 : (Tryd.prog.info? 41).map (·.size) = some 5 := by
  obtain ⟨i0, hi, _, hz1, _⟩ := info41p
  rw [hi]
  simp [hz1]
theorem fl_rep_len (n : Nat) (e : Ev) : (fl (List.replicate n e)).length = n * 5 := by rw [fl_len, List.length_replicate]
set_option maxRecDepth 100000 in
set_option maxHeartbeats 16000000 in
theorem repeat31 (e0 : Ev) (A : Option Addr) (n : Nat) (w : World) (hr : RdS w A [e0]) (h1 : 1 ≤ n) (h2 : n ≤ 4096) : Calls Tryd.prog 31 #[.slice A 1 1, .int .i64 n] w (RetS (List.replicate n e0) w) := by
  obtain ⟨b, o, rfl, hbl, c0, c1, c2, c3, c4⟩ := hr.at_ (i := 0) rfl
  have HCS : Hid (∀ j v, (Ev.cs e0)[j]? = some v → w.cell? ⟨b, o + j, none⟩ = some v) := fun j v hv => by
    have hj : j < 5 := (List.getElem?_eq_some_iff.1 hv).1
    obtain ⟨b', o', e1, _, hc⟩ := hr.2.2 (by simp)
    injection e1 with e1
    injection e1 with e1 e2
    subst e1
    subst e2
    exact hc j v (by have := fl_get [e0] 0 j hj; simpa using this.trans (by simpa using hv))
  have HBL := Lib.hid hbl
  clear hr c0 c1 c2 c3 c4 hbl
  have q1 : ¬ (n : Int) < 0 := by omega
  have HM : Hid (Calls Tryd.prog 47 #[.int .u64 1, .int .u64 n] w (Ret (.tuple #[.int .u64 0, .int .u64 n]) w)) := by
    show Calls _ _ _ _ _
    have h := Tryd.bits_Mul 1 n (by omega) (by omega) w
    have e1 : ((1 * n / 18446744073709551616 : Nat) : Int) = 0 := by omega
    have e2 : ((1 * n % 18446744073709551616 : Nat) : Int) = (n : Int) := by omega
    rw [e1, e2] at h
    exact h.mono (fun _ _ ⟨h1, h2⟩ => ⟨h1, by rw [h2]; exact Below.refl _ _⟩)
  have Q6 : Hid (40 * n ≤ 281474976710656) := by show _ ≤ _; omega
  have Q7 : Hid (n ≤ maxLen) := by show _ ≤ _; unfold maxLen; omega
  obtain ⟨i0, hi, hz0, hz1, hz2⟩ := info41p
  have HZ0 := Lib.hid hz0
  have HZ1 := Lib.hid hz1
  have HZ2 := Lib.hid hz2
  have HI := Lib.hid hi
  have HSZ := Lib.hid size41
  clear hz0 hz1 hz2 hi
  have q3 : ¬ (9223372036854775807 : Int) < (n : Int) := by omega
  go_enter Tryd.func31, Tryd.ntmps31
  go_wp2_with (go_at_call 47; refine HM.out.mono ?_)
  rintro e w1 ⟨rfl, hb1⟩
  have HB1 := Lib.hid hb1
  clear HM hb1
  go_wp2_with (at_make; refine wpList_make_full _ rfl (.tmp 29) (.tmp 29) 22 rfl w.heap.size 41 i0 (.agg #[.bool false, .int .i64 0, .int .u8 0, .int .i64 0, .int .i64 0]) 5 Tryd.underlying22 HI.out HZ0.out HZ1.out .i64 .i64 _ _ n rfl rfl ?c1 ?c2 ?c3 ?c4 ?c5 ?_)
  try (case c1 => omega)
  try (case c2 => omega)
  case c3 => rw [HZ2.out]; exact Q6.out
  case c4 => exact Q7.out
  case c5 => exact HB1.out.size
  intro w2 ho hg
  have HB2 := Lib.hid (bgrown HB1.out hg (by simp))
  generalize (madeCells _ (n * 5)).toList = xs0 at ho
  have HO2 := Lib.hid ho
  have HGB := Lib.hid HB1.out.size
  have HCS2 : Hid (∀ j v, (Ev.cs e0)[j]? = some v → w2.cell? ⟨b, o + j, none⟩ = some v) := fun j v hv => cell_later HB2.out (HCS.out j v hv)
  generalize w1.heap.size = g at *
  clear ho hg HB1 HCS
  go_wp2_with (refine wpl_copy_own rfl (.tmp 31) (.tmp 32) 22 22 rfl w.heap.size 41 5 41 Tryd.underlying22 HSZ.out g n n xs0 HO2.out (some ⟨g, 0, none⟩) (some ⟨b, o, none⟩) _ _ _ _ rfl rfl 0 e0.cs ?a1 ?a2 ?a3 ?a4 ?_)
  case a1 => show _ = min 1 n * 5; rw [Ev.cs_len]; omega
  case a2 => exact ⟨b, o, ⟨rfl, rfl⟩, HCS2.out⟩
  case a3 => rw [Ev.cs_len]; omega
  case a4 => intro u hu; exact fl_one [e0] u (by simpa [fl] using hu)
  intro w3 ho3 hg3
  have HB3 := Lib.hid (HB2.out.grown hg3 (Nat.le_trans HGB.out (by have := (HO2.out.lt g rfl).2; have := HB2.out.size; omega)) (fun k hk => by injection hk with hk; rw [← hk]; exact HGB.out))
  have HR3 : Hid (∃ xs, w3.ownsRow w.heap.size 41 5 (.slice (some ⟨g, 0, none⟩) n n) n xs ∧ xs.take (1 * 5) = fl (List.replicate 1 e0)) := ⟨_, ho3, by rw [List.take_append_of_le_length (by rw [Ev.cs_len]; omega), List.take_of_length_le (by rw [Ev.cs_len]; omega)]; simp [fl]⟩
  have hmin1 : Nat.min 1 n = 1 := by show min 1 n = 1; omega
  clear ho3 hg3 HO2 HCS2 HB2
  go_wp2
  go_loopw [8] (fun i wr => ∃ m : Nat, 1 ≤ m ∧ m ≤ n ∧ i = .int .i64 m ∧ Hid (Below w.heap.size w wr) ∧ Hid (∃ xs, wr.ownsRow w.heap.size 41 5 (.slice (some ⟨g, 0, none⟩) n n) n xs ∧ xs.take (m * 5) = fl (List.replicate m e0))) (fun i _ => n - (intOf i).toNat)
  case atStart => exact ⟨1, Nat.le_refl _, h1, rfl, HB3.out, HR3.out⟩
  case round =>
    obtain ⟨m, hm1, hmn, rfl, HB, HX⟩ := hrel
    by_cases hlt : m < n
    · obtain ⟨xs, ho, ht⟩ := HX.out
      have HO := Lib.hid ho
      have HT := Lib.hid ht
      have HOD : Hid (wr.drew.ownsRow w.heap.size 41 5 (.slice (some ⟨g, 0, none⟩) n n) n xs) := ho.drew
      have HXL : Hid (xs.length = n * 5) := ho.1
      have HGL := Lib.hid (ho.lt g rfl).2
      have hlt1 : (m : Int) < (n : Int) := by omega
      have hmn1 : (m : Int) ≤ (n : Int) := by omega
      have hm0 : (0 : Int) ≤ (m : Int) := by omega
      have hmc : ¬ n = m := by omega
      have hm00 : ¬ m = 0 := by omega
      obtain ⟨d, hd⟩ : ∃ d, d = min m (n - m) := ⟨_, rfl⟩
      have hd1 : 1 ≤ d ∧ d ≤ m ∧ m + d ≤ n := by omega
      have HD := Lib.hid hd
      clear ho ht hd
      have hdm : Nat.min m (n - m) = d := HD.out.symm
      have HL1 : Hid ((fl (List.replicate d e0)).length = Nat.min m (n - m) * 5) := by show _ = _; rw [fl_rep_len]; exact congrArg (· * 5) HD.out
      have HL2 : Hid (0 < Nat.min m (n - m) → (some ⟨g, m * 5, none⟩ : Option Addr) = some ⟨g, m * 5, none⟩ ∧ ∃ b o, (some ⟨g, 0, none⟩ : Option Addr) = some ⟨b, o, none⟩ ∧ ∀ j v, (fl (List.replicate d e0))[j]? = some v → wr.drew.cell? ⟨b, o + j, none⟩ = some v) := by
        refine fun _ => ⟨rfl, g, 0, rfl, fun j v hv => ?_⟩
        have hj : j < d * 5 := by rw [← fl_rep_len d e0]; exact (List.getElem?_eq_some_iff.1 hv).1
        have hx : xs[j]? = some v := by
          have h2 : (xs.take (m * 5))[j]? = some v := by
            rw [HT.out]
            have : fl (List.replicate m e0) = fl (List.replicate d e0) ++ fl (List.replicate (m - d) e0) := by rw [← fl_append, List.replicate_append_replicate, show d + (m - d) = m from by omega]
            rw [this, List.getElem?_append_left (by rw [fl_rep_len]; exact hj)]
            exact hv
          rwa [List.getElem?_take_of_lt (by omega)] at h2
        have := (own_cell HOD.out hx).1
        rwa [Nat.zero_add]
      have HL3 : Hid (m * 5 + (fl (List.replicate d e0)).length ≤ n * 5) := by show _ ≤ _; rw [fl_rep_len]; omega
      have HL4 : Hid (∀ u ∈ fl (List.replicate d e0), u.oneCell' = true) := fl_one _
      have hwm : IntKind.i64.wrap ((m : Int) + (d : Int)) = (m : Int) + (d : Int) := wrap_in (by omega)
      go_wp2
      refine wp_region_held_drew (S := fun _ => True) (by kernel_rfl) trivial (fun hHeld => ?_)
      refine wpAnyH_take (i := 0) (oi := _) (v := ?_) rfl (by kernel_rfl) (by kernel_rfl) (by kernel_rfl) (fun _ _ _ h => h) (Or.inl ⟨by rfl, ?_⟩) (by assumption) ?_
      rotate_left
      · intro w hSw
        go_simp
        all_goals with_reducible rfl
      try simp only [Act.put, List.setIfInBounds_toArray, List.set_cons_zero, List.set_cons_succ, List.getElem_toArray, List.getElem_cons_zero, List.getElem_cons_succ]
      refine wpAnyH_take (i := 1) (oi := _) (v := ?_) rfl (by kernel_rfl) (by kernel_rfl) (by kernel_rfl) (fun _ _ _ h => h) (Or.inl ⟨by rfl, ?_⟩) (by assumption) ?_
      rotate_left
      · intro w hSw
        go_simp
        all_goals with_reducible rfl
      try simp only [Act.put, List.setIfInBounds_toArray, List.set_cons_zero, List.set_cons_succ, List.getElem_toArray, List.getElem_cons_zero, List.getElem_cons_succ]
      refine wpAnyH_take (i := 2) (oi := _) (v := ?_) rfl (by kernel_rfl) (by kernel_rfl) (by kernel_rfl) (fun _ _ _ h => h) (Or.inl ⟨by rfl, ?_⟩) (by assumption) ?_
      rotate_left
      · intro w hSw
        go_simp
        all_goals with_reducible rfl
      try simp only [Act.put, List.setIfInBounds_toArray, List.set_cons_zero, List.set_cons_succ, List.getElem_toArray, List.getElem_cons_zero, List.getElem_cons_succ]
      refine wpAnyH_take (i := 3) (oi := _) (v := ?_) rfl (by kernel_rfl) (by kernel_rfl) (by kernel_rfl) (fun _ _ _ h => h) (Or.inl ⟨by rfl, ?_⟩) (by assumption) ?_
      rotate_left
      · intro w hSw
        go_simp
        all_goals with_reducible rfl
      try simp only [Act.put, List.setIfInBounds_toArray, List.set_cons_zero, List.set_cons_succ, List.getElem_toArray, List.getElem_cons_zero, List.getElem_cons_succ]
      refine wpAnyH_take (i := 4) (oi := _) (v := ?_) rfl (by kernel_rfl) (by kernel_rfl) (by kernel_rfl) (fun _ _ _ h => h) (Or.inl ⟨by rfl, ?_⟩) (by assumption) ?_
      rotate_left
      · intro w hSw
        go_simp
        all_goals with_reducible rfl
      try simp only [Act.put, List.setIfInBounds_toArray, List.set_cons_zero, List.set_cons_succ, List.getElem_toArray, List.getElem_cons_zero, List.getElem_cons_succ]
      refine wpAnyH_take (i := 5) (oi := _) (v := ?_) rfl (by kernel_rfl) (by kernel_rfl) (by kernel_rfl) (fun _ _ _ h => h) (Or.inl ⟨by rfl, ?_⟩) (by assumption) ?_
      rotate_left
      · intro w hSw
        go_simp
        all_goals with_reducible rfl
      try simp only [Act.put, List.setIfInBounds_toArray, List.set_cons_zero, List.set_cons_succ, List.getElem_toArray, List.getElem_cons_zero, List.getElem_cons_succ]
      refine wpAnyH_take (i := 6) (oi := _) (v := ?_) rfl (by kernel_rfl) (by kernel_rfl) (by kernel_rfl) (fun _ _ _ h => h) (Or.inl ⟨by rfl, ?_⟩) (by assumption) ?_
      rotate_left
      · intro w hSw
        go_simp
        all_goals with_reducible rfl
      try simp only [Act.put, List.setIfInBounds_toArray, List.set_cons_zero, List.set_cons_succ, List.getElem_toArray, List.getElem_cons_zero, List.getElem_cons_succ]
      refine wpAnyH_ready (rs := [7]) (by kernel_rfl) (by simp) ?_
      refine AllReadyH.cons (o := _) rfl (fun K hK => ?_) AllReadyH.nil
      refine step_copy_own (by rfl) (.tmp 41) (.tmp 44) 22 22 (by rfl) w.heap.size 41 5 41 Tryd.underlying22 HSZ.out g n n xs HOD.out (some ⟨g, m * 5, none⟩) (some ⟨g, 0, none⟩) (n - m) (n - m) m n (by rfl) (by rfl) (m * 5) (fl (List.replicate d e0)) HL1.out (fun h => ⟨rfl, (HL2.out h).2⟩) HL3.out HL4.out ?_
      intro w5 ho5 hg5
      have HB5 := Lib.hid ((HB.out.drew).grown hg5 (HB.out.drew).size (fun k hk => by injection hk with hk; rw [← hk]; exact HGB.out))
      have HO5 := Lib.hid ho5
      clear ho5 hg5
      refine hK.out _ _ trivial (fun hHeld => ?_)
      clear hK K
      simp only [Act.put, List.setIfInBounds_toArray, List.set_cons_zero, List.set_cons_succ, List.getElem_toArray, List.getElem_cons_zero, List.getElem_cons_succ, hdm]
      refine wpAnyH_take (i := 8) (oi := _) (v := ?_) rfl (by kernel_rfl) (by kernel_rfl) (by kernel_rfl) (fun _ _ _ h => h) (Or.inl ⟨by rfl, ?_⟩) (by assumption) ?_
      rotate_left
      · intro w hSw
        go_simp
        all_goals with_reducible rfl
      try simp only [Act.put, List.setIfInBounds_toArray, List.set_cons_zero, List.set_cons_succ, List.getElem_toArray, List.getElem_cons_zero, List.getElem_cons_succ]
      refine wpAnyH_take (i := 9) (oi := _) (v := ?_) rfl (by kernel_rfl) (by kernel_rfl) (by kernel_rfl) (fun _ _ _ h => h) (Or.inl ⟨by rfl, ?_⟩) (by assumption) ?_
      rotate_left
      · intro w hSw
        go_simp
        all_goals with_reducible rfl
      try simp only [Act.put, List.setIfInBounds_toArray, List.set_cons_zero, List.set_cons_succ, List.getElem_toArray, List.getElem_cons_zero, List.getElem_cons_succ]
      refine wpAnyH_done (by kernel_rfl) ?_ _
      all_goals
        have HR5 : Hid (∃ xs, w5.ownsRow w.heap.size 41 5 (.slice (some ⟨g, 0, none⟩) n n) n xs ∧ xs.take ((m + d) * 5) = fl (List.replicate (m + d) e0)) := ⟨_, HO5.out, by
          have eY : (xs.take (m * 5) ++ fl (List.replicate d e0)).length = (m + d) * 5 := by rw [List.length_append, List.length_take, HXL.out, fl_rep_len]; omega
          rw [List.take_append_of_le_length (by rw [eY]; exact Nat.le_refl _), List.take_of_length_le (by rw [eY]; exact Nat.le_refl _), HT.out, ← fl_append, List.replicate_append_replicate]⟩
        go_wp2
        go_roundw
        case rel => exact ⟨m + d, by omega, by omega, by go_num, HB5.out, HR5.out⟩
        case measure => simp [intOf]; omega
    · have hm' : m = n := by omega
      subst hm'
      go_wp2
      go_ret
      obtain ⟨xs, ho, ht⟩ := HX.out
      have hxl : xs.length = m * 5 := ho.1
      rw [List.take_of_length_le (by omega)] at ht
      subst ht
      refine ⟨_, rfl, ?_, HB.out⟩
      unfold OwS
      rw [List.length_replicate]
      exact ho
end Go.Proofs.YtfgeomdfgjefdaaDoor
