/- Laws of this seat on a row of the call's own: 'append(s, make(..)..)' where it grows, 'copy' into it, s[:n+m] within its capacity. -/
import Derived.Test.YtchbbldanmmpjaaDoorT3
namespace Go.Proofs.YtchbbldanmmpjaaDoor
open Go.RowKit
set_option linter.unusedVariables false
set_option linter.unusedSimpArgs false
section
variable {P : Program} {w : World} {base : Nat} {e : TypeId} {size g n cap : Nat} {xs : List Value}

theorem mem_zeroCells {z : Array Value} {m : Nat} (h1 : ∀ u ∈ z.toList, u.oneCell' = true) : ∀ u ∈ (Builtin.zeroCells z m).toList, u.oneCell' = true := by
  intro u hu
  have hu' : u ∈ Builtin.zeroCells z m := by simpa using hu
  unfold Builtin.zeroCells at hu'
  rw [Array.mem_map] at hu'
  obtain ⟨j, hj, rfl⟩ := hu'
  have hpos : 0 < z.size := by
    rcases Nat.eq_zero_or_pos z.size with h0 | h0
    · rw [h0] at hj; simp at hj
    · exact h0
  have hlt : j % z.size < z.size := Nat.mod_lt _ hpos
  rw [getElem!_pos z _ hlt]
  exact h1 _ (by simp)

/-- 'append(s, make([]T, m)...)', there being no room: a new row, s's cells and m zero elements. -/
theorem run_append_zeros_grow (t ti ty : TypeId) (z : Value) (bytes : Nat) (ht : P.underlying t = some (.slice e)) {k : IntKind} (hti : P.underlying ti = some (.int k))
    (hinfo : (P.info? e).map (fun i => (i.zero, i.size, i.bytes)) = some (some z, size, bytes)) (hzs : z.cells.size = size) (hsz : 0 < size) (hb0 : 0 < bytes)
    (h : w.ownsRow base e size (.slice (some ⟨g, 0, none⟩) n cap) n xs) (kx : IntKind) (m : Nat) (hm : 0 < m) (hgrow : cap < n + m) (hbytes : (n + m) * bytes ≤ 140737488355328) (hbase : base ≤ w.heap.size) :
    ∃ cap' w', (Builtin.append_ #[t, ti] ty #[.slice (some ⟨g, 0, none⟩) n cap, .int kx m]).run P w = .ok (.slice (some ⟨w.heap.size, 0, none⟩) (n + m) cap') w' ∧
      w'.ownsRow base e size (.slice (some ⟨w.heap.size, 0, none⟩) (n + m) cap') (n + m) (xs ++ (Builtin.zeroCells z.cells m).toList) ∧ Below w.heap.size w w' := by
  obtain ⟨i, hi, hz, rfl, rfl⟩ := info_parts hinfo
  have hle : n + m ≤ 140737488355328 := Nat.le_trans (Nat.le_mul_of_pos_right _ hb0) hbytes
  have h63 : n + m ≤ maxLen := by simp only [maxLen]; omega
  have hw : IntKind.i64.wrap (m : Int) = m := by rw [IntKind.wrap_i64]; omega
  have hneg : ¬ ((m : Int) < 0) := by omega
  have hmb : m * i.bytes ≤ 140737488355328 := Nat.le_trans (Nat.mul_le_mul_right _ (Nat.le_add_left m n)) hbytes
  have hbig : ¬ (281474976710656 < (m : Int) * (i.bytes : Int)) := by
    rw [← Int.natCast_mul]
    omega
  have hsn : i.size ≠ 0 := by omega
  have hm0 : m ≠ 0 := by omega
  have hroom : ¬ (n + m ≤ cap) := by omega
  have h63' : ¬ (9223372036854775807 < ((n : Int) + (m : Int))) := by omega
  have hfit := growslice_fits hgrow hbytes
  have h48' : ¬ (281474976710656 < Builtin.nextslicecap (n + m) cap * i.bytes) := by omega
  have hfc := fun W (hW : ∀ j v, xs[j]? = some v → W.cell? ((⟨g, 0, none⟩ : Addr).add j) = some v) => run_firstCells_some (P := P) (w := W) i.size n ⟨g, 0, none⟩ n cap xs h.1 hW
  have hfo := hfc w.drew (h.cells (g := g) rfl)
  have hge := grownCap_ge w (n + m) cap e
  have hcm : grownCap w (n + m) cap e ≤ maxLen := grownCap_le_maxLen w (n + m) cap e h63
  have hxl : xs.length = n * i.size := h.1
  have hlen : (xs ++ (Builtin.zeroCells z.cells m).toList).length = (n + m) * i.size := by rw [List.length_append, hxl, Array.length_toList, size_zeroCells, hzs, Nat.add_mul]
  refine ⟨grownCap w (n + m) cap e, w.drew.alloc (.cells (xs.toArray ++ Builtin.zeroCells z.cells m ++ Builtin.zeroCells z.cells (grownCap w (n + m) cap e - (n + m))) e), ?_, ⟨hlen, .inr ⟨w.heap.size, _, _, rfl, hbase, heap_alloc_new w.drew _, hge, hcm, ?_, ?_⟩⟩, ?_⟩
  · simp [Builtin.append_, run_underlying ht, run_underlying hti, sizeOf, typeInfo, zeroValue, hi, hz, asInt, asIntOf, hw, hneg, hbig, hroom, h63', h48', hsn, hm0, Question.forced, hfo, newRow, grownCap]
    intro h0
    have : 0 < m * i.size := Nat.mul_pos hm hsz
    omega
  · simp only [Array.size_append, List.size_toArray, size_zeroCells, hzs, hxl, ← Nat.add_mul]
    congr 1
    omega
  · simp only [Array.toList_append, List.append_assoc]
    rw [← List.append_assoc, ← hlen]
    exact List.take_left
  · exact balloc ((Below.refl _ _).drew) _

/-- 'copy(d, s)', d lying in a row of the call's own: what is read of s is written there. -/
theorem run_copy_own (dT sT ty el : TypeId) (hu : P.underlying dT = some (.slice el)) (hs : (P.info? el).map (·.size) = some size)
    (h : w.ownsRow base e size (.slice (some ⟨g, 0, none⟩) n cap) n xs) (D S : Option Addr) (dl dc sl sc k : Nat) (cs : List Value) (hl : cs.length = Nat.min sl dl * size)
    (hD : 0 < Nat.min sl dl → D = some ⟨g, k, none⟩ ∧ ∃ b o, S = some ⟨b, o, none⟩ ∧ ∀ j v, cs[j]? = some v → w.cell? ⟨b, o + j, none⟩ = some v)
    (hk : k + cs.length ≤ n * size) (h1 : ∀ u ∈ cs, u.oneCell' = true) :
    ∃ w', (Builtin.copy_ #[dT, sT] ty #[.slice D dl dc, .slice S sl sc]).run P w = .ok (goInt (Nat.min sl dl)) w' ∧
      w'.ownsRow base e size (.slice (some ⟨g, 0, none⟩) n cap) n (xs.take k ++ cs ++ xs.drop (k + cs.length)) ∧ w.grownBy w' (some g) := by
  cases hq : P.info? el with
  | none => rw [hq] at hs; simp at hs
  | some i =>
    rw [hq] at hs
    simp only [Option.map_some, Option.some.injEq] at hs
    subst hs
    rcases Nat.eq_zero_or_pos (Nat.min sl dl) with h0 | hp
    · have hc : cs = [] := List.eq_nil_of_length_eq_zero (by rw [hl, h0, Nat.zero_mul])
      subst hc
      refine ⟨w, ?_, by simpa using h, World.grownBy.refl w _⟩
      have h0' : min sl dl = 0 := h0
      cases S <;> cases D <;> simp [Builtin.copy_, run_underlying hu, sizeOf, typeInfo, hq, Builtin.lenOf, Builtin.firstCells, h0', loadCells, loadCellsFrom, storeCells]
    · obtain ⟨rfl, b, o, rfl, hc⟩ := hD hp
      obtain ⟨w', h2, h3, h4⟩ := own_put (P := P) h k cs hk h1
      have hfc := run_firstCells_some (P := P) (w := w) i.size (Nat.min sl dl) ⟨b, o, none⟩ sl sc cs hl (fun j v hv => by rw [addOff]; exact hc j v hv)
      refine ⟨w', ?_, h3, h4⟩
      have e1 : Nat.min sl dl = min sl dl := rfl
      rw [e1] at hfc ⊢
      simp [Builtin.copy_, run_underlying hu, sizeOf, typeInfo, hq, Builtin.lenOf, hfc, h2]

theorem wpl_copy_own {ops : Array Oper} {rest : List Oper} {o : Oper} {a : Act} {Q : Exit → Act → World → Prop} (hgd : o.guard = none) (d s : Operand) (dT sT : TypeId)
    (ho : o.op = .call { callee := .builtin .copy, args := #[d, s], argTypes := #[dT, sT] }) (base : Nat) (e : TypeId) (size : Nat) (el : TypeId) (hu : P.underlying dT = some (.slice el)) (hs : (P.info? el).map (·.size) = some size)
    (g n cap : Nat) (xs : List Value) (h : w.ownsRow base e size (.slice (some ⟨g, 0, none⟩) n cap) n xs) (D S : Option Addr) (dl dc sl sc : Nat) (hd : a.eval d = .slice D dl dc) (hsv : a.eval s = .slice S sl sc)
    (k : Nat) (cs : List Value) (hl : cs.length = Nat.min sl dl * size)
    (hD : 0 < Nat.min sl dl → D = some ⟨g, k, none⟩ ∧ ∃ b o, S = some ⟨b, o, none⟩ ∧ ∀ j v, cs[j]? = some v → w.cell? ⟨b, o + j, none⟩ = some v)
    (hk : k + cs.length ≤ n * size) (h1 : ∀ u ∈ cs, u.oneCell' = true)
    (hK : ∀ w', w'.ownsRow base e size (.slice (some ⟨g, 0, none⟩) n cap) n (xs.take k ++ cs ++ xs.drop (k + cs.length)) → w.grownBy w' (some g) → wpList P ops Q rest (a.put o.dst (goInt (Nat.min sl dl))) w') :
    wpList P ops Q (o :: rest) a w := by
  refine wpList_plain hgd fun K hK' => ?_
  obtain ⟨w', hr, h2, h3⟩ := run_copy_own (P := P) dT sT o.type el hu hs h D S dl dc sl sc k cs hl hD hk h1
  unfold Oper.wp execOp
  simp only [ho, resolve, invoke, builtin, Sem.run_bind, Sem.run_pure, Result.andThen_ok, List.map_toArray, List.map_cons, List.map_nil, hd, hsv, hr]
  exact hK' _ _ (hK w' h2 h3)

/-- s[:n+m] within the capacity: the cells behind are whatever they are. -/
theorem own_more (h : w.ownsRow base e size (.slice (some ⟨g, 0, none⟩) n cap) n xs) (m : Nat) (hm : n + m ≤ cap) : ∃ ys, ys.length = m * size ∧ w.ownsRow base e size (.slice (some ⟨g, 0, none⟩) (n + m) cap) (n + m) (xs ++ ys) := by
  rcases h.2 with ⟨h', _⟩ | ⟨g', cap', cur, h', hb, hg, hnc, hcm, hcs, htake⟩
  · simp at h'
  · simp only [Value.slice.injEq, Option.some.injEq, Addr.mk.injEq, and_true, true_and] at h'
    obtain ⟨rfl, rfl⟩ := h'
    have hle : (n + m) * size ≤ cap * size := Nat.mul_le_mul_right _ hm
    have hcl : cur.toList.length = cap * size := by rw [Array.length_toList, hcs]
    rw [Nat.add_mul] at hle
    refine ⟨(cur.toList.drop (n * size)).take (m * size), by rw [List.length_take, List.length_drop]; omega, ⟨?_, .inr ⟨g, cap, cur, rfl, hb, hg, hm, hcm, hcs, ?_⟩⟩⟩
    · rw [List.length_append, h.1, List.length_take, List.length_drop, Nat.add_mul]
      omega
    · rw [Nat.add_mul, List.take_add, htake]
theorem own_shape? (h : w.ownsRow base e size (.slice (some ⟨g, 0, none⟩) n cap) n xs) : w.shape? g = some (e, cap * size) := by
  rcases h.2 with ⟨h', _⟩ | ⟨g', cap', cur, h', hb, hg, hnc, hcm, hcs, htake⟩
  · simp at h'
  · simp only [Value.slice.injEq, Option.some.injEq, Addr.mk.injEq, and_true, true_and] at h'
    obtain ⟨rfl, rfl⟩ := h'
    simp [World.shape?, hg, hcs]
end
end Go.Proofs.YtchbbldanmmpjaaDoor
