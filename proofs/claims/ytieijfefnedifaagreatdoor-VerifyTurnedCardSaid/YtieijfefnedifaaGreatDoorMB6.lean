/- Out of the texts of spans: T2 T3 T4 T5. -/
import Derived.Test.YtieijfefnedifaaGreatDoorMB5
namespace Go.Proofs.YtieijfefnedifaaGreatDoor
open Go.RowKit
set_option linter.unusedVariables false
set_option linter.unusedSimpArgs false

def idxP (l : List SpanV) (p : SpanV → Bool) : Int := match l.findIdx? p with | some i => (i : Int) | none => -1
theorem idxP_some {l : List SpanV} {p : SpanV → Bool} {k : Nat} (hk : k < l.length) (hp : p l[k] = true) (hno : ∀ j, j < k → ∀ s, l[j]? = some s → p s = false) : idxP l p = k := by
  unfold idxP
  have : l.findIdx? p = some k := by
    rw [List.findIdx?_eq_some_iff_getElem]
    refine ⟨hk, hp, fun j hj => ?_⟩
    have := hno j hj l[j] (List.getElem?_eq_getElem (by omega))
    simp [this]
  rw [this]
theorem idxP_none {l : List SpanV} {p : SpanV → Bool} (hno : ∀ j, j < l.length → ∀ s, l[j]? = some s → p s = false) : idxP l p = -1 := by
  unfold idxP
  have : l.findIdx? p = none := by
    rw [List.findIdx?_eq_none_iff]
    intro x hx
    obtain ⟨j, hj, rfl⟩ := List.getElem_of_mem hx
    exact hno j hj _ (List.getElem?_eq_getElem hj)
  rw [this]
theorem no_more {l : List SpanV} {p : SpanV → Bool} {k : Nat} (hk : k < l.length) (hp : p l[k] = false) (hno : ∀ j, j < k → ∀ s, l[j]? = some s → p s = false) : ∀ j, j < k + 1 → ∀ s, l[j]? = some s → p s = false := by
  intro j hj s hs
  rcases Nat.lt_succ_iff_lt_or_eq.1 hj with h | rfl
  · exact hno j h s hs
  · rw [List.getElem?_eq_getElem hk] at hs
    cases hs
    exact hp

set_option maxRecDepth 100000 in
set_option maxHeartbeats 8000000 in
theorem index_any (l : List SpanV) (A : Option Addr) (c : Nat) (g : Nat) (caps : Array Value) (p : SpanV → Bool) (w : World) (hr : RdS w A l) (hg : Enters g)
    (hf : ∀ s ∈ l, ∀ w', Below w.heap.size w w' → Calls Tryz.prog g (#[s.v] ++ caps) w' (Ret (.bool (p s)) w')) :
    Calls Tryz.prog 70 #[.slice A l.length c, .func (.func g) #[] caps] w (Ret (.int .i64 (idxP l p)) w) := by
  have hl := hr.len
  unfold Enters at hg
  go_enter Tryz.func70, Tryz.ntmps70
  go_wp2
  go_loopw [8] (fun i wr => ∃ k : Nat, k ≤ l.length ∧ i = .int .i64 k ∧ (∀ j, j < k → ∀ s, l[j]? = some s → p s = false) ∧ Below w.heap.size w wr) (fun i _ => l.length - (intOf i).toNat)
  case atStart => exact ⟨0, Nat.zero_le _, rfl, fun j h => absurd h (by omega), Below.refl _ _⟩
  case round =>
    obtain ⟨k, hk, rfl, hno, hb⟩ := hrel
    have HR := Lib.hid hr
    clear hr
    by_cases hlt : k < l.length
    · have hs : l[k]? = some l[k] := List.getElem?_eq_getElem hlt
      obtain ⟨b, o, rfl, hB, c0, c1, c2, c3, c4, c5, c6, c7⟩ := (HR.out.below hb).at_ hs
      have hcall := hf l[k] (List.getElem_mem _) wr hb
      have HC := Lib.hid hcall
      unfold SpanV.v at HC
      clear hcall hf hs
      cases hp : p l[k] with
      | true =>
        have HN := Lib.hid (idxP_some hlt hp hno)
        have HP := Lib.hid hp
        clear hp hno
        go_wp2_with (refine HC.out.mono ?_; rintro e w' ⟨rfl, hb'⟩; rw [HP.out])
        go_ret
        exact ⟨by rw [HN.out]; rfl, bthen hb hb'⟩
      | false =>
        have HN := Lib.hid (no_more hlt hp hno)
        have HP := Lib.hid hp
        clear hp hno
        go_wp2_with (refine HC.out.mono ?_; rintro e w' ⟨rfl, hb'⟩; rw [HP.out])
        go_roundw
        case rel => exact ⟨k + 1, by omega, by go_num, HN.out, bthen hb hb'⟩
        case measure => simp [intOf]; omega
    · have HN := Lib.hid (idxP_none (l := l) (p := p) (fun j hj => hno j (by omega)))
      clear hno hf
      go_wp2
      go_ret
      exact ⟨by rw [HN.out]; rfl, hb⟩

theorem filter_none {l : List SpanV} {p : SpanV → Bool} (h : idxP l p = -1) : l.filter (fun s => !p s) = l := by
  rw [List.filter_eq_self]
  intro x hx
  unfold idxP at h
  split at h
  · omega
  · rename_i hn
    rw [List.findIdx?_eq_none_iff] at hn
    simp [hn x hx]
theorem idx_at {l : List SpanV} {p : SpanV → Bool} (h : idxP l p ≠ -1) : ∃ i : Nat, idxP l p = i ∧ ∃ hi : i < l.length, p l[i] = true ∧ ∀ j s, j < i → l[j]? = some s → p s = false := by
  unfold idxP at h ⊢
  cases hf : l.findIdx? p with
  | none => rw [hf] at h; exact absurd rfl h
  | some i =>
    obtain ⟨hi, hp, hno⟩ := List.findIdx?_eq_some_iff_getElem.1 hf
    refine ⟨i, rfl, hi, hp, fun j s hj hs => ?_⟩
    have := hno j hj
    rw [List.getElem?_eq_getElem (by omega)] at hs
    cases hs
    simpa using this

def RetG (base : Nat) (u : Value) (l : List SpanV) (w : World) (e : Ending) (w' : World) : Prop := ∃ v, e = .returned v ∧ OwS w' base v l ∧ w.grownBy w' u.ownBlock

/-- How far it has come. -/
structure Del (l : List SpanV) (p : SpanV → Bool) (l' : List SpanV) (i j : Nat) : Prop where
  len : l'.length = l.length
  ij : i < j
  jn : j ≤ l.length
  front : l'.take i = (l.take j).filter (fun s => !p s)
  back : ∀ m, j ≤ m → l'[m]? = l[m]?
theorem Del.start {l : List SpanV} {p : SpanV → Bool} {i : Nat} (hi : i < l.length) (hp : p l[i] = true) (hno : ∀ j s, j < i → l[j]? = some s → p s = false) : Del l p l i (i + 1) := by
  refine ⟨rfl, by omega, by omega, ?_, fun _ _ => rfl⟩
  rw [List.take_succ_eq_append_getElem hi, List.filter_append]
  have h1 : (l.take i).filter (fun s => !p s) = l.take i := by
    rw [List.filter_eq_self]
    intro x hx
    obtain ⟨j, hj, rfl⟩ := List.getElem_of_mem hx
    rw [List.length_take] at hj
    simp only [List.getElem_take]
    rw [hno j _ (by omega) (List.getElem?_eq_getElem (by omega))]
    rfl
  rw [h1]
  simp [hp]
theorem Del.skip {l l' : List SpanV} {p : SpanV → Bool} {i j : Nat} (h : Del l p l' i j) (hj : j < l.length) (hp : p l[j] = true) : Del l p l' i (j + 1) := by
  refine ⟨h.len, by have := h.ij; omega, by omega, ?_, fun m hm => h.back m (by omega)⟩
  rw [List.take_succ_eq_append_getElem hj, List.filter_append, ← h.front]
  simp [hp]
theorem Del.keep {l l' : List SpanV} {p : SpanV → Bool} {i j : Nat} (h : Del l p l' i j) (hj : j < l.length) (hp : p l[j] = false) : Del l p (l'.set i l[j]) (i + 1) (j + 1) := by
  have hij := h.ij
  have hlen := h.len
  refine ⟨by rw [List.length_set]; exact h.len, by omega, by omega, ?_, fun m hm => ?_⟩
  · rw [List.take_succ_eq_append_getElem hj, List.filter_append, ← h.front]
    rw [List.take_succ_eq_append_getElem (by rw [List.length_set]; omega)]
    rw [List.take_set_of_le (by omega)]
    simp [hp]
  · rw [List.getElem?_set_ne (by omega)]
    exact h.back m (by omega)
theorem Del.done {l l' : List SpanV} {p : SpanV → Bool} {i : Nat} (h : Del l p l' i l.length) : l'.take i = l.filter (fun s => !p s) := by
  rw [h.front, List.take_length]


theorem right_small {s : SpanB} (h : rightP s = true) : smallS s := by
  obtain ⟨hs, _, _, ha, hm, hn, hn', _⟩ := rightP_parts h
  have hb := manyP_of hs
  have h1 := okB_parts ha
  have h2 := okB_parts hm
  exact ⟨by omega, by omega⟩
theorem okL_small {l : List SpanB} (h : okL l = true) : smallL l := by
  refine ⟨by have := okL_len h; omega, fun s hs => ?_⟩
  obtain ⟨i, hi, rfl⟩ := List.getElem_of_mem hs
  exact right_small (okL_right h (List.getElem?_eq_getElem hi))
theorem AllN.filter {w : World} {base : Nat} {p : SpanV → Bool} {q : SpanB → Bool} (hpq : ∀ v s, OwN w base v s → p v = q s) : ∀ {vs : List SpanV} {l : List SpanB}, AllN w base vs l → AllN w base (vs.filter p) (l.filter q) := by
  intro vs
  induction vs with
  | nil =>
    intro l h
    have : l = [] := List.eq_nil_of_length_eq_zero h.1.symm
    subst this
    exact AllN.nil_ _ _
  | cons x r ih =>
    intro l h
    cases l with
    | nil => have := h.1; simp at this
    | cons s t =>
      have hx := h.2 0 x s rfl rfl
      have ht : AllN w base r t := ⟨by have := h.1; simpa using this, fun i y u hy hu => h.2 (i + 1) y u (by simpa using hy) (by simpa using hu)⟩
      have e := hpq x s hx
      rw [List.filter_cons, List.filter_cons, ← e]
      split
      · exact AllN.append (AllN.one hx) (ih ht)
      · exact ih ht
def RetLE (l : List SpanB) (x : Int) (w : World) (e : Ending) (w' : World) : Prop := ∃ v, e = .returned (.tuple #[v, .int .i64 x]) ∧ OwL w' w.heap.size v l ∧ Below w.heap.size w w'
def dropL (l : List SpanB) (f : Int) : List SpanB := if okL l = true then l.filter (fun s => !(s.first == f)) else []
def dropE (l : List SpanB) (f : Int) : Int := if okL l = true then (if (l.filter (fun s => !(s.first == f))).length = l.length then 3 else 0) else 2
section
variable {P : Program} {w : World} {base : Nat} {e : TypeId} {size g n cap : Nat} {xs : List Value}

theorem mem_zeroCells {z : Array Value} {m : Nat} (h1 : ∀ u ∈ z.toList, u.oneCell' = true) : ∀ u ∈ (Builtin.zeroCells z m).toList, u.oneCell' = true := by
  intro u hu
  have hu' : u ∈ Builtin.zeroCells z m := by simpa using hu
  unfold Builtin.zeroCells at hu'
  rw [Array.mem_map] at hu'
  obtain ⟨j, hj, rfl⟩ := hu'
  have hpos : 0 < z.size := by
    rcases Nat.eq_zero_or_pos z.size with h0 | h0
    · rw [h0] at hj; simp at hj
    · exact h0
  have hlt : j % z.size < z.size := Nat.mod_lt _ hpos
  rw [getElem!_pos z _ hlt]
  exact h1 _ (by simp)

/-- 'append(s, make([]T, m)...)', there being no room: a new row, s's cells and m zero elements. -/
theorem run_append_zeros_grow (t ti ty : TypeId) (z : Value) (bytes : Nat) (ht : P.underlying t = some (.slice e)) {k : IntKind} (hti : P.underlying ti = some (.int k))
    (hinfo : (P.info? e).map (fun i => (i.zero, i.size, i.bytes)) = some (some z, size, bytes)) (hzs : z.cells.size = size) (hsz : 0 < size) (hb0 : 0 < bytes)
    (h : w.ownsRow base e size (.slice (some ⟨g, 0, none⟩) n cap) n xs) (kx : IntKind) (m : Nat) (hm : 0 < m) (hgrow : cap < n + m) (hbytes : (n + m) * bytes ≤ 140737488355328) (hbase : base ≤ w.heap.size) :
    ∃ cap' w', (Builtin.append_ #[t, ti] ty #[.slice (some ⟨g, 0, none⟩) n cap, .int kx m]).run P w = .ok (.slice (some ⟨w.heap.size, 0, none⟩) (n + m) cap') w' ∧
      w'.ownsRow base e size (.slice (some ⟨w.heap.size, 0, none⟩) (n + m) cap') (n + m) (xs ++ (Builtin.zeroCells z.cells m).toList) ∧ Below w.heap.size w w' := by
  obtain ⟨i, hi, hz, rfl, rfl⟩ := info_parts hinfo
  have hle : n + m ≤ 140737488355328 := Nat.le_trans (Nat.le_mul_of_pos_right _ hb0) hbytes
  have h63 : n + m ≤ maxLen := by simp only [maxLen]; omega
  have hw : IntKind.i64.wrap (m : Int) = m := by rw [IntKind.wrap_i64]; omega
  have hneg : ¬ ((m : Int) < 0) := by omega
  have hmb : m * i.bytes ≤ 140737488355328 := Nat.le_trans (Nat.mul_le_mul_right _ (Nat.le_add_left m n)) hbytes
  have hbig : ¬ (281474976710656 < (m : Int) * (i.bytes : Int)) := by
    rw [← Int.natCast_mul]
    omega
  have hsn : i.size ≠ 0 := by omega
  have hm0 : m ≠ 0 := by omega
  have hroom : ¬ (n + m ≤ cap) := by omega
  have h63' : ¬ (9223372036854775807 < ((n : Int) + (m : Int))) := by omega
  have hfit := growslice_fits hgrow hbytes
  have h48' : ¬ (281474976710656 < Builtin.nextslicecap (n + m) cap * i.bytes) := by omega
  have hfc := fun W (hW : ∀ j v, xs[j]? = some v → W.cell? ((⟨g, 0, none⟩ : Addr).add j) = some v) => run_firstCells_some (P := P) (w := W) i.size n ⟨g, 0, none⟩ n cap xs h.1 hW
  have hfo := hfc w.drew (h.cells (g := g) rfl)
  have hge := grownCap_ge w (n + m) cap e
  have hcm : grownCap w (n + m) cap e ≤ maxLen := grownCap_le_maxLen w (n + m) cap e h63
  have hxl : xs.length = n * i.size := h.1
  have hlen : (xs ++ (Builtin.zeroCells z.cells m).toList).length = (n + m) * i.size := by rw [List.length_append, hxl, Array.length_toList, size_zeroCells, hzs, Nat.add_mul]
  refine ⟨grownCap w (n + m) cap e, w.drew.alloc (.cells (xs.toArray ++ Builtin.zeroCells z.cells m ++ Builtin.zeroCells z.cells (grownCap w (n + m) cap e - (n + m))) e), ?_, ⟨hlen, .inr ⟨w.heap.size, _, _, rfl, hbase, heap_alloc_new w.drew _, hge, hcm, ?_, ?_⟩⟩, ?_⟩
  · simp [Builtin.append_, run_underlying ht, run_underlying hti, sizeOf, typeInfo, zeroValue, hi, hz, asInt, asIntOf, hw, hneg, hbig, hroom, h63', h48', hsn, hm0, Question.forced, hfo, newRow, grownCap]
    intro h0
    have : 0 < m * i.size := Nat.mul_pos hm hsz
    omega
  · simp only [Array.size_append, List.size_toArray, size_zeroCells, hzs, hxl, ← Nat.add_mul]
    congr 1
    omega
  · simp only [Array.toList_append, List.append_assoc]
    rw [← List.append_assoc, ← hlen]
    exact List.take_left
  · exact balloc ((Below.refl _ _).drew) _

/-- 'copy(d, s)', d lying in a row of the call's own: what is read of s is written there. -/
theorem run_copy_own (dT sT ty el : TypeId) (hu : P.underlying dT = some (.slice el)) (hs : (P.info? el).map (·.size) = some size)
    (h : w.ownsRow base e size (.slice (some ⟨g, 0, none⟩) n cap) n xs) (D S : Option Addr) (dl dc sl sc k : Nat) (cs : List Value) (hl : cs.length = Nat.min sl dl * size)
    (hD : 0 < Nat.min sl dl → D = some ⟨g, k, none⟩ ∧ ∃ b o, S = some ⟨b, o, none⟩ ∧ ∀ j v, cs[j]? = some v → w.cell? ⟨b, o + j, none⟩ = some v)
    (hk : k + cs.length ≤ n * size) (h1 : ∀ u ∈ cs, u.oneCell' = true) :
    ∃ w', (Builtin.copy_ #[dT, sT] ty #[.slice D dl dc, .slice S sl sc]).run P w = .ok (goInt (Nat.min sl dl)) w' ∧
      w'.ownsRow base e size (.slice (some ⟨g, 0, none⟩) n cap) n (xs.take k ++ cs ++ xs.drop (k + cs.length)) ∧ w.grownBy w' (some g) := by
  cases hq : P.info? el with
  | none => rw [hq] at hs; simp at hs
  | some i =>
    rw [hq] at hs
    simp only [Option.map_some, Option.some.injEq] at hs
    subst hs
    rcases Nat.eq_zero_or_pos (Nat.min sl dl) with h0 | hp
    · have hc : cs = [] := List.eq_nil_of_length_eq_zero (by rw [hl, h0, Nat.zero_mul])
      subst hc
      refine ⟨w, ?_, by simpa using h, World.grownBy.refl w _⟩
      have h0' : min sl dl = 0 := h0
      cases S <;> cases D <;> simp [Builtin.copy_, run_underlying hu, sizeOf, typeInfo, hq, Builtin.lenOf, Builtin.firstCells, h0', loadCells, loadCellsFrom, storeCells]
    · obtain ⟨rfl, b, o, rfl, hc⟩ := hD hp
      obtain ⟨w', h2, h3, h4⟩ := own_put (P := P) h k cs hk h1
      have hfc := run_firstCells_some (P := P) (w := w) i.size (Nat.min sl dl) ⟨b, o, none⟩ sl sc cs hl (fun j v hv => by rw [addOff]; exact hc j v hv)
      refine ⟨w', ?_, h3, h4⟩
      have e1 : Nat.min sl dl = min sl dl := rfl
      rw [e1] at hfc ⊢
      simp [Builtin.copy_, run_underlying hu, sizeOf, typeInfo, hq, Builtin.lenOf, hfc, h2]

theorem wpl_copy_own {ops : Array Oper} {rest : List Oper} {o : Oper} {a : Act} {Q : Exit → Act → World → Prop} (hgd : o.guard = none) (d s : Operand) (dT sT : TypeId)
    (ho : o.op = .call { callee := .builtin .copy, args := #[d, s], argTypes := #[dT, sT] }) (base : Nat) (e : TypeId) (size : Nat) (el : TypeId) (hu : P.underlying dT = some (.slice el)) (hs : (P.info? el).map (·.size) = some size)
    (g n cap : Nat) (xs : List Value) (h : w.ownsRow base e size (.slice (some ⟨g, 0, none⟩) n cap) n xs) (D S : Option Addr) (dl dc sl sc : Nat) (hd : a.eval d = .slice D dl dc) (hsv : a.eval s = .slice S sl sc)
    (k : Nat) (cs : List Value) (hl : cs.length = Nat.min sl dl * size)
    (hD : 0 < Nat.min sl dl → D = some ⟨g, k, none⟩ ∧ ∃ b o, S = some ⟨b, o, none⟩ ∧ ∀ j v, cs[j]? = some v → w.cell? ⟨b, o + j, none⟩ = some v)
    (hk : k + cs.length ≤ n * size) (h1 : ∀ u ∈ cs, u.oneCell' = true)
    (hK : ∀ w', w'.ownsRow base e size (.slice (some ⟨g, 0, none⟩) n cap) n (xs.take k ++ cs ++ xs.drop (k + cs.length)) → w.grownBy w' (some g) → wpList P ops Q rest (a.put o.dst (goInt (Nat.min sl dl))) w') :
    wpList P ops Q (o :: rest) a w := by
  refine wpList_plain hgd fun K hK' => ?_
  obtain ⟨w', hr, h2, h3⟩ := run_copy_own (P := P) dT sT o.type el hu hs h D S dl dc sl sc k cs hl hD hk h1
  unfold Oper.wp execOp
  simp only [ho, resolve, invoke, builtin, Sem.run_bind, Sem.run_pure, Result.andThen_ok, List.map_toArray, List.map_cons, List.map_nil, hd, hsv, hr]
  exact hK' _ _ (hK w' h2 h3)

/-- s[:n+m] within the capacity: the cells behind are whatever they are. -/
theorem own_more (h : w.ownsRow base e size (.slice (some ⟨g, 0, none⟩) n cap) n xs) (m : Nat) (hm : n + m ≤ cap) : ∃ ys, ys.length = m * size ∧ w.ownsRow base e size (.slice (some ⟨g, 0, none⟩) (n + m) cap) (n + m) (xs ++ ys) := by
  rcases h.2 with ⟨h', _⟩ | ⟨g', cap', cur, h', hb, hg, hnc, hcm, hcs, htake⟩
  · simp at h'
  · simp only [Value.slice.injEq, Option.some.injEq, Addr.mk.injEq, and_true, true_and] at h'
    obtain ⟨rfl, rfl⟩ := h'
    have hle : (n + m) * size ≤ cap * size := Nat.mul_le_mul_right _ hm
    have hcl : cur.toList.length = cap * size := by rw [Array.length_toList, hcs]
    rw [Nat.add_mul] at hle
    refine ⟨(cur.toList.drop (n * size)).take (m * size), by rw [List.length_take, List.length_drop]; omega, ⟨?_, .inr ⟨g, cap, cur, rfl, hb, hg, hm, hcm, hcs, ?_⟩⟩⟩
    · rw [List.length_append, h.1, List.length_take, List.length_drop, Nat.add_mul]
      omega
    · rw [Nat.add_mul, List.take_add, htake]
theorem own_shape? (h : w.ownsRow base e size (.slice (some ⟨g, 0, none⟩) n cap) n xs) : w.shape? g = some (e, cap * size) := by
  rcases h.2 with ⟨h', _⟩ | ⟨g', cap', cur, h', hb, hg, hnc, hcm, hcs, htake⟩
  · simp at h'
  · simp only [Value.slice.injEq, Option.some.injEq, Addr.mk.injEq, and_true, true_and] at h'
    obtain ⟨rfl, rfl⟩ := h'
    simp [World.shape?, hg, hcs]
end


theorem ins_room {X D xc ys : List Value} {k d : Nat} (h1 : X.length = k) (h2 : D.length = d) (h3 : xc.length = 8) (h4 : ys.length = 8) :
    List.take k (List.take (k + 8) (X ++ D ++ ys) ++ D ++ List.drop (k + 8 + d) (X ++ D ++ ys)) ++ xc ++ List.drop (k + 8) (List.take (k + 8) (X ++ D ++ ys) ++ D ++ List.drop (k + 8 + d) (X ++ D ++ ys)) = X ++ xc ++ D := by
  have e1 : List.drop (k + 8 + d) (X ++ D ++ ys) = [] := List.drop_eq_nil_of_le (by simp only [List.length_append]; omega)
  have hlen : (List.take (k + 8) (X ++ D ++ ys)).length = k + 8 := by rw [List.length_take]; simp only [List.length_append]; omega
  rw [e1, List.append_nil]
  have e2 : List.take k (List.take (k + 8) (X ++ D ++ ys) ++ D) = X := by
    rw [List.take_append_of_le_length (by omega), List.take_take, Nat.min_eq_left (by omega), List.append_assoc, List.take_append_of_le_length (by omega), List.take_of_length_le (by omega)]
  have e3 : List.drop (k + 8) (List.take (k + 8) (X ++ D ++ ys) ++ D) = D := by
    rw [List.drop_append_of_le_length (by omega), List.drop_eq_nil_of_le (by omega), List.nil_append]
  rw [e2, e3]
theorem ins_grow {X D xc Z : List Value} {k d : Nat} (h1 : X.length = k) (h2 : D.length = d) (h3 : xc.length = 8) (h4 : Z.length = d + 8) :
    List.take (k + 8) (List.take k (X ++ Z) ++ xc ++ List.drop (k + 8) (X ++ Z)) ++ D ++ List.drop (k + 8 + d) (List.take k (X ++ Z) ++ xc ++ List.drop (k + 8) (X ++ Z)) = X ++ xc ++ D := by
  have e1 : List.take k (X ++ Z) = X := by rw [List.take_append_of_le_length (by omega), List.take_of_length_le (by omega)]
  rw [e1]
  have e2 : List.take (k + 8) (X ++ xc ++ List.drop (k + 8) (X ++ Z)) = X ++ xc := by
    rw [List.take_append_of_le_length (by rw [List.length_append]; omega), List.take_of_length_le (by rw [List.length_append]; omega)]
  have e3 : List.drop (k + 8 + d) (X ++ xc ++ List.drop (k + 8) (X ++ Z)) = [] := List.drop_eq_nil_of_le (by simp only [List.length_append, List.length_drop]; omega)
  rw [e2, e3, List.append_nil]

theorem run_overlaps73 (w : World) (vb g lb cb k cap n : Nat) (x : SpanV) (xs : List Value) (base : Nat) (hx : w.heap[vb]? = some (.cells x.cs.toArray 44 (0, 0))) (hne : vb ≠ g)
    (ho : w.ownsRow base 44 8 (.slice (some ⟨g, 0, none⟩) n cap) n xs) (hcap : 0 < cap) :
    (callFunc 114 #[.slice (some ⟨vb, 0, none⟩) 1 1, .slice (some ⟨g, k, none⟩) lb cb]).run Tryz.prog w = .ok (.value (.bool false)) w := by
  obtain ⟨i26, hi, _, hs, _⟩ := info_parts info26
  have hsz : ∀ w, (Go.sizeOf 44).run Tryz.prog w = .ok 8 w := fun w => by simp [Go.sizeOf, typeInfo, hi, hs]
  rw [run_callFunc_extern Tryz.func114 (by kernel_rfl) (by kernel_rfl) (by kernel_rfl) (e := Extern.SlicesOverlaps.overlaps #[29, 29] #[4]) (by kernel_rfl),
    Lib.run_overlaps_apart w 29 4 44 Tryz.underlying29 8 hsz ⟨vb, 0, none⟩ ⟨g, k, none⟩ 1 1 lb cb hne 44 44 8 (cap * 8) (by simp [World.shape?, hx, SpanV.cs]) (own_shape? ho) (by omega) (by simp [World.frozen?, hx]) (by simp [World.frozen?, hx])]
  rfl

def insP (l : List SpanV) (i : Nat) (x : SpanV) : List SpanV := l.take i ++ x :: l.drop i
theorem fl_ins (l : List SpanV) (i : Nat) (x : SpanV) : fl (insP l i x) = (fl l).take (i * 8) ++ x.cs ++ (fl l).drop (i * 8) := by
  unfold insP
  rw [fl_append]
  have : fl (x :: l.drop i) = x.cs ++ fl (l.drop i) := rfl
  rw [this, ← List.append_assoc]
  unfold fl
  rw [flat_take SpanV.cs 8 SpanV.cs_len, flat_drop SpanV.cs 8 SpanV.cs_len]
theorem insP_len (l : List SpanV) (i : Nat) (x : SpanV) (hi : i ≤ l.length) : (insP l i x).length = l.length + 1 := by
  unfold insP
  simp
  omega

set_option maxRecDepth 100000 in
set_option maxHeartbeats 8000000 in
theorem insert57_end (l : List SpanV) (v : Value) (base : Nat) (x : SpanV) (vb : Nat) (w : World) (ho : OwS w base v l) (hbase : base ≤ w.heap.size) (hlen : (l.length + 1) * 96 ≤ 140737488355328)
    (hx : RdS w (some ⟨vb, 0, none⟩) [x]) : Calls Tryz.prog 104 #[v, .int .i64 l.length, .slice (some ⟨vb, 0, none⟩) 1 1] w (RetG base v (insP l l.length x) w) := by
  have hl := ho.len
  obtain ⟨A, c, rfl, hlc, hr⟩ := ho.shape
  have HO := Lib.hid ho
  have HX := Lib.hid hx
  have E : Hid (insP l l.length x = l ++ [x]) := by show _ = _; simp [insP]
  clear ho hx hr
  go_enter Tryz.func104, Tryz.ntmps104
  go_wp2_with (at_builtin; refine wpl_appS rfl (.tmp 23) (.tmp 24) rfl base _ l [x] rfl HO.out (some ⟨vb, 0, none⟩) 1 rfl HX.out ?hb1 hbase ?_)
  case hb1 => exact hlen
  all_goals
    intro v' w' ho' hg'
    have H := Lib.hid (show OwS w' base v' (insP l l.length x) by rw [E.out]; exact ho')
    have G : Hid (w.grownBy w' (Value.slice A l.length c).ownBlock) := by show World.grownBy _ _ _; cases A <;> exact hg'
    clear ho' hg'
    go_wp2
    go_ret
    exact ⟨_, rfl, H.out, G.out⟩

set_option maxRecDepth 100000 in
set_option maxHeartbeats 8000000 in
theorem insert57_mid (l : List SpanV) (v : Value) (base i : Nat) (x : SpanV) (vb : Nat) (w : World) (ho : OwS w base v l) (hbase : base ≤ w.heap.size) (hi : i < l.length) (hlen : (l.length + 1) * 96 ≤ 140737488355328)
    (hx : w.heap[vb]? = some (.cells x.cs.toArray 44 (0, 0))) (hvb : ∀ k, v.ownBlock = some k → vb ≠ k) : Calls Tryz.prog 104 #[v, .int .i64 i, .slice (some ⟨vb, 0, none⟩) 1 1] w (RetG base v (insP l i x) w) := by
  have hl := ho.len
  rcases ho.2 with ⟨_, h0⟩ | ⟨g, c, cur, rfl, hbg, hgh, hnc, hcm, _, _⟩
  · omega
  have hvg : vb ≠ g := hvb g rfl
  have hne : ((i : Int) == (l.length : Int)) = false := by rw [beq_eq_false_iff_ne]; omega
  have hci : ¬ c = i := by omega
  have hvlt : vb < w.heap.size := (Array.getElem?_eq_some_iff.1 hx).1
  have HX := Lib.hid hx
  have HO := Lib.hid (show w.ownsRow base 44 8 (.slice (some ⟨g, 0, none⟩) l.length c) l.length (fl l) from ho)
  have HG := Lib.hid hgh
  have HV := Lib.hid hvg
  clear ho hx hgh hvb hvg
  have hDl : ((fl l).drop (i * 8)).length = (l.length - i) * 8 := by rw [List.length_drop, fl_len, ← Nat.sub_mul]
  have hXl : ((fl l).take (i * 8)).length = i * 8 := by rw [List.length_take, fl_len]; omega
  obtain ⟨D, hD⟩ : ∃ D, D = (fl l).drop (i * 8) := ⟨_, rfl⟩
  obtain ⟨X, hX⟩ : ∃ X, X = (fl l).take (i * 8) := ⟨_, rfl⟩
  have HE : Hid (fl l = X ++ D) := by show _ = _; rw [hX, hD, List.take_append_drop]
  have HD1 : Hid (∀ u ∈ D, u.oneCell' = true) := by intro u hu; rw [hD] at hu; exact fl_one l u (List.mem_of_mem_drop hu)
  rw [← hD] at hDl
  rw [← hX] at hXl
  have HDL := Lib.hid hDl
  have HXL := Lib.hid hXl
  have HFIN : Hid (X ++ x.cs ++ D = fl (insP l i x)) := by show _ = _; rw [fl_ins, hX, hD]
  have HCUT : Hid (w.ownsRow base 44 8 (.slice (some ⟨g, 0, none⟩) i c) i X) := by show World.ownsRow _ _ _ _ _ _ _; rw [hX]; exact own_cut HO.out i (by omega)
  clear hDl hXl hX hD
  have hs26 : (Tryz.prog.info? 44).map (·.size) = some 8 := by obtain ⟨i26, hi, _, hs, _⟩ := info_parts info26; rw [hi]; simp [hs]
  have HS := Lib.hid hs26
  clear hs26
  by_cases hroom : l.length + 1 ≤ c
  · have hcl : ¬ c < l.length + 1 := by omega
    have hci1 : ¬ c = i + 1 := by omega
    obtain ⟨ys, hys, hmore⟩ := own_more HO.out 1 hroom
    obtain ⟨A, hA⟩ : ∃ A, A = fl l ++ ys := ⟨_, rfl⟩
    rw [← hA] at hmore
    have HA : Hid (A = X ++ D ++ ys) := by show _ = _; rw [hA, HE.out]
    have HM := Lib.hid hmore
    have HY := Lib.hid hys
    clear hmore hys hA
    have hov := fun lb cb => run_overlaps73 w vb g lb cb ((i + 1) * 8) c _ x _ base HX.out HV.out HO.out (by omega)
    have hil : i + 1 ≤ l.length + 1 := by omega
    have hil2 : (i : Int) + 1 ≤ (l.length : Int) + 1 := by omega
    have hil3 : (i : Int) ≤ (l.length : Int) + 1 := by omega
    have hin : i ≤ l.length + 1 := by omega
    have hile : i ≤ l.length := by omega
    have q1 : IntKind.i64.wrap ((i : Int) + 1) = (i : Int) + 1 := by rw [IntKind.wrap_i64]; omega
    have q2 : (0 : Int) ≤ (i : Int) + 1 := by omega
    have q3 : ((i : Int) + 1).toNat = i + 1 := by omega
    go_enter Tryz.func104, Tryz.ntmps104
    go_wp2
    go_still_tail 8, (by kernel_rfl)
    clear q1 q2 q3
    go_wp2_with (refine wpl_copy_own rfl (.tmp 73) (.tmp 76) 29 29 rfl base 44 8 44 Tryz.underlying29 HS.out g (l.length + 1) c A HM.out.drew (some ⟨g, (i + 1) * 8, none⟩) (some ⟨g, i * 8, none⟩) _ _ _ _ rfl rfl ((i + 1) * 8) D ?a1 ?a2 ?a3 ?a4 ?_)
    case a1 => have e1 : min (l.length + 1 - i) (l.length - i) = l.length - i := by omega
               rw [HDL.out]; exact congrArg (· * 8) e1.symm
    case a2 =>
      intro _
      refine ⟨g, i * 8, ⟨rfl, rfl⟩, fun j v hv => ?_⟩
      have hj : j < D.length := (List.getElem?_eq_some_iff.1 hv).1
      rw [HDL.out] at hj
      refine (HM.out.cellAt (i * 8 + j) (by omega)).trans ?_
      rw [HA.out, List.append_assoc, List.getElem?_append_right (by rw [HXL.out]; omega), HXL.out, List.getElem?_append_left (by rw [HDL.out]; omega)]
      rw [show i * 8 + j - i * 8 = j by omega]
      exact hv
    case a3 => rw [HDL.out]; omega
    case a4 => exact HD1.out
    intro w1 ho1 hg1
    obtain ⟨A1, hA1⟩ : ∃ A1, A1 = List.take (i * 8 + 8) A ++ D ++ List.drop (i * 8 + 8 + D.length) A := ⟨_, rfl⟩
    have HO1 : Hid (w1.ownsRow base 44 8 (.slice (some ⟨g, 0, none⟩) (l.length + 1) c) (l.length + 1) A1) := by
      show World.ownsRow _ _ _ _ _ _ _
      rw [hA1, show i * 8 + 8 = (i + 1) * 8 by omega]
      simpa [List.append_assoc] using ho1
    have HA1 := Lib.hid hA1
    have HG1 : Hid (w.grownBy w1 (some g)) := gtrans (gdrew (World.grownBy.refl w (some g))) hg1
    clear ho1 hg1 hA1
    have HVX : Hid (w1.heap[vb]? = some (.cells x.cs.toArray 44 (0, 0))) := (HG1.out.block vb hvlt (by intro e; exact HV.out (by simpa using e))).trans HX.out
    go_wp2_with (refine wpl_copy_own rfl (.tmp 80) (.tmp 81) 29 29 rfl base 44 8 44 Tryz.underlying29 HS.out g (l.length + 1) c A1 HO1.out (some ⟨g, i * 8, none⟩) (some ⟨vb, 0, none⟩) _ _ _ _ rfl rfl (i * 8) x.cs ?b1 ?b2 ?b3 ?b4 ?_)
    case b1 => have e1 : min 1 (l.length + 1 - i) = 1 := by omega
               exact congrArg (· * 8) e1.symm
    case b2 =>
      intro _
      refine ⟨vb, 0, ⟨rfl, rfl⟩, fun j v hv => ?_⟩
      rw [cell_of_row w1 vb _ _ 44 (0, 0) HVX.out, Nat.zero_add]
      simpa using hv
    case b3 => show i * 8 + 8 ≤ _; omega
    case b4 => exact fun u hu => fl_one [x] u (by simpa [fl] using hu)
    intro w3 ho3 hg3
    have HF : Hid (OwS w3 base (.slice (some ⟨g, 0, none⟩) (l.length + 1) c) (insP l i x)) := by
      show World.ownsRow _ _ _ _ _ _ _
      rw [insP_len l i x (by omega), ← HFIN.out, ← ins_room (ys := ys) HXL.out rfl rfl HY.out, ← HA.out, ← HA1.out]
      simpa [List.append_assoc, SpanV.cs_len] using ho3
    have HG3 : Hid (w.grownBy w3 (some g)) := gtrans HG1.out hg3
    clear ho3 hg3
    go_wp2
    go_ret
    exact ⟨_, rfl, HF.out, HG3.out⟩
  · obtain ⟨m, hm⟩ : ∃ m : Nat, m = l.length + 1 - i := ⟨_, rfl⟩
    have hme : (l.length : Int) + 1 - (i : Int) = (m : Int) := by omega
    obtain ⟨cap', w2, hrun, hown2, hb2⟩ := run_append_zeros_grow (P := Tryz.prog) 29 3 29 _ 96 Tryz.underlying29 Tryz.underlying3 info26 rfl (by omega) (by omega) HCUT.out .i64 m (by omega) (by omega) (by omega) hbase
    have HR := Lib.hid hrun
    have HM := Lib.hid hm
    have hmp : 0 < m := by omega
    have hcap : i + m ≤ cap' := by obtain ⟨_, _, e, h, _⟩ := own_shape hown2; simp only [Value.slice.injEq] at e; omega
    obtain ⟨Z, hZ⟩ : ∃ Z, Z = (Builtin.zeroCells (Value.agg #[.int .i64 0, .int .i64 0, .int .i64 0, .int .i64 0, .slice none 0 0, .int .i64 0, .slice none 0 0, .bool false]).cells m).toList := ⟨_, rfl⟩
    have hZl : Z.length = m * 8 := by rw [hZ, Array.length_toList, size_zeroCells]; rfl
    rw [← hZ] at hown2
    obtain ⟨B, hB⟩ : ∃ B, B = X ++ Z := ⟨_, rfl⟩
    rw [← hB] at hown2
    have H2 := Lib.hid hown2
    have HB := Lib.hid hB
    have HZ := Lib.hid hZl
    have hc1 : ¬ cap' = i := by omega
    have hc2 : ¬ cap' = i + 1 := by omega
    have hgw : g < w.heap.size := (Array.getElem?_eq_some_iff.1 HG.out).1
    have HVR : Hid (w2.heap[vb]? = some (.cells x.cs.toArray 44 (0, 0))) := (hb2.block vb hvlt).trans HX.out
    have HGR : Hid (w2.ownsRow base 44 8 (.slice (some ⟨g, 0, none⟩) l.length c) l.length (X ++ D)) := by
      show World.ownsRow _ _ _ _ _ _ _
      rw [← HE.out]
      exact own_below HO.out hb2
    clear hm hrun hown2 hB hZ hZl
    have hci1 : ¬ c = i ∧ i ≤ c := by omega
    have q1 : IntKind.i64.wrap ((i : Int) + 1) = (i : Int) + 1 := by rw [IntKind.wrap_i64]; omega
    have q2 : (0 : Int) ≤ (i : Int) + 1 := by omega
    have q3 : ((i : Int) + 1).toNat = i + 1 := by omega
    have q4 : (i : Int) + 1 ≤ (i : Int) + (m : Int) := by omega
    have q5 : i ≤ l.length := by omega
    have Q := Lib.hid (And.intro q1 (And.intro q2 (And.intro q3 q4)))
    clear q1 q2 q3 q4
    go_enter Tryz.func104, Tryz.ntmps104
    go_wp2_with (first
      | refine Lib.wpList_append_run w rfl (.tmp 34) (.tmp 39) 29 3 rfl _ _ rfl rfl _ w2 HR.out ?_
      | refine wpl_copy_own rfl (.tmp 43) (.tmp 44) 29 29 rfl base 44 8 44 Tryz.underlying29 HS.out w.heap.size (i + m) cap' B H2.out (some ⟨w.heap.size, i * 8, none⟩) (some ⟨vb, 0, none⟩) _ _ _ _ rfl rfl (i * 8) x.cs ?a1 ?a2 ?a3 ?a4 ?_)
    case a1 => have e1 : min 1 m = 1 := by omega
               exact congrArg (· * 8) e1.symm
    case a2 =>
      intro _
      refine ⟨vb, 0, ⟨rfl, rfl⟩, fun j v hv => ?_⟩
      rw [cell_of_row w2 vb _ _ 44 (0, 0) HVR.out, Nat.zero_add]
      simpa using hv
    case a3 => show i * 8 + 8 ≤ _; omega
    case a4 => exact fun u hu => fl_one [x] u (by simpa [fl] using hu)
    intro w3 ho3 hg3
    obtain ⟨B1, hB1⟩ : ∃ B1, B1 = List.take (i * 8) B ++ x.cs ++ List.drop (i * 8 + 8) B := ⟨_, rfl⟩
    have HO3 : Hid (w3.ownsRow base 44 8 (.slice (some ⟨w.heap.size, 0, none⟩) (i + m) cap') (i + m) B1) := by
      show World.ownsRow _ _ _ _ _ _ _
      rw [hB1]
      simpa [List.append_assoc, SpanV.cs_len] using ho3
    have HB1 := Lib.hid hB1
    have HG3 := Lib.hid hg3
    have HGR3 : Hid (w3.drew.ownsRow base 44 8 (.slice (some ⟨g, 0, none⟩) l.length c) l.length (X ++ D)) := (HGR.out.kept hg3 (.inr (by simp [Value.ownBlock]; omega))).drew
    clear ho3 hg3 hB1
    go_wp2
    obtain ⟨q1, q2, q3, q4⟩ := Q.out
    go_still_tail 8, (by kernel_rfl)
    clear q1 q2 q3 q4 Q
    go_wp2_with (refine wpl_copy_own rfl (.tmp 50) (.tmp 53) 29 29 rfl base 44 8 44 Tryz.underlying29 HS.out w.heap.size (i + m) cap' B1 HO3.out.drew (some ⟨w.heap.size, (i + 1) * 8, none⟩) (some ⟨g, i * 8, none⟩) _ _ _ _ rfl rfl ((i + 1) * 8) D ?b1 ?b2 ?b3 ?b4 ?_)
    case b1 =>
      have hm := HM.out
      have e1 : min (l.length - i) (i + m - (i + 1)) = l.length - i := by omega
      rw [HDL.out]
      exact congrArg (· * 8) e1.symm
    case b2 =>
      intro _
      refine ⟨g, i * 8, ⟨rfl, rfl⟩, fun j v hv => ?_⟩
      have hj : j < D.length := (List.getElem?_eq_some_iff.1 hv).1
      rw [HDL.out] at hj
      refine (HGR3.out.cellAt (i * 8 + j) (by omega)).trans ?_
      rw [List.getElem?_append_right (by rw [HXL.out]; omega), HXL.out]
      rw [show i * 8 + j - i * 8 = j by omega]
      exact hv
    case b3 => have hm := HM.out; rw [HDL.out]; omega
    case b4 => exact HD1.out
    intro w4 ho4 hg4
    have HF : Hid (OwS w4 base (.slice (some ⟨w.heap.size, 0, none⟩) (i + m) cap') (insP l i x)) := by
      show World.ownsRow _ _ _ _ _ _ _
      have hm := HM.out
      rw [insP_len l i x (by omega), ← HFIN.out, ← ins_grow (Z := Z) (D := D) (xc := x.cs) HXL.out rfl rfl (by rw [HZ.out, HDL.out]; omega), ← HB.out, ← HB1.out]
      rw [show l.length + 1 = i + m by omega, show i * 8 + 8 = (i + 1) * 8 by omega]
      simpa [List.append_assoc] using ho4
    have HG4 : Hid (w.grownBy w4 (some g)) := by
      have h1 : Below w.heap.size w w4 := (bgrown (bgrown hb2 HG3.out (fun k e => by simp at e; omega)).drew hg4 (fun k e => by simp at e; omega))
      exact gbelow h1 _
    clear ho4 hg4
    go_wp2
    go_ret
    exact ⟨_, rfl, HF.out, HG4.out⟩

end Go.Proofs.YtieijfefnedifaaGreatDoor
