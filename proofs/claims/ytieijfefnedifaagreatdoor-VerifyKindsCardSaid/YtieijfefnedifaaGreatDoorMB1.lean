/- Out of the texts of spans: W0 S1 S2 S3 S4 S5 S6 S7 S8 S9. -/
import Derived.WalkKit
import Derived.WalkSpells
import Derived.KernelRfl
import Derived.Deep.LoopGhost
import Derived.Deep.QuietTactic
import Derived.BigQuiet
import Derived.Laws.Rows
import Derived.Laws.IdiomCopy
import Derived.StillTailTactics
import Derived.WalkSmall
import Derived.Lib.Hide
import Derived.OwnWalk
import Derived.Laws.OwnMore
import Derived.Deep.RegionWith
import Derived.Deep.RegionHeld3
import Derived.Deep.DeepCutAuto
import Derived.Deep.CutBlock
import Derived.Outline
import Derived.Lib.AppendZeros
import Derived.Lib.Overlaps
import Derived.Laws.Externs
import Derived.Laws.EntriesVeiled
import Derived.Test.YtieijfefnedifaaGreatDoorProg
import Derived.Handy
import Derived.Deep.RegionLaw
namespace Go.Proofs.YtieijfefnedifaaGreatDoor
open Go.RowKit
set_option linter.unusedVariables false
set_option linter.unusedSimpArgs false

/-! ### The world -/
theorem bthen {w w1 w2 : World} (h : Below w.heap.size w w1) (k : Below w1.heap.size w1 w2) : Below w.heap.size w w2 :=
  h.trans ⟨k.os, k.tape, k.output, k.size, fun i hi => k.block i (Nat.lt_of_lt_of_le hi h.size)⟩
theorem bthenB {B : Nat} {w w1 w2 : World} (h : Below B w w1) (hB : B ≤ w1.heap.size) (k : Below w1.heap.size w1 w2) : Below B w w2 :=
  h.trans ⟨k.os, k.tape, k.output, k.size, fun i hi => k.block i (Nat.lt_of_lt_of_le hi hB)⟩
theorem balloc {w W : World} (h : Below w.heap.size w W) (o : Obj) : Below w.heap.size w (W.alloc o) := h.alloc h.size o
theorem bset {w W : World} (h : Below w.heap.size w W) {p : Addr} (hp : w.heap.size ≤ p.block) (u : Value) : Below w.heap.size w (W.setCell p u) := h.setCell hp u
theorem bgrown {w W W' : World} {row : Option Nat} (h : Below w.heap.size w W) (hg : W.grownBy W' row) (hr : ∀ k, row = some k → w.heap.size ≤ k) : Below w.heap.size w W' := h.grown hg h.size hr
theorem bdrewN {B : Nat} {w W : World} (h : Below B w W) (n : Nat) : Below B w (W.drewN n) := ⟨h.os, h.tape, h.output, h.size, h.block⟩

/-- What a call hands back, and what it leaves. -/
def Ret (v : Value) (w : World) (e : Ending) (w' : World) : Prop := e = .returned v ∧ Below w.heap.size w w'

/-! ### A region that draws its order: what it does is told once, in the order of the text, in whatever world lies above -/
theorem region_up {P : Program} {id : Nat} {Q : Exit → Act → World → Prop} {a : Act} {w : World} {l : List Oper} (hm : P.follows .mixedOrders = true) (hB : Region.lexB .any l.toArray = true)
    (h : wpQuiet P l.toArray (fun w' => Below w.heap.size w w') (fun a' => ∀ w', Below w.heap.size w w' → Q .normal a' w') l a) : (Code.region id l.toArray true).wp P Q a w :=
  wp_region_quiet (C := fun w' => Below w.heap.size w w') hm hB ⟨rfl, rfl, rfl, Nat.le_refl _, fun _ _ => rfl⟩ (by simpa using h)
theorem call_up {P : Program} {f : FuncId} {args : Array Value} {w W : World} {v : Value} (hW : Below w.heap.size w W) (h : Calls P f args W (Ret v W)) :
    Calls P f args W (fun e w'' => e = .returned v ∧ Below w.heap.size w w'') := h.mono fun _ _ ⟨h1, h2⟩ => ⟨h1, bthen hW h2⟩

/-! ### A slice that reads as a row of cells -/
def Rd (w : World) (sz : Nat) (A : Option Addr) (n : Nat) (xs : List Value) : Prop :=
  xs.length = n * sz ∧ n ≤ 9223372036854775807 ∧
  (0 < n → ∃ b o, A = some ⟨b, o, none⟩ ∧ b < w.heap.size ∧ ∀ j v, xs[j]? = some v → w.cell? ⟨b, o + j, none⟩ = some v)

theorem Rd.below {w w1 : World} {sz n : Nat} {A : Option Addr} {xs : List Value} (h : Rd w sz A n xs) (hb : Below w.heap.size w w1) : Rd w1 sz A n xs :=
  ⟨h.1, h.2.1, fun hn => by
    obtain ⟨b, o, e, hlt, hc⟩ := h.2.2 hn
    exact ⟨b, o, e, Nat.lt_of_lt_of_le hlt hb.size, fun j v hv => (hb.cell (p := ⟨b, o + j, none⟩) hlt).trans (hc j v hv)⟩⟩
theorem Rd.nil_ (w : World) (sz : Nat) (A : Option Addr) : Rd w sz A 0 [] := ⟨by simp, by omega, fun h => absurd h (by omega)⟩
/-- A prefix. -/
theorem Rd.take_ {w : World} {sz n : Nat} {A : Option Addr} {xs : List Value} (h : Rd w sz A n xs) (k : Nat) (hk : k ≤ n) : Rd w sz A k (xs.take (k * sz)) :=
  ⟨by rw [List.length_take, h.1]; exact Nat.min_eq_left (Nat.mul_le_mul_right _ hk), by have := h.2.1; omega, fun hn => by
    obtain ⟨b, o, e, hlt, hc⟩ := h.2.2 (by omega)
    refine ⟨b, o, e, hlt, fun j v hv => hc j v ?_⟩
    rw [List.getElem?_take] at hv
    split at hv
    · exact hv
    · cases hv⟩
theorem addOff (g o j : Nat) : (⟨g, o, none⟩ : Addr).add j = ⟨g, o + j, none⟩ := by unfold Addr.add; split <;> simp_all

theorem flat_len {α : Type} (f : α → List Value) (sz : Nat) (hf : ∀ x, (f x).length = sz) (l : List α) : (l.flatMap f).length = l.length * sz := by
  induction l with
  | nil => simp
  | cons x l ih => simp only [List.flatMap_cons, List.length_append, hf, ih, List.length_cons, Nat.add_mul]; omega
theorem flat_get {α : Type} (f : α → List Value) (sz : Nat) (hf : ∀ x, (f x).length = sz) : ∀ (l : List α) (i j : Nat), j < sz → (l.flatMap f)[i * sz + j]? = (l[i]?).bind fun x => (f x)[j]? := by
  intro l
  induction l with
  | nil => intro i j _; simp
  | cons x l ih =>
    intro i j hj
    rw [List.flatMap_cons]
    cases i with
    | zero =>
      rw [List.getElem?_append_left (by rw [hf]; omega)]
      simp
    | succ i =>
      rw [List.getElem?_append_right (by rw [hf, Nat.add_mul]; omega), hf, Nat.add_mul]
      have : i * sz + 1 * sz + j - sz = i * sz + j := by omega
      rw [this, ih i j hj]
      simp
theorem flat_take {α : Type} (f : α → List Value) (sz : Nat) (hf : ∀ x, (f x).length = sz) : ∀ (l : List α) (k : Nat), (l.take k).flatMap f = (l.flatMap f).take (k * sz) := by
  intro l
  induction l with
  | nil => intro k; simp
  | cons x l ih =>
    intro k
    cases k with
    | zero => simp
    | succ k =>
      rw [List.take_succ_cons, List.flatMap_cons, List.flatMap_cons, ih, List.take_append, hf, Nat.add_mul]
      rw [List.take_of_length_le (l := f x) (by rw [hf]; omega)]
      congr 2
      omega
theorem flat_drop {α : Type} (f : α → List Value) (sz : Nat) (hf : ∀ x, (f x).length = sz) : ∀ (l : List α) (k : Nat), (l.drop k).flatMap f = (l.flatMap f).drop (k * sz) := by
  intro l
  induction l with
  | nil => intro k; simp
  | cons x l ih =>
    intro k
    cases k with
    | zero => simp
    | succ k =>
      rw [List.drop_succ_cons, List.flatMap_cons, ih, List.drop_append, hf, Nat.add_mul]
      rw [List.drop_of_length_le (l := f x) (by rw [hf]; omega), List.nil_append]
      congr 1
      omega

/-! ### A row of the call's own -/
theorem own_shape {w : World} {base n : Nat} {e : TypeId} {size : Nat} {v : Value} {xs : List Value} (h : w.ownsRow base e size v n xs) : ∃ A c, v = .slice A n c ∧ n ≤ c ∧ c ≤ maxLen := by
  rcases h.2 with ⟨rfl, rfl⟩ | ⟨g, cap, cur, rfl, _, _, h1, h2, _⟩
  · exact ⟨none, 0, rfl, Nat.le_refl _, by simp [maxLen]⟩
  · exact ⟨_, cap, rfl, h1, h2⟩
theorem own_lt_ {w : World} {base n : Nat} {e : TypeId} {size : Nat} {v : Value} {xs : List Value} (h : w.ownsRow base e size v n xs) (k : Nat) (hk : v.ownBlock = some k) : base ≤ k ∧ k < w.heap.size := h.lt k hk
theorem own_rd {w : World} {base n : Nat} {e : TypeId} {size : Nat} {A : Option Addr} {c : Nat} {xs : List Value} (h : w.ownsRow base e size (.slice A n c) n xs) : Rd w size A n xs := by
  refine ⟨h.1, ?_, fun hn => ?_⟩
  · rcases h.2 with ⟨_, h1⟩ | ⟨g', cap', cur, he, _, _, h1, h2, _⟩
    · omega
    · simp only [maxLen] at h2; omega
  · rcases h.2 with ⟨_, h1⟩ | ⟨g, cap, cur, he, hb, hh, _⟩
    · omega
    · simp only [Value.slice.injEq] at he
      obtain ⟨rfl, _, rfl⟩ := he
      refine ⟨g, 0, rfl, (Array.getElem?_eq_some_iff.1 hh).1, fun j v hv => ?_⟩
      have := h.cells (g := g) rfl j v hv
      rw [addOff] at this
      exact this
theorem own_below {w w1 : World} {base n : Nat} {e : TypeId} {size : Nat} {v : Value} {xs : List Value} (h : w.ownsRow base e size v n xs) (hb : Below w.heap.size w w1) : w1.ownsRow base e size v n xs := by
  refine ⟨h.1, ?_⟩
  rcases h.2 with hn | ⟨g, cap, cur, rfl, hg, hh, r⟩
  · exact .inl hn
  · exact .inr ⟨g, cap, cur, rfl, hg, (hb.block g (Array.getElem?_eq_some_iff.1 hh).1).trans hh, r⟩
theorem own_mono {w : World} {base base' n : Nat} {e : TypeId} {size : Nat} {v : Value} {xs : List Value} (h : w.ownsRow base e size v n xs) (hb : base' ≤ base) : w.ownsRow base' e size v n xs :=
  ⟨h.1, h.2.imp id fun ⟨g, cap, cur, h0, h1, r⟩ => ⟨g, cap, cur, h0, Nat.le_trans hb h1, r⟩⟩

/-! ### append onto a row of the call's own, whatever is appended: nil, empty or not -/
theorem run_append_nil_ {P : Program} (w : World) (base : Nat) (t ty e : TypeId) (i : TypeInfo) (size : Nat) (ht : P.underlying t = some (.slice e)) (hi : P.info? e = some i)
    (v : Value) (n : Nat) (xs : List Value) (hown : w.ownsRow base e size v n xs) (c : Nat) : (Builtin.append_ #[t, t] ty #[v, .slice none 0 c]).run P w = .ok v w := by
  rcases hown.2 with ⟨rfl, rfl⟩ | ⟨g, cap, cur, rfl, _, _, hnc, _⟩
  · simp [Builtin.append_, run_underlying ht, sizeOf, typeInfo, hi, Builtin.lenOf, Builtin.firstCells]
  · simp [Builtin.append_, run_underlying ht, sizeOf, typeInfo, hi, Builtin.lenOf, Builtin.firstCells, hnc, storeCells]

theorem run_append_rd {P : Program} (w : World) (base : Nat) (t ty e : TypeId) (z : Value) (size bytes : Nat) (ht : P.underlying t = some (.slice e))
    (hinfo : (P.info? e).map (fun i => (i.zero, i.size, i.bytes)) = some (some z, size, bytes)) (hzs : z.cells.size = size) (hsz : 0 < size)
    (v : Value) (n : Nat) (xs : List Value) (hown : w.ownsRow base e size v n xs)
    (A : Option Addr) (m c : Nat) (news : List Value) (hr : Rd w size A m news) (h1 : ∀ u ∈ news, u.oneCell' = true)
    (hbytes : (n + m) * bytes ≤ 140737488355328) (hby : 0 < bytes) (hbase : base ≤ w.heap.size) :
    ∃ v' w', (Builtin.append_ #[t, t] ty #[v, .slice A m c]).run P w = .ok v' w' ∧ w'.ownsRow base e size v' (n + m) (xs ++ news) ∧ w.grownBy w' v.ownBlock := by
  obtain ⟨i, hi, hz0, hz1, hz2⟩ := info_parts hinfo
  have h63 : n + m ≤ maxLen := by
    have : n + m ≤ (n + m) * bytes := Nat.le_mul_of_pos_right _ hby
    simp only [maxLen]
    omega
  rcases Nat.eq_zero_or_pos m with rfl | hm
  · have hn : news = [] := List.eq_nil_of_length_eq_zero (by simpa using hr.1)
    subst hn
    cases A with
    | none => exact ⟨v, w, run_append_nil_ w base t ty e i size ht hi v n xs hown c, by simpa using hown, World.grownBy.refl w _⟩
    | some ad =>
      obtain ⟨v', w', h2, h3, h4, _⟩ := run_append_own (P := P) w base t ty e i z size bytes ht hi hz0 hz1 hz2 hzs hsz v n xs hown ad 0 c [] (by simp) (by simp) (by simp) h63 hbytes hbase
      exact ⟨v', w', h2, h3, h4⟩
  · obtain ⟨b, o, rfl, hb, hc⟩ := hr.2.2 hm
    obtain ⟨v', w', h2, h3, h4, _⟩ := run_append_own (P := P) w base t ty e i z size bytes ht hi hz0 hz1 hz2 hzs hsz v n xs hown ⟨b, o, none⟩ m c news hr.1
      (fun j u hu => by rw [addOff]; exact hc j u hu) h1 h63 hbytes hbase
    exact ⟨v', w', h2, h3, h4⟩

theorem wpl_append_rd {P : Program} {ops : Array Oper} {rest : List Oper} {o : Oper} {a : Act} {w : World} {Q : Exit → Act → World → Prop} (hgd : o.guard = none) (s x : Operand) (t : TypeId)
    (ho : o.op = .call { callee := .builtin .append, args := #[s, x], argTypes := #[t, t] })
    (base : Nat) (e : TypeId) (z : Value) (size bytes : Nat) (ht : P.underlying t = some (.slice e)) (hinfo : (P.info? e).map (fun i => (i.zero, i.size, i.bytes)) = some (some z, size, bytes)) (hzs : z.cells.size = size) (hsz : 0 < size)
    (v : Value) (n : Nat) (xs : List Value) (hs : a.eval s = v) (hown : w.ownsRow base e size v n xs)
    (A : Option Addr) (m c : Nat) (news : List Value) (hx : a.eval x = .slice A m c) (hr : Rd w size A m news) (h1 : ∀ u ∈ news, u.oneCell' = true)
    (hbytes : (n + m) * bytes ≤ 140737488355328) (hby : 0 < bytes) (hbase : base ≤ w.heap.size)
    (h : ∀ v' w', w'.ownsRow base e size v' (n + m) (xs ++ news) → w.grownBy w' v.ownBlock → wpList P ops Q rest (a.put o.dst v') w') : wpList P ops Q (o :: rest) a w := by
  refine wpList_plain hgd fun K hK => ?_
  obtain ⟨v', w', hr', h2, h3⟩ := run_append_rd (P := P) w base t o.type e z size bytes ht hinfo hzs hsz v n xs hown A m c news hr h1 hbytes hby hbase
  unfold Oper.wp execOp
  simp only [ho, resolve, invoke, builtin, Sem.run_bind, Sem.run_pure, Result.andThen_ok, List.map_toArray, List.map_cons, List.map_nil, hs, hx, hr']
  exact hK _ _ (h v' w' h2 h3)

/-! ### What is written into a row of the call's own -/
section
variable {P : Program} {w : World} {base : Nat} {e : TypeId} {size g n cap : Nat} {xs : List Value}
theorem own_put (h : w.ownsRow base e size (.slice (some ⟨g, 0, none⟩) n cap) n xs) (k : Nat) (news : List Value) (hk : k + news.length ≤ n * size) (h1 : ∀ u ∈ news, u.oneCell' = true) :
    ∃ w', (storeCells ⟨g, k, none⟩ news).run P w = .ok () w' ∧ w'.ownsRow base e size (.slice (some ⟨g, 0, none⟩) n cap) n (xs.take k ++ news ++ xs.drop (k + news.length)) ∧ w.grownBy w' (some g) := by
  rcases h.2 with ⟨h', _⟩ | ⟨g', cap', cur, h', hb, hg, hnc, hcm, hcs, htake⟩
  · simp at h'
  · simp only [Value.slice.injEq, Option.some.injEq, Addr.mk.injEq, and_true, true_and] at h'
    obtain ⟨rfl, rfl⟩ := h'
    have hle : n * size ≤ cap * size := Nat.mul_le_mul_right _ hnc
    have hst := run_storeCells_at P g k e news 0 cur w hg (by omega) h1
    simp only [Nat.add_zero] at hst
    have hxl : xs.length = n * size := h.1
    refine ⟨_, hst, ⟨?_, .inr ⟨g, cap, _, rfl, hb, setRow_heap w g cur _ e _ hg, hnc, hcm, ?_, ?_⟩⟩, ⟨rfl, rfl, rfl, by simp, fun j _ hj => setRow_other w g j _ (fun e => hj (by simp [e]))⟩⟩
    · simp only [List.length_append, List.length_take, List.length_drop]
      omega
    · simp only [List.size_toArray, List.length_append, List.length_take, List.length_drop, Array.length_toList]
      omega
    · have hct : cur.toList.length = cap * size := by rw [Array.length_toList, hcs]
      rw [← htake]
      apply List.ext_getElem?
      intro j
      simp only [List.getElem?_take, List.getElem?_append, List.getElem?_drop, List.length_take, List.length_append]
      have e1 : min k cur.toList.length = k := by omega
      have e2 : min k (min (n * size) cur.toList.length) = k := by omega
      simp only [e1, e2]
      by_cases h2 : j < n * size
      · by_cases h3 : j < k
        · simp [h2, h3]
          rw [if_pos (by omega), if_pos (by omega)]
        · by_cases h4 : j < k + news.length
          · simp [h2, h3, h4]
          · simp [h2, h3, h4]
            intro _
            omega
      · have h3 : ¬ j < k + news.length := by omega
        simp [h2, h3]
        intro _
        omega

theorem own_cut (h : w.ownsRow base e size (.slice (some ⟨g, 0, none⟩) n cap) n xs) (k : Nat) (hk : k ≤ n) : w.ownsRow base e size (.slice (some ⟨g, 0, none⟩) k cap) k (xs.take (k * size)) := by
  rcases h.2 with ⟨h', _⟩ | ⟨g', cap', cur, h', hb, hg, hnc, hcm, hcs, htake⟩
  · simp at h'
  · simp only [Value.slice.injEq, Option.some.injEq, Addr.mk.injEq, and_true, true_and] at h'
    obtain ⟨rfl, rfl⟩ := h'
    have hle : k * size ≤ n * size := Nat.mul_le_mul_right _ hk
    refine ⟨by rw [List.length_take, h.1]; omega, .inr ⟨g, cap, cur, rfl, hb, hg, by omega, hcm, hcs, ?_⟩⟩
    rw [← htake, List.take_take, Nat.min_eq_left hle]

theorem run_storeAt_own (t : TypeId) (i : TypeInfo) (hi : P.info? t = some i) (hsz : i.size = size) (h : w.ownsRow base e size (.slice (some ⟨g, 0, none⟩) n cap) n xs) (k : Nat) (V : Value)
    (hV : V.cells.size = size) (hk : k + size ≤ n * size) (h1 : ∀ u ∈ V.cells.toList, u.oneCell' = true) :
    ∃ w', (Instr.storeAt t (.pointer (some ⟨g, k, none⟩)) V).run P w = .ok () w' ∧
      w'.ownsRow base e size (.slice (some ⟨g, 0, none⟩) n cap) n (xs.take k ++ V.cells.toList ++ xs.drop (k + size)) ∧ w.grownBy w' (some g) := by
  have hl : V.cells.toList.length = size := by simpa using hV
  obtain ⟨w', h2, h3, h4⟩ := own_put (P := P) h k V.cells.toList (by omega) h1
  rw [hl] at h3
  refine ⟨w', ?_, h3, h4⟩
  simp [Instr.storeAt, Instr.sureAddr, asAddr, storeVar, sizeOf, typeInfo, hi, hsz, hV, h2]

theorem wpl_store_own {ops : Array Oper} {rest : List Oper} {o : Oper} {a : Act} {Q : Exit → Act → World → Prop} (hgd : o.guard = none) (t : TypeId) (p x : Operand) (ho : o.op = .store t p x)
    (base : Nat) (e : TypeId) (size : Nat) (i : TypeInfo) (hi : P.info? t = some i) (hsz : i.size = size)
    (g n cap : Nat) (xs : List Value) (h : w.ownsRow base e size (.slice (some ⟨g, 0, none⟩) n cap) n xs) (k : Nat) (hp : a.eval p = .pointer (some ⟨g, k, none⟩)) (V : Value) (hx : a.eval x = V)
    (hV : V.cells.size = size) (hk : k + size ≤ n * size) (h1 : ∀ u ∈ V.cells.toList, u.oneCell' = true)
    (hK : ∀ w', w'.ownsRow base e size (.slice (some ⟨g, 0, none⟩) n cap) n (xs.take k ++ V.cells.toList ++ xs.drop (k + size)) → w.grownBy w' (some g) → wpList P ops Q rest (a.put o.dst undef) w') :
    wpList P ops Q (o :: rest) a w := by
  refine wpList_plain hgd fun K hK' => ?_
  obtain ⟨w', hr, h2, h3⟩ := run_storeAt_own (P := P) t i hi hsz h k V hV hk h1
  unfold Oper.wp execOp
  simp only [ho, hp, hx, Sem.run_bind, Sem.run_pure, Result.andThen_ok, hr]
  exact hK' _ _ (hK w' h2 h3)

/-- 'clear(s[k:k+m])' -/
theorem run_clear_own (t ty : TypeId) (z : Value) (ht : P.underlying t = some (.slice e)) (hz : ∀ w, (zeroValue e).run P w = .ok z w) (hzs : z.cells.size = size) (hz1 : ∀ u ∈ z.cells.toList, u.oneCell' = true)
    (h : w.ownsRow base e size (.slice (some ⟨g, 0, none⟩) n cap) n xs) (A : Option Addr) (k m c : Nat) (hA : 0 < m → A = some ⟨g, k * size, none⟩) (hk : k + m ≤ n) :
    ∃ w' zs, (Builtin.clear_ #[t] ty #[.slice A m c]).run P w = .ok (.tuple #[]) w' ∧ zs.length = m * size ∧
      w'.ownsRow base e size (.slice (some ⟨g, 0, none⟩) n cap) n (xs.take (k * size) ++ zs ++ xs.drop ((k + m) * size)) ∧ w.grownBy w' (some g) := by
  rcases Nat.eq_zero_or_pos m with rfl | hm
  · refine ⟨w, [], ?_, by simp, by simpa using h, World.grownBy.refl w _⟩
    cases A <;> simp [Builtin.clear_, run_underlying ht]
  · obtain rfl := hA hm
    have hzl : (Builtin.zeroCells z.cells m).toList.length = m * size := by rw [Array.length_toList, size_zeroCells, hzs]
    have hin : k * size + m * size ≤ n * size := by rw [← Nat.add_mul]; exact Nat.mul_le_mul_right _ hk
    obtain ⟨w', h2, h3, h4⟩ := own_put (P := P) h (k * size) (Builtin.zeroCells z.cells m).toList (by omega) (fun u hu => by
      have hu' : u ∈ Builtin.zeroCells z.cells m := by simpa using hu
      unfold Builtin.zeroCells at hu'
      rw [Array.mem_map] at hu'
      obtain ⟨j, hj, rfl⟩ := hu'
      have hpos : 0 < z.cells.size := by
        rcases Nat.eq_zero_or_pos z.cells.size with h0 | h0
        · rw [h0] at hj; simp at hj
        · exact h0
      have hlt : j % z.cells.size < z.cells.size := Nat.mod_lt _ hpos
      rw [getElem!_pos z.cells _ hlt]
      exact hz1 _ (by simp))
    rw [hzl, ← Nat.add_mul] at h3
    refine ⟨w', _, ?_, hzl, h3, h4⟩
    obtain ⟨m', rfl⟩ : ∃ m', m = m' + 1 := ⟨m - 1, by omega⟩
    simp [Builtin.clear_, run_underlying ht, hz, h2]
end

theorem wpl_clear_own {P : Program} {w : World} {ops : Array Oper} {rest : List Oper} {o : Oper} {a : Act} {Q : Exit → Act → World → Prop} (hgd : o.guard = none) (x : Operand) (t : TypeId)
    (ho : o.op = .call { callee := .builtin .clear, args := #[x], argTypes := #[t] })
    (base : Nat) (e : TypeId) (size : Nat) (z : Value) (ht : P.underlying t = some (.slice e)) (hz : ∀ w, (zeroValue e).run P w = .ok z w) (hzs : z.cells.size = size) (hz1 : ∀ u ∈ z.cells.toList, u.oneCell' = true)
    (g n cap : Nat) (xs : List Value) (h : w.ownsRow base e size (.slice (some ⟨g, 0, none⟩) n cap) n xs) (A : Option Addr) (k m c : Nat) (hx : a.eval x = .slice A m c) (hA : 0 < m → A = some ⟨g, k * size, none⟩) (hk : k + m ≤ n)
    (hK : ∀ w' zs, zs.length = m * size → w'.ownsRow base e size (.slice (some ⟨g, 0, none⟩) n cap) n (xs.take (k * size) ++ zs ++ xs.drop ((k + m) * size)) → w.grownBy w' (some g) → wpList P ops Q rest (a.put o.dst (.tuple #[])) w') :
    wpList P ops Q (o :: rest) a w := by
  refine wpList_plain hgd fun K hK' => ?_
  obtain ⟨w', zs, hr, h1, h2, h3⟩ := run_clear_own (P := P) t o.type z ht hz hzs hz1 h A k m c hA hk
  unfold Oper.wp execOp
  simp only [ho, resolve, invoke, builtin, Sem.run_bind, Sem.run_pure, Result.andThen_ok, List.map_toArray, List.map_cons, List.map_nil, hx, hr]
  exact hK' _ _ (hK w' zs h1 h2 h3)

theorem gtrans {w w1 w2 : World} {r : Option Nat} (h : w.grownBy w1 r) (k : w1.grownBy w2 r) : w.grownBy w2 r :=
  ⟨k.os.trans h.os, k.tape.trans h.tape, k.output.trans h.output, Nat.le_trans h.size k.size, fun i hi hr => (k.block i (Nat.lt_of_lt_of_le hi h.size) hr).trans (h.block i hi hr)⟩
theorem gbelow {w w1 : World} (h : Below w.heap.size w w1) (r : Option Nat) : w.grownBy w1 r := ⟨h.os, h.tape, h.output, h.size, fun i hi _ => h.block i hi⟩
theorem gdrew {w w1 : World} {r : Option Nat} (h : w.grownBy w1 r) : w.grownBy w1.drew r := ⟨h.os, h.tape, h.output, h.size, h.block⟩
theorem gcell {w w1 : World} {r : Option Nat} (h : w.grownBy w1 r) {a : Addr} {v : Value} (hc : w.cell? a = some v) (hr : some a.block ≠ r) : w1.cell? a = some v := h.cell hc hr


/-! ### Words -/
def us (l : List Int) : List Value := l.map (fun x => .int .u64 x)
theorem us_len (l : List Int) : (us l).length = l.length := by simp [us]
theorem us_one (l : List Int) : ∀ u ∈ us l, u.oneCell' = true := by
  intro u hu
  simp only [us, List.mem_map] at hu
  obtain ⟨x, _, rfl⟩ := hu
  rfl
theorem us_get (l : List Int) (i : Nat) (x : Int) (h : l[i]? = some x) : (us l)[i]? = some (.int .u64 x) := by simp [us, h]
def RdU (w : World) (A : Option Addr) (l : List Int) : Prop := Rd w 1 A l.length (us l)
theorem RdU.below {w w1 : World} {A : Option Addr} {l : List Int} (h : RdU w A l) (hb : Below w.heap.size w w1) : RdU w1 A l := Rd.below h hb
theorem RdU.len {w : World} {A : Option Addr} {l : List Int} (h : RdU w A l) : l.length ≤ 9223372036854775807 := h.2.1
theorem RdU.nil_ (w : World) (A : Option Addr) : RdU w A [] := Rd.nil_ w 1 A
theorem RdU.at_ {w : World} {A : Option Addr} {l : List Int} (h : RdU w A l) {i : Nat} {x : Int} (hs : l[i]? = some x) : ∃ b o, A = some ⟨b, o, none⟩ ∧ b < w.heap.size ∧ w.cell? ⟨b, o + i, none⟩ = some (.int .u64 x) := by
  have hi : i < l.length := (List.getElem?_eq_some_iff.1 hs).1
  obtain ⟨b, o, e, hb, hc⟩ := h.2.2 (by omega)
  exact ⟨b, o, e, hb, hc i _ (us_get l i x hs)⟩

/-! ### Bits: their value (V), and what they are (B) -/
structure BitV where
  n : Int
  A : Option Addr
  m : Nat
  c : Nat
structure BitB where
  n : Int
  w : List Int
deriving DecidableEq
def BitV.v (b : BitV) : Value := .agg #[.int .i64 b.n, .slice b.A b.m b.c]
structure RdB (w : World) (v : BitV) (b : BitB) : Prop where
  n : v.n = b.n
  m : v.m = b.w.length
  c : v.m ≤ v.c
  lo : -9223372036854775808 ≤ b.n
  hi : b.n ≤ 9223372036854775807
  words : ∀ x ∈ b.w, 0 ≤ x ∧ x < 18446744073709551616
  row : RdU w v.A b.w
theorem RdB.below {w w1 : World} {v : BitV} {b : BitB} (h : RdB w v b) (hb : Below w.heap.size w w1) : RdB w1 v b := ⟨h.n, h.m, h.c, h.lo, h.hi, h.words, h.row.below hb⟩

/-! ### Spans -/
structure SpanV where
  first : Int
  pages : Int
  size : Int
  al : BitV
  ma : BitV
  sw : Bool
structure SpanB where
  first : Int
  pages : Int
  size : Int
  al : BitB
  ma : BitB
  sw : Bool
deriving DecidableEq
def SpanV.v (s : SpanV) : Value := .agg #[.int .i64 s.first, .int .i64 s.pages, .int .i64 s.size, .int .i64 s.al.n, .slice s.al.A s.al.m s.al.c, .int .i64 s.ma.n, .slice s.ma.A s.ma.m s.ma.c, .bool s.sw]
def SpanV.cs (s : SpanV) : List Value := [.int .i64 s.first, .int .i64 s.pages, .int .i64 s.size, .int .i64 s.al.n, .slice s.al.A s.al.m s.al.c, .int .i64 s.ma.n, .slice s.ma.A s.ma.m s.ma.c, .bool s.sw]
theorem SpanV.cs_len (s : SpanV) : s.cs.length = 8 := rfl
def fl (l : List SpanV) : List Value := l.flatMap SpanV.cs
theorem fl_len (l : List SpanV) : (fl l).length = l.length * 8 := flat_len SpanV.cs 8 SpanV.cs_len l
theorem fl_get (l : List SpanV) (i j : Nat) (hj : j < 8) : (fl l)[i * 8 + j]? = (l[i]?).bind fun x => x.cs[j]? := flat_get SpanV.cs 8 SpanV.cs_len l i j hj
theorem fl_append (l m : List SpanV) : fl (l ++ m) = fl l ++ fl m := by simp [fl]
theorem fl_one (l : List SpanV) : ∀ u ∈ fl l, u.oneCell' = true := by
  intro u hu
  simp only [fl, List.mem_flatMap, SpanV.cs, List.mem_cons, List.not_mem_nil, or_false] at hu
  obtain ⟨s, _, rfl | rfl | rfl | rfl | rfl | rfl | rfl | rfl⟩ := hu <;> rfl
def RdS (w : World) (A : Option Addr) (l : List SpanV) : Prop := Rd w 8 A l.length (fl l)
theorem RdS.below {w w1 : World} {A : Option Addr} {l : List SpanV} (h : RdS w A l) (hb : Below w.heap.size w w1) : RdS w1 A l := Rd.below h hb
theorem RdS.nil_ (w : World) (A : Option Addr) : RdS w A [] := Rd.nil_ w 8 A
theorem RdS.len {w : World} {A : Option Addr} {l : List SpanV} (h : RdS w A l) : l.length ≤ 9223372036854775807 := h.2.1
theorem RdS.at_ {w : World} {A : Option Addr} {l : List SpanV} (h : RdS w A l) {i : Nat} {s : SpanV} (hs : l[i]? = some s) : ∃ b o, A = some ⟨b, o, none⟩ ∧ b < w.heap.size ∧
    w.cell? ⟨b, o + i * 8, none⟩ = some (.int .i64 s.first) ∧ w.cell? ⟨b, o + i * 8 + 1, none⟩ = some (.int .i64 s.pages) ∧ w.cell? ⟨b, o + i * 8 + 2, none⟩ = some (.int .i64 s.size) ∧
    w.cell? ⟨b, o + i * 8 + 3, none⟩ = some (.int .i64 s.al.n) ∧ w.cell? ⟨b, o + i * 8 + 4, none⟩ = some (.slice s.al.A s.al.m s.al.c) ∧
    w.cell? ⟨b, o + i * 8 + 5, none⟩ = some (.int .i64 s.ma.n) ∧ w.cell? ⟨b, o + i * 8 + 6, none⟩ = some (.slice s.ma.A s.ma.m s.ma.c) ∧ w.cell? ⟨b, o + i * 8 + 7, none⟩ = some (.bool s.sw) := by
  have hi : i < l.length := (List.getElem?_eq_some_iff.1 hs).1
  obtain ⟨b, o, e, hb, hc⟩ := h.2.2 (by omega)
  refine ⟨b, o, e, hb, ?_, ?_, ?_, ?_, ?_, ?_, ?_, ?_⟩
  · exact hc (i * 8 + 0) _ (by rw [fl_get l i 0 (by omega), hs]; rfl)
  · exact hc (i * 8 + 1) _ (by rw [fl_get l i 1 (by omega), hs]; rfl)
  · exact hc (i * 8 + 2) _ (by rw [fl_get l i 2 (by omega), hs]; rfl)
  · exact hc (i * 8 + 3) _ (by rw [fl_get l i 3 (by omega), hs]; rfl)
  · exact hc (i * 8 + 4) _ (by rw [fl_get l i 4 (by omega), hs]; rfl)
  · exact hc (i * 8 + 5) _ (by rw [fl_get l i 5 (by omega), hs]; rfl)
  · exact hc (i * 8 + 6) _ (by rw [fl_get l i 6 (by omega), hs]; rfl)
  · exact hc (i * 8 + 7) _ (by rw [fl_get l i 7 (by omega), hs]; rfl)
structure RdN (w : World) (v : SpanV) (s : SpanB) : Prop where
  first : v.first = s.first
  pages : v.pages = s.pages
  size : v.size = s.size
  sw : v.sw = s.sw
  al : RdB w v.al s.al
  ma : RdB w v.ma s.ma
  f1 : -9223372036854775808 ≤ s.first ∧ s.first ≤ 9223372036854775807
  p1 : -9223372036854775808 ≤ s.pages ∧ s.pages ≤ 9223372036854775807
  z1 : -9223372036854775808 ≤ s.size ∧ s.size ≤ 9223372036854775807
theorem RdN.below {w w1 : World} {v : SpanV} {s : SpanB} (h : RdN w v s) (hb : Below w.heap.size w w1) : RdN w1 v s := ⟨h.first, h.pages, h.size, h.sw, h.al.below hb, h.ma.below hb, h.f1, h.p1, h.z1⟩

/-! ### What the document says of bits -/
def bitP (b : BitB) (i : Nat) : Bool := match b.w[i / 64]? with | some x => x.toNat.testBit (i % 64) | none => false
def okB (b : BitB) : Bool := decide (0 ≤ b.n) && (decide (b.n ≤ 4096) && (decide ((b.w.length : Int) = (b.n + 63) / 64) && (List.range (64 * b.w.length)).all (fun i => decide ((i : Int) < b.n) || !bitP b i)))


theorem tb (x : Int) (h : 0 ≤ x) (k : Nat) : (x / 2 ^ k % 2 == 1) = x.toNat.testBit k := by
  obtain ⟨n, rfl⟩ := Int.eq_ofNat_of_zero_le h
  rw [Int.toNat_natCast, Nat.testBit_eq_decide_div_mod_eq]
  have e : ((n : Int) / 2 ^ k % 2) = ((n / 2 ^ k % 2 : Nat) : Int) := by simp
  rw [e]
  by_cases hx : n / 2 ^ k % 2 = 1
  · simp [hx]
  · rw [decide_eq_false hx, beq_eq_false_iff_ne]; omega
theorem shr_lt (x : Int) (h : 0 ≤ x ∧ x < 18446744073709551616) (k : Nat) : 0 ≤ x / 2 ^ k ∧ x / 2 ^ k < 18446744073709551616 := by
  have hp : (0 : Int) < 2 ^ k := by exact_mod_cast Nat.pow_pos (by decide : 0 < 2)
  exact ⟨Int.ediv_nonneg h.1 (Int.le_of_lt hp), Int.lt_of_le_of_lt (Int.ediv_le_self _ h.1) h.2⟩

set_option maxRecDepth 100000 in
set_option maxHeartbeats 8000000 in
theorem is50 (v : BitV) (b : BitB) (i : Nat) (w : World) (h : RdB w v b) (hi : i / 64 < b.w.length) (hs : i ≤ 1000000) : Calls Tryz.prog 51 #[v.v, .int .i64 i] w (Ret (.bool (bitP b i)) w) := by
  have hx : b.w[i / 64]? = some b.w[i / 64] := List.getElem?_eq_getElem hi
  have hwd := h.words _ (List.getElem_mem hi)
  have E : Hid (bitP b i = (b.w[i / 64]).toNat.testBit (i % 64)) := by show _ = _; unfold bitP; rw [hx]
  obtain ⟨bk, o, hA, hB, hc⟩ := h.row.at_ hx
  have hm := h.m
  have hl := h.row.len
  generalize b.w[i / 64] = x at *
  obtain ⟨n, A, m, c⟩ := v
  simp only at hA hm
  subst hA
  have hc := cell_later (balloc (Below.refl _ w) (Obj.cells #[.int .i64 n, .slice (some ⟨bk, o, none⟩) m c] 26)) hc
  have q3 : ((i / 64 : Nat) : Int) < (m : Int) := by omega
  have HW := Lib.hid hwd
  unfold BitV.v
  clear hx hi h hm hwd
  go_enter Tryz.func51, Tryz.ntmps51
  go_wp2
  go_ret
  have h1 := shr_lt x HW.out (i % 64)
  rw [and_one_u64 _ h1.1 (by omega), tb x HW.out.1, E.out]
  exact ⟨rfl, balloc (Below.refl _ _) _⟩
/-! ### What makes bits right: the last word's high bits -/
theorem div_pow_zero (x : Int) (h : 0 ≤ x) (k : Nat) : x / 2 ^ k = 0 ↔ ∀ j, k ≤ j → x.toNat.testBit j = false := by
  obtain ⟨n, rfl⟩ := Int.eq_ofNat_of_zero_le h
  rw [Int.toNat_natCast]
  have e : ((n : Int) / 2 ^ k) = ((n / 2 ^ k : Nat) : Int) := by simp
  rw [e]
  constructor
  · intro h0 j hj
    have h1 : n / 2 ^ k = 0 := by omega
    have h2 : n < 2 ^ k := by
      rcases Nat.lt_or_ge n (2 ^ k) with h | h
      · exact h
      · have := Nat.div_pos h (Nat.pow_pos (by decide)); omega
    exact Nat.testBit_lt_two_pow (Nat.lt_of_lt_of_le h2 (Nat.pow_le_pow_right (by decide) hj))
  · intro h0
    have : n / 2 ^ k = 0 := by
      apply Nat.eq_of_testBit_eq
      intro j
      rw [Nat.testBit_div_two_pow, Nat.zero_testBit]
      exact h0 _ (by omega)
    omega
theorem okB_whole {b : BitB} (h0 : 0 ≤ b.n) (h1 : b.n ≤ 4096) (h2 : (b.w.length : Int) = (b.n + 63) / 64) (h3 : b.n % 64 = 0) : okB b = true := by
  unfold okB
  simp only [Bool.and_eq_true, decide_eq_true_eq, List.all_eq_true, List.mem_range, Bool.or_eq_true]
  exact ⟨h0, h1, h2, fun i hi => .inl (by omega)⟩
theorem okB_part {b : BitB} (h0 : 0 ≤ b.n) (h1 : b.n ≤ 4096) (h2 : (b.w.length : Int) = (b.n + 63) / 64) (h3 : 0 < b.n % 64) (hw : ∀ x ∈ b.w, 0 ≤ x ∧ x < 18446744073709551616) :
    ∃ x, b.w[b.w.length - 1]? = some x ∧ okB b = decide (x / 2 ^ (b.n % 64).toNat = 0) := by
  have hl : b.w.length - 1 < b.w.length := by omega
  refine ⟨b.w[b.w.length - 1], List.getElem?_eq_getElem hl, ?_⟩
  have hx := hw _ (List.getElem_mem hl)
  have e : okB b = true ↔ b.w[b.w.length - 1] / 2 ^ (b.n % 64).toNat = 0 := by
    rw [div_pow_zero _ hx.1]
    unfold okB
    simp only [Bool.and_eq_true, decide_eq_true_eq, List.all_eq_true, List.mem_range, Bool.or_eq_true, Bool.not_eq_true']
    constructor
    · intro ⟨_, _, _, h⟩ j hj
      by_cases hj64 : j < 64
      · rcases h (64 * (b.w.length - 1) + j) (by omega) with h | h
        · omega
        · unfold bitP at h
          rw [show (64 * (b.w.length - 1) + j) / 64 = b.w.length - 1 from by omega, List.getElem?_eq_getElem hl, show (64 * (b.w.length - 1) + j) % 64 = j from by omega] at h
          exact h
      · refine Nat.testBit_lt_two_pow (Nat.lt_of_lt_of_le ?_ (Nat.pow_le_pow_right (by decide) (Nat.le_of_not_lt hj64)))
        have e2 : (2 : Nat) ^ 64 = 18446744073709551616 := by decide
        rw [e2]
        omega
    · intro h
      refine ⟨h0, h1, h2, fun i hi => ?_⟩
      by_cases hin : (i : Int) < b.n
      · exact .inl hin
      · right
        unfold bitP
        rw [show i / 64 = b.w.length - 1 from by omega, List.getElem?_eq_getElem hl]
        exact h _ (by omega)
  by_cases hz : b.w[b.w.length - 1] / 2 ^ (b.n % 64).toNat = 0
  · rw [e.2 hz, decide_eq_true hz]
  · rw [decide_eq_false hz]
    cases h : okB b
    · rfl
    · exact absurd (e.1 h) hz


def okE (b : BitB) : Int := if okB b then 0 else 2
theorem okE_neg {b : BitB} (h : ¬ 0 ≤ b.n) : okE b = 2 := by simp [okE, okB, h]
theorem okE_big {b : BitB} (h : ¬ b.n ≤ 4096) : okE b = 2 := by simp [okE, okB, h]
theorem okE_len {b : BitB} (h : ¬ (b.w.length : Int) = (b.n + 63) / 64) : okE b = 2 := by simp [okE, okB, h]

set_option maxRecDepth 100000 in
set_option maxHeartbeats 8000000 in
theorem check62 (v : BitV) (b : BitB) (w : World) (h : RdB w v b) : Calls Tryz.prog 91 #[v.v] w (Ret (.int .i64 (okE b)) w) := by
  have hn := h.n
  have hm := h.m
  have hlo := h.lo
  have hhi := h.hi
  have hl := h.row.len
  have H := Lib.hid h
  have hb : Below w.heap.size w (w.alloc (Obj.cells #[.int .i64 v.n, .slice v.A v.m v.c] 26)) := balloc (Below.refl _ _) _
  have HB := Lib.hid hb
  clear h
  obtain ⟨n, A, m, c⟩ := v
  simp only at hn hm hb HB
  subst hn
  subst hm
  unfold BitV.v
  by_cases h0 : 0 ≤ b.n
  · by_cases h1 : b.n ≤ 4096
    · by_cases h2 : (b.w.length : Int) = (b.n + 63) / 64
      · by_cases h3 : b.n % 64 = 0
        · have E : Hid (okE b = 0) := by show _ = _; simp [okE, okB_whole h0 h1 h2 h3]
          clear H hb
          generalize b.w.length = m at *
          generalize b.n = n at *
          obtain ⟨k, rfl⟩ := Int.eq_ofNat_of_zero_le h0
          have q1 : ((m : Int) != ((k : Int) + 64 - 1) / 64) = false := by rw [bne_eq_false_iff_eq]; omega
          have q2 : ¬ (k : Int) < 0 := by omega
          have q3 : ¬ 4096 < (k : Int) := by omega
          clear h2
          go_enter Tryz.func91, Tryz.ntmps91
          go_wp2
          go_ret
          rw [E.out]
          exact ⟨rfl, HB.out⟩
        · obtain ⟨x, hx, hok⟩ := okB_part h0 h1 h2 (by omega) H.out.words
          have hx0 := H.out.words x (List.mem_of_getElem? hx)
          obtain ⟨bk, o, hA, hB, hc⟩ := H.out.row.at_ hx
          simp only at hA
          subst hA
          have E : Hid (okE b = if x / 2 ^ (b.n % 64).toNat = 0 then 0 else 2) := by show _ = _; unfold okE; rw [hok]; simp
          have hc := cell_later hb hc
          clear H hb hok hx
          generalize b.w.length = m at *
          generalize b.n = n at *
          obtain ⟨k, rfl⟩ := Int.eq_ofNat_of_zero_le h0
          have q1 : ((m : Int) != ((k : Int) + 64 - 1) / 64) = false := by rw [bne_eq_false_iff_eq]; omega
          have q2 : ¬ (k : Int) < 0 := by omega
          have q3 : ¬ 4096 < (k : Int) := by omega
          have q4 : 0 < (k : Int) % 64 := by omega
          have q5 : (k : Int) % 64 < 64 := by omega
          have q6 : 0 < m := by omega
          have q7 : (m : Int) - 1 < (m : Int) := by omega
          have q8 : ((m : Int) - 1).toNat = m - 1 := by omega
          have q9 : 0 ≤ (m : Int) - 1 := by omega
          have q10 : ((k : Int) % 64).toNat = k % 64 := by omega
          rw [q10] at E
          clear h2 h3 q10
          by_cases hz : x / 2 ^ (k % 64) = 0
          · have E : Hid (okE b = 0) := by show _ = _; rw [E.out, if_pos hz]
            have qz : (x / 2 ^ (k % 64) != 0) = false := by rw [hz]; rfl
            clear hz
            go_enter Tryz.func91, Tryz.ntmps91
            go_wp2
            go_ret
            rw [E.out]
            exact ⟨rfl, HB.out⟩
          · have E : Hid (okE b = 2) := by show _ = _; rw [E.out, if_neg hz]
            have qz : (x / 2 ^ (k % 64) != 0) = true := by rw [bne_iff_ne]; exact hz
            clear hz
            go_enter Tryz.func91, Tryz.ntmps91
            go_wp2
            go_ret
            rw [E.out]
            exact ⟨rfl, HB.out⟩
      · have E := Lib.hid (okE_len h2)
        clear H hb
        generalize b.w.length = m at *
        generalize b.n = n at *
        obtain ⟨k, rfl⟩ := Int.eq_ofNat_of_zero_le h0
        have q1 : ((m : Int) != ((k : Int) + 64 - 1) / 64) = true := by rw [bne_iff_ne]; omega
        have q2 : ¬ (k : Int) < 0 := by omega
        have q3 : ¬ 4096 < (k : Int) := by omega
        clear h2
        go_enter Tryz.func91, Tryz.ntmps91
        go_wp2
        go_ret
        rw [E.out]
        exact ⟨rfl, HB.out⟩
    · have E := Lib.hid (okE_big h1)
      have h1' : 4096 < b.n := by omega
      have h0' : ¬ b.n < 0 := by omega
      generalize b.n = n at *
      go_enter Tryz.func91, Tryz.ntmps91
      go_wp2
      go_ret
      rw [E.out]
      exact ⟨rfl, HB.out⟩
  · have E := Lib.hid (okE_neg h0)
    have h0' : b.n < 0 := by omega
    generalize b.n = n at *
    go_enter Tryz.func91, Tryz.ntmps91
    go_wp2
    go_ret
    rw [E.out]
    exact ⟨rfl, HB.out⟩



def shapedP (p z : Int) : Bool := if z = 0 then decide (2 ≤ p) && decide (p ≤ 4) else if z = 2 ∨ z = 4 ∨ z = 8 ∨ z = 16 then p == 1 else false
def manyP (z : Int) : Int := if z = 0 then 1 else wrap64 ((16 : Int).tdiv z)
theorem shaped34 (p z : Int) (w : World) : Calls Tryz.prog 99 #[.int .i64 p, .int .i64 z] w (Ret (.bool (shapedP p z)) w) := by
  have hcs : z = 0 ∨ z = 2 ∨ z = 4 ∨ z = 8 ∨ z = 16 ∨ (z ≠ 0 ∧ z ≠ 2 ∧ z ≠ 4 ∧ z ≠ 8 ∧ z ≠ 16) := by omega
  rcases hcs with rfl | rfl | rfl | rfl | rfl | ⟨h0, h2, h4, h8, h16⟩
  · by_cases h : 2 ≤ p
    · by_cases h' : p ≤ 4
      · have E : Hid (shapedP p 0 = true) := by show _ = _; simp [shapedP, h, h']
        go_enter Tryz.func99, Tryz.ntmps99
        go_wp2
        go_ret
        rw [E.out]
        exact ⟨rfl, Below.refl _ _⟩
      · have E : Hid (shapedP p 0 = false) := by show _ = _; simp [shapedP, h, h']
        have q : 4 < p := by omega
        go_enter Tryz.func99, Tryz.ntmps99
        go_wp2
        go_ret
        rw [E.out]
        exact ⟨rfl, Below.refl _ _⟩
    · have E : Hid (shapedP p 0 = false) := by show _ = _; simp [shapedP, h]
      have q : p < 2 := by omega
      go_enter Tryz.func99, Tryz.ntmps99
      go_wp2
      go_ret
      rw [E.out]
      exact ⟨rfl, Below.refl _ _⟩
  · have E : Hid (shapedP p 2 = (p == 1)) := by show _ = _; simp [shapedP]
    go_enter Tryz.func99, Tryz.ntmps99
    go_wp2
    go_ret
    rw [E.out]
    exact ⟨rfl, Below.refl _ _⟩
  · have E : Hid (shapedP p 4 = (p == 1)) := by show _ = _; simp [shapedP]
    go_enter Tryz.func99, Tryz.ntmps99
    go_wp2
    go_ret
    rw [E.out]
    exact ⟨rfl, Below.refl _ _⟩
  · have E : Hid (shapedP p 8 = (p == 1)) := by show _ = _; simp [shapedP]
    go_enter Tryz.func99, Tryz.ntmps99
    go_wp2
    go_ret
    rw [E.out]
    exact ⟨rfl, Below.refl _ _⟩
  · have E : Hid (shapedP p 16 = (p == 1)) := by show _ = _; simp [shapedP]
    go_enter Tryz.func99, Tryz.ntmps99
    go_wp2
    go_ret
    rw [E.out]
    exact ⟨rfl, Below.refl _ _⟩
  · have E : Hid (shapedP p z = false) := by show _ = _; simp [shapedP, h0, h2, h4, h8, h16]
    have e0 : (z == 0) = false := by simpa using h0
    have e2 : (z == 2) = false := by simpa using h2
    have e4 : (z == 4) = false := by simpa using h4
    have e8 : (z == 8) = false := by simpa using h8
    have e16 : (z == 16) = false := by simpa using h16
    clear h0 h2 h4 h8 h16
    go_enter Tryz.func99, Tryz.ntmps99
    go_wp2
    go_ret
    rw [E.out]
    exact ⟨rfl, Below.refl _ _⟩
theorem slots36 (z : Int) (w : World) : Calls Tryz.prog 100 #[.int .i64 z] w (Ret (.int .i64 (manyP z)) w) := by
  by_cases h0 : z = 0
  · subst h0
    go_enter Tryz.func100, Tryz.ntmps100
    go_wp2
    go_ret
    exact ⟨rfl, Below.refl _ _⟩
  · have E : Hid (manyP z = wrap64 ((16 : Int).tdiv z)) := by show _ = _; simp [manyP, h0]
    have e0 : (z == 0) = false := by simpa using h0
    go_enter Tryz.func100, Tryz.ntmps100
    go_wp2
    go_ret
    rw [E.out]
    exact ⟨rfl, Below.refl _ _⟩
theorem end46 (s : SpanV) (w : World) : Calls Tryz.prog 98 #[s.v] w (Ret (.int .i64 (wrap64 (s.first + s.pages))) w) := by
  unfold SpanV.v
  go_enter Tryz.func98, Tryz.ntmps98
  go_wp2
  go_ret
  exact ⟨rfl, balloc (Below.refl _ _) _⟩


theorem info33 : (Tryz.prog.info? 46).map (fun i => (i.zero, i.size, i.bytes)) = some (some (.int .u64 0), 1, 8) := by kernel_rfl
def OwU (w : World) (base : Nat) (v : Value) (l : List Int) : Prop := w.ownsRow base 46 1 v l.length (us l)
theorem OwU.nil_ (w : World) (base : Nat) : OwU w base (.slice none 0 0) [] := World.ownsRow_nil w base 46 1
theorem OwU.shape {w : World} {base : Nat} {v : Value} {l : List Int} (h : OwU w base v l) : ∃ A c, v = .slice A l.length c ∧ l.length ≤ c ∧ RdU w A l := by
  obtain ⟨A, c, rfl, h1, _⟩ := own_shape h
  exact ⟨A, c, rfl, h1, own_rd h⟩
theorem OwU.below {w w1 : World} {base : Nat} {v : Value} {l : List Int} (h : OwU w base v l) (hb : Below w.heap.size w w1) : OwU w1 base v l := own_below h hb
theorem OwU.mono {w : World} {base base' : Nat} {v : Value} {l : List Int} (h : OwU w base v l) (hb : base' ≤ base) : OwU w base' v l := own_mono h hb
theorem bown {w W W' : World} {v : Value} {l : List Int} (h : Below w.heap.size w W) (hg : W.grownBy W' v.ownBlock) (ho : OwU W w.heap.size v l) : Below w.heap.size w W' :=
  bgrown h hg (fun k hk => (World.ownsRow.lt ho k hk).1)
theorem made_empty (w : World) : OwU (w.alloc (.cells #[] 46)) w.heap.size (.slice (some ⟨w.heap.size, 0, none⟩) 0 0) [] := World.ownsRow_made w #[] 0 (Nat.le_refl _) (by simp [maxLen]) (by simp)
theorem wpl_appU {ops : Array Oper} {rest : List Oper} {o : Oper} {a : Act} {w : World} {Q : Exit → Act → World → Prop} (hgd : o.guard = none) (s x : Operand)
    (ho : o.op = .call { callee := .builtin .append, args := #[s, x], argTypes := #[22, 22] })
    (base : Nat) (v : Value) (l0 l1 : List Int) (hs : a.eval s = v) (hown : OwU w base v l0) (A : Option Addr) (c : Nat) (hx : a.eval x = .slice A l1.length c) (hr : RdU w A l1)
    (hbytes : (l0.length + l1.length) * 8 ≤ 140737488355328) (hbase : base ≤ w.heap.size)
    (h : ∀ v' w', OwU w' base v' (l0 ++ l1) → w.grownBy w' v.ownBlock → wpList Tryz.prog ops Q rest (a.put o.dst v') w') : wpList Tryz.prog ops Q (o :: rest) a w :=
  wpl_append_rd hgd s x 22 ho base 46 _ 1 8 Tryz.underlying22 info33 rfl (by omega) v l0.length (us l0) hs hown A l1.length c (us l1) hx hr (us_one l1) hbytes (by omega) hbase
    (fun v' w' h1 h2 => h v' w' (by unfold OwU; rw [List.length_append, show us (l0 ++ l1) = us l0 ++ us l1 from by simp [us]]; exact h1) h2)
def RetU (l : List Int) (w : World) (e : Ending) (w' : World) : Prop := ∃ v, e = .returned v ∧ OwU w' w.heap.size v l ∧ Below w.heap.size w w'

set_option maxRecDepth 100000 in
set_option maxHeartbeats 8000000 in
theorem clone64 (l : List Int) (A : Option Addr) (c : Nat) (w : World) (hr : RdU w A l) (hb : l.length * 8 ≤ 140737488355328) : Calls Tryz.prog 87 #[.slice A l.length c] w (RetU l w) := by
  have hl := hr.len
  cases A with
  | none =>
    have hn : l = [] := by
      rcases Nat.eq_zero_or_pos l.length with h | h
      · exact List.eq_nil_of_length_eq_zero h
      · obtain ⟨b, o, e, _⟩ := hr.2.2 h
        cases e
    subst hn
    clear hr hb hl
    have hq := fun w => Lib.run_eql_slice_nil (P := Tryz.prog) w 22 46 none 0 c 0 0 Tryz.underlying22
    go_enter Tryz.func87, Tryz.ntmps87
    go_wp2
    go_ret
    exact ⟨_, rfl, OwU.nil_ _ _, Below.refl _ _⟩
  | some ad =>
    have hb0 : Below w.heap.size w (w.alloc (.cells #[] 46)) := balloc (Below.refl _ _) _
    have hr1 := hr.below hb0
    have HR := Lib.hid hr1
    have HO := Lib.hid (made_empty w)
    clear hr hr1
    have hq := fun w => Lib.run_eql_slice_nil (P := Tryz.prog) w 22 46 (some ad) l.length c 0 0 Tryz.underlying22
    go_enter Tryz.func87, Tryz.ntmps87
    go_wp2_with (at_builtin; refine wpl_appU rfl (.tmp 5) (.tmp 6) rfl w.heap.size _ [] l rfl HO.out (some ad) c rfl HR.out ?hb1 ?hb2 ?_)
    case hb1 => simpa using hb
    case hb2 => simp
    intro v' w' ho hg
    have hbw := bown hb0 hg HO.out
    have H := Lib.hid (show OwU w' w.heap.size v' l by simpa using ho)
    clear ho hg
    go_wp2
    go_ret
    exact ⟨_, rfl, H.out, hbw⟩


/-- Bits that were made: their words are of the call's own. -/
def RetB (b : BitB) (w : World) (e : Ending) (w' : World) : Prop := ∃ v : BitV, e = .returned v.v ∧ v.n = b.n ∧ v.m = b.w.length ∧ v.m ≤ v.c ∧ OwU w' w.heap.size (.slice v.A v.m v.c) b.w ∧ Below w.heap.size w w'

set_option maxRecDepth 100000 in
set_option maxHeartbeats 8000000 in
theorem own37 (v : BitV) (b : BitB) (w : World) (h : RdB w v b) (hb : b.w.length * 8 ≤ 140737488355328) : Calls Tryz.prog 88 #[v.v] w (RetB b w) := by
  have hn := h.n
  have hm := h.m
  have HR := Lib.hid h.row
  clear h
  obtain ⟨n, A, m, c⟩ := v
  simp only at hn hm HR
  subst hn
  subst hm
  unfold BitV.v
  have hb0 : Below w.heap.size w ((w.alloc (.cells #[.int .i64 b.n, .slice A b.w.length c] 26)).alloc (.cells #[.int .i64 0, .slice none 0 0] 26)) := balloc (balloc (Below.refl _ _) _) _
  have C64 := Lib.hid (clone64 b.w A c _ (HR.out.below hb0) hb)
  have F1 : Hid (((w.alloc (.cells #[.int .i64 b.n, .slice A b.w.length c] 26)).alloc (.cells #[.int .i64 0, .slice none 0 0] 26)).cell? ⟨w.heap.size, 0, none⟩ = some (.int .i64 b.n)) := by show _ = _; go_simp
  have F2 : Hid (((w.alloc (.cells #[.int .i64 b.n, .slice A b.w.length c] 26)).alloc (.cells #[.int .i64 0, .slice none 0 0] 26)).cell? ⟨w.heap.size, 1, none⟩ = some (.slice A b.w.length c)) := by show _ = _; go_simp
  have F3 : Hid (((w.alloc (.cells #[.int .i64 b.n, .slice A b.w.length c] 26)).alloc (.cells #[.int .i64 0, .slice none 0 0] 26)).cell? ⟨w.heap.size + 1, 0, none⟩ = some (.int .i64 0)) := by show _ = _; go_simp
  have F4 : Hid (((w.alloc (.cells #[.int .i64 b.n, .slice A b.w.length c] 26)).alloc (.cells #[.int .i64 0, .slice none 0 0] 26)).cell? ⟨w.heap.size + 1, 1, none⟩ = some (.slice none 0 0)) := by show _ = _; go_simp
  have HB0 := Lib.hid hb0
  clear hb0
  go_enter Tryz.func88, Tryz.ntmps88
  go_wp2_with fail
  refine C64.out.mono ?_
  rintro e w1 ⟨v1, rfl, ho, hb1⟩
  obtain ⟨A1, c1, rfl, hc1, hr1⟩ := ho.shape
  have hs2 : ((w.alloc (.cells #[.int .i64 b.n, .slice A b.w.length c] 26)).alloc (.cells #[.int .i64 0, .slice none 0 0] 26)).heap.size = w.heap.size + 2 := by simp
  rw [hs2] at ho
  have f1 := cell_later hb1 F1.out
  have f2 := cell_later hb1 F2.out
  have f3 := cell_later hb1 F3.out
  have f4 := cell_later hb1 F4.out
  have z0 : ∀ k, k = w.heap.size ∨ k = w.heap.size + 1 → ∀ j, w1.frozen? ⟨k, j, none⟩ = false := by
    intro k hk j
    rw [hb1.frozen (p := ⟨k, j, none⟩) (by rw [hs2]; show k < _; omega)]
    rcases hk with rfl | rfl <;> go_simp
  have z1 := z0 w.heap.size (.inl rfl) 1
  have z2 := z0 (w.heap.size + 1) (.inr rfl) 0
  have z3 := z0 (w.heap.size + 1) (.inr rfl) 1
  have HO := Lib.hid ho
  have HB1 := Lib.hid (bthen HB0.out hb1)
  have HC := Lib.hid hc1
  clear hb1 ho hr1 hc1 z0 F1 F2 F3 F4 HB0 hs2
  go_wp2
  have n1 : (⟨w.heap.size, 1, none⟩ : Addr) ≠ ⟨w.heap.size + 1, 0, none⟩ := by simp
  have n2 : (⟨w.heap.size, 1, none⟩ : Addr) ≠ ⟨w.heap.size + 1, 1, none⟩ := by simp
  have n3 : (⟨w.heap.size + 1, 0, none⟩ : Addr) ≠ ⟨w.heap.size + 1, 1, none⟩ := by simp
  have n4 : (⟨w.heap.size + 1, 1, none⟩ : Addr) ≠ ⟨w.heap.size + 1, 0, none⟩ := by simp
  have e1 : ((w1.setCell ⟨w.heap.size, 1, none⟩ (.slice A1 b.w.length c1)).setCell ⟨w.heap.size + 1, 0, none⟩ (.int .i64 b.n)).cell? ⟨w.heap.size + 1, 0, none⟩ = some (.int .i64 b.n) :=
    World.cell?_setCell_same _ _ _ ((World.cell?_setCell_other (h := n1) ..).trans f3)
  have e2 : (((w1.setCell ⟨w.heap.size, 1, none⟩ (.slice A1 b.w.length c1)).setCell ⟨w.heap.size + 1, 0, none⟩ (.int .i64 b.n)).setCell ⟨w.heap.size + 1, 1, none⟩ (.slice A1 b.w.length c1)).cell? ⟨w.heap.size + 1, 1, none⟩ = some (.slice A1 b.w.length c1) :=
    World.cell?_setCell_same _ _ _ ((World.cell?_setCell_other (h := n3) ..).trans ((World.cell?_setCell_other (h := n2) ..).trans f4))
  have e3 : (((w1.setCell ⟨w.heap.size, 1, none⟩ (.slice A1 b.w.length c1)).setCell ⟨w.heap.size + 1, 0, none⟩ (.int .i64 b.n)).setCell ⟨w.heap.size + 1, 1, none⟩ (.slice A1 b.w.length c1)).cell? ⟨w.heap.size + 1, 0, none⟩ = some (.int .i64 b.n) :=
    (World.cell?_setCell_other (h := n4) ..).trans e1
  refine bodyPost_ret (by simp [results, Tryz.results88, go_sem, e1, e2, e3]; rfl) rfl ?_
  exact ⟨⟨b.n, A1, b.w.length, c1⟩, rfl, rfl, rfl, HC.out, OwU.mono (ownsRow_setCell_below (ownsRow_setCell_below (ownsRow_setCell_below HO.out (by show _ < _; simp) _) (by show _ < _; simp) _) (by show _ < _; simp) _) (by omega), ((HB1.out.setCell (by simp) _).setCell (by simp) _).setCell (by simp) _⟩


theorem step_appU {ops : Array Oper} {o : Oper} {a : Act} {w : World} {K : Act → World → Prop} {Q : Exit → Act → World → Prop} {E : Prop}
    (hg : o.guard = none) (s x : Operand) (hop : o.op = Op.call { callee := Callee.builtin Builtin.append, args := #[s, x], argTypes := #[22, 22] })
    (base : Nat) (v : Value) (l0 l1 : List Int) (m c : Nat) (hm : l1.length = m) (A : Option Addr) (hs : a.eval s = v) (hx : a.eval x = .slice A m c)
    (hown : OwU w base v l0) (hr : RdU w A l1) (hbytes : (l0.length + l1.length) * 8 ≤ 140737488355328) (hbase : base ≤ w.heap.size)
    (h : ∀ v' w', OwU w' base v' (l0 ++ l1) → w.grownBy w' v.ownBlock → K (a.put o.dst v') w') :
    if Region.wanted o (yielded ops a.tmps) = true then Oper.wp Tryz.prog o a w K Q else E := by
  have hw : Region.wanted o (yielded ops a.tmps) = true := by simp [Region.wanted, hg]
  rw [if_pos hw]
  subst hm
  obtain ⟨v', w', hr', h2, h3⟩ := run_append_rd (P := Tryz.prog) w base 22 o.type 46 _ 1 8 Tryz.underlying22 info33 rfl (by omega) v l0.length (us l0) hown A l1.length c (us l1) hr (us_one l1) hbytes (by omega) hbase
  unfold Oper.wp execOp
  simp only [hop, resolve, invoke, builtin, Sem.run_bind, Sem.run_pure, Result.andThen_ok, List.map_toArray, List.map_cons, List.map_nil, hs, hx, hr']
  exact h _ _ (by unfold OwU; rw [List.length_append, show us (l0 ++ l1) = us l0 ++ us l1 from by simp [us]]; exact h2) h3

set_option maxRecDepth 100000 in
set_option maxHeartbeats 8000000 in
theorem copy61 (v : BitV) (b : BitB) (w : World) (h : RdB w v b) (hb : b.w.length * 8 ≤ 140737488355328) : Calls Tryz.prog 56 #[v.v] w (RetB b w) := by
  have hn := h.n
  have hm := h.m
  have HR := Lib.hid h.row
  clear h
  obtain ⟨n, A, m, c⟩ := v
  simp only at hn hm HR
  subst hn
  subst hm
  unfold BitV.v
  have hb0 : Below w.heap.size w ((w.alloc (.cells #[.int .i64 b.n, .slice A b.w.length c] 26)).alloc (.cells #[.int .i64 0, .slice none 0 0] 26)) := balloc (balloc (Below.refl _ _) _) _
  have hs2 : ((w.alloc (.cells #[.int .i64 b.n, .slice A b.w.length c] 26)).alloc (.cells #[.int .i64 0, .slice none 0 0] 26)).heap.size = w.heap.size + 2 := by simp
  have F1 : ((w.alloc (.cells #[.int .i64 b.n, .slice A b.w.length c] 26)).alloc (.cells #[.int .i64 0, .slice none 0 0] 26)).cell? ⟨w.heap.size, 0, none⟩ = some (.int .i64 b.n) := by go_simp
  have F2 : ((w.alloc (.cells #[.int .i64 b.n, .slice A b.w.length c] 26)).alloc (.cells #[.int .i64 0, .slice none 0 0] 26)).cell? ⟨w.heap.size, 1, none⟩ = some (.slice A b.w.length c) := by go_simp
  have F3 : ((w.alloc (.cells #[.int .i64 b.n, .slice A b.w.length c] 26)).alloc (.cells #[.int .i64 0, .slice none 0 0] 26)).cell? ⟨w.heap.size + 1, 0, none⟩ = some (.int .i64 0) := by go_simp
  have F4 : ((w.alloc (.cells #[.int .i64 b.n, .slice A b.w.length c] 26)).alloc (.cells #[.int .i64 0, .slice none 0 0] 26)).cell? ⟨w.heap.size + 1, 1, none⟩ = some (.slice none 0 0) := by go_simp
  have Z2 : ((w.alloc (.cells #[.int .i64 b.n, .slice A b.w.length c] 26)).alloc (.cells #[.int .i64 0, .slice none 0 0] 26)).frozen? ⟨w.heap.size + 1, 0, none⟩ = false := by go_simp
  have Z3 : ((w.alloc (.cells #[.int .i64 b.n, .slice A b.w.length c] 26)).alloc (.cells #[.int .i64 0, .slice none 0 0] 26)).frozen? ⟨w.heap.size + 1, 1, none⟩ = false := by go_simp
  go_enter Tryz.func56, Tryz.ntmps56
  go_wp2_with fail
  generalize (w.alloc (.cells #[.int .i64 b.n, .slice A b.w.length c] 26)).alloc (.cells #[.int .i64 0, .slice none 0 0] 26) = w0 at *
  have hba : Below w0.heap.size w0 (w0.alloc (.cells #[] 46)).drew := (balloc (Below.refl _ w0) _).drew
  have HBa := Lib.hid (bthen hb0 hba)
  have HOa : Hid (OwU (w0.alloc (.cells #[] 46)).drew (w.heap.size + 2) (.slice (some ⟨w.heap.size + 2, 0, none⟩) 0 0) []) := by
    show OwU _ _ _ _
    rw [← hs2]
    exact (made_empty w0).below (Below.refl _ _).drew
  have HRa := Lib.hid (HR.out.below HBa.out)
  have HY : Hid ((([] : List Int).length + b.w.length) * 8 ≤ 140737488355328) := by show _ ≤ _; simpa using hb
  have HS : Hid ((w.heap.size + 2) ≤ (w0.alloc (.cells #[] 46)).drew.heap.size) := by
    show _ ≤ _
    rw [← hs2]
    exact hba.size
  have GC : Hid (∀ v1 w2, OwU w2 (w.heap.size + 2) v1 b.w → (w0.alloc (.cells #[] 46)).drew.grownBy w2 (Value.ownBlock (.slice (some ⟨w.heap.size + 2, 0, none⟩) 0 0)) → Below w0.heap.size w0 w2) := fun v1 w2 _ hg => bgrown hba hg (fun k hk => by cases hk; rw [hs2]; exact Nat.le_refl _)
  clear hba
  go_region_law (refine step_appU rfl (.tmp 5) (.tmp 7) rfl (w.heap.size + 2) (.slice (some ⟨w.heap.size + 2, 0, none⟩) 0 0) [] b.w b.w.length c rfl A rfl rfl HOa.out HRa.out HY.out HS.out ?_; intro v1 w2 ho hg; have ho : OwU w2 (w.heap.size + 2) v1 b.w := ho; have hbw := GC.out v1 w2 ho hg; have f1 := cell_later hbw F1; have f2 := cell_later hbw F2; have f3 := cell_later hbw F3; have f4 := cell_later hbw F4; have z2 : w2.frozen? ⟨w.heap.size + 1, 0, none⟩ = false := (hbw.frozen (p := ⟨w.heap.size + 1, 0, none⟩) (by rw [hs2]; show _ < _; simp)).trans Z2; have z3 : w2.frozen? ⟨w.heap.size + 1, 1, none⟩ = false := (hbw.frozen (p := ⟨w.heap.size + 1, 1, none⟩) (by rw [hs2]; show _ < _; simp)).trans Z3; obtain ⟨A1, c1, hv1, hc1, hr1⟩ := ho.shape; subst hv1; have HC := Lib.hid hc1; clear hc1 hr1; have HO := Lib.hid ho; have HB2 := Lib.hid (bthen hb0 hbw); clear ho hg hbw F1 F2 F3 F4 Z2 Z3)
  all_goals
    go_wp2
    have n3 : (⟨w.heap.size + 1, 0, none⟩ : Addr) ≠ ⟨w.heap.size + 1, 1, none⟩ := by simp
    have n4 : (⟨w.heap.size + 1, 1, none⟩ : Addr) ≠ ⟨w.heap.size + 1, 0, none⟩ := by simp
    have e1 : (w2.setCell ⟨w.heap.size + 1, 0, none⟩ (.int .i64 b.n)).cell? ⟨w.heap.size + 1, 0, none⟩ = some (.int .i64 b.n) := World.cell?_setCell_same _ _ _ f3
    have e2 : ((w2.setCell ⟨w.heap.size + 1, 0, none⟩ (.int .i64 b.n)).setCell ⟨w.heap.size + 1, 1, none⟩ (.slice A1 b.w.length c1)).cell? ⟨w.heap.size + 1, 1, none⟩ = some (.slice A1 b.w.length c1) :=
      World.cell?_setCell_same _ _ _ ((World.cell?_setCell_other (h := n3) ..).trans f4)
    have e3 : ((w2.setCell ⟨w.heap.size + 1, 0, none⟩ (.int .i64 b.n)).setCell ⟨w.heap.size + 1, 1, none⟩ (.slice A1 b.w.length c1)).cell? ⟨w.heap.size + 1, 0, none⟩ = some (.int .i64 b.n) :=
      (World.cell?_setCell_other (h := n4) ..).trans e1
    refine bodyPost_ret (by simp [results, Tryz.results56, go_sem, e1, e2, e3]; rfl) rfl ?_
    exact ⟨⟨b.n, A1, b.w.length, c1⟩, rfl, rfl, rfl, HC.out, OwU.mono (ownsRow_setCell_below (ownsRow_setCell_below HO.out (by show _ < _; simp) _) (by show _ < _; simp) _) (by omega), (HB2.out.setCell (by simp) _).setCell (by simp) _⟩


/-- Bits and an error. -/
def RetBE (b : BitB) (x : Int) (w : World) (e : Ending) (w' : World) : Prop := ∃ v : BitV, e = .returned (.tuple #[v.v, .int .i64 x]) ∧ v.n = b.n ∧ v.m = b.w.length ∧ v.m ≤ v.c ∧ OwU w' w.heap.size (.slice v.A v.m v.c) b.w ∧ Below w.heap.size w w'
theorem bcell {W w1 : World} (hb : Below W.heap.size W w1) : (∀ b o, b < W.heap.size → w1.cell? ⟨b, o, none⟩ = W.cell? ⟨b, o, none⟩) ∧ (∀ b o, b < W.heap.size → w1.frozen? ⟨b, o, none⟩ = W.frozen? ⟨b, o, none⟩) :=
  ⟨fun b o h => hb.cell (p := ⟨b, o, none⟩) h, fun b o h => hb.frozen (p := ⟨b, o, none⟩) h⟩
theorem OwU.set_lo {w : World} {base : Nat} {v : Value} {l : List Int} (h : OwU w base v l) {p : Addr} (hp : p.block < base) (u : Value) : OwU (w.setCell p u) base v l := ownsRow_setCell_below h hp u
def makeOk (n : Int) : Prop := 0 ≤ n ∧ n ≤ 4096
instance (n : Int) : Decidable (makeOk n) := by unfold makeOk; infer_instance
def makeB (n : Int) : BitB := if makeOk n then ⟨n, List.replicate ((n + 63) / 64).toNat 0⟩ else ⟨0, []⟩
def makeE (n : Int) : Int := if makeOk n then 0 else 1
theorem made_us (n : Nat) : (madeCells (Value.cells (.int .u64 0)) (n * 1)).toList = us (List.replicate n 0) := by
  apply List.ext_getElem
  · simp [madeCells, us]
  · intro i h1 h2
    simp [madeCells, us, Value.cells, Nat.mod_one]

set_option maxRecDepth 100000 in
set_option maxHeartbeats 8000000 in
theorem make35 (n : Int) (w : World) : Calls Tryz.prog 58 #[.int .i64 n] w (RetBE (makeB n) (makeE n) w) := by
  by_cases h : makeOk n
  · have EB : Hid (makeB n = ⟨n, List.replicate ((n + 63) / 64).toNat 0⟩) := by show _ = _; simp [makeB, h]
    have EE : Hid (makeE n = 0) := by show _ = _; simp [makeE, h]
    obtain ⟨h0, h1⟩ := h
    obtain ⟨k, rfl⟩ := Int.eq_ofNat_of_zero_le h0
    have q2 : ¬ (k : Int) < 0 := by omega
    have q3 : ¬ 4096 < (k : Int) := by omega
    have q4 : ((k : Int) + 63) / 64 = (((k + 63) / 64 : Nat) : Int) := by omega
    have Q4 := Lib.hid q4
    have Q5 : Hid ((k : Int) + 64 - 1 = ((k + 63 : Nat) : Int)) := by show _ = _; omega
    have Q6 : Hid (8 * ((k + 63) / 64) ≤ 281474976710656) := by show _ ≤ _; omega
    have Q7 : Hid ((k + 63) / 64 ≤ maxLen) := by show _ ≤ _; unfold maxLen; omega
    clear q4
    obtain ⟨i0, hi, hz0, hz1, hz2⟩ := info_parts info33
    have HZ0 := Lib.hid hz0
    have HZ1 := Lib.hid hz1
    have HZ2 := Lib.hid hz2
    have HI := Lib.hid hi
    clear hz0 hz1 hz2 hi
    go_enter Tryz.func58, Tryz.ntmps58
    go_wp2_with (at_make; refine wpList_make_full _ rfl (.tmp 15) (.tmp 15) 22 rfl (w.heap.size + 1) 46 i0 (.int .u64 0) 1 Tryz.underlying22 HI.out HZ0.out HZ1.out .i64 .i64 _ _ ((k + 63) / 64) rfl rfl ?c1 ?c2 ?c3 ?c4 ?c5 ?_)
    try (case c1 => omega)
    try (case c2 => omega)
    case c3 => rw [HZ2.out]; exact Q6.out
    case c4 => exact Q7.out
    intro w' ho hg
    have hs : (w.alloc (.cells #[.int .i64 0, .slice none 0 0] 26)).heap.size = w.heap.size + 1 := by simp
    have hB : Below w.heap.size w (w.alloc (.cells #[.int .i64 0, .slice none 0 0] 26)) := balloc (Below.refl _ _) _
    have HB := Lib.hid (bgrown hB hg (by simp))
    obtain ⟨hc, hf⟩ := bcell (bgrown (Below.refl _ _) hg (by simp))
    rw [hs] at hc hf
    have HO : Hid (OwU w' (w.heap.size + 1) (.slice (some ⟨w.heap.size + 1, 0, none⟩) ((k + 63) / 64) ((k + 63) / 64)) (List.replicate ((k + 63) / 64) 0)) := by
      show OwU _ _ _ _
      unfold OwU
      rw [List.length_replicate, ← made_us, Nat.mul_one]
      exact ho
    clear ho hg hB hs
    go_wp2
    refine bodyPost_ret (v := .tuple #[.agg #[.int .i64 (k : Int), .slice (some ⟨w.heap.size + 1, 0, none⟩) ((k + 63) / 64) ((k + 63) / 64)], .int .i64 0]) (by simp [results, Tryz.results58, go_sem, hc]) rfl ?_
    rw [EB.out, EE.out]
    refine ⟨⟨(k : Int), some ⟨w.heap.size + 1, 0, none⟩, (k + 63) / 64, (k + 63) / 64⟩, rfl, rfl, ?_, Nat.le_refl _, ?_, ?_⟩
    · show _ = (List.replicate _ _).length
      rw [List.length_replicate, Q4.out, Int.toNat_natCast]
    · show OwU _ _ _ (List.replicate _ _)
      rw [Q4.out, Int.toNat_natCast]
      refine OwU.mono (base := w.heap.size + 1) ?_ (by omega)
      repeat (refine OwU.set_lo ?_ (by simp) _)
      exact HO.out
    · repeat (refine Below.setCell ?_ (by simp) _)
      exact HB.out
  · have EB : Hid (makeB n = ⟨0, []⟩) := by show _ = _; simp [makeB, h]
    have EE : Hid (makeE n = 1) := by show _ = _; simp [makeE, h]
    have hc : n < 0 ∨ (¬ n < 0 ∧ 4096 < n) := by unfold makeOk at h; omega
    clear h
    rcases hc with h | ⟨h0, h⟩
    all_goals
      go_enter Tryz.func58, Tryz.ntmps58
      go_wp2
      refine bodyPost_ret (v := .tuple #[.agg #[.int .i64 0, .slice none 0 0], .int .i64 1]) (by simp [results, Tryz.results58, go_sem]) rfl ?_
      rw [EB.out, EE.out]
      exact ⟨⟨0, none, 0, 0⟩, rfl, rfl, rfl, Nat.le_refl _, OwU.nil_ _ _, balloc (Below.refl _ _) _⟩
end Go.Proofs.YtieijfefnedifaaGreatDoor
