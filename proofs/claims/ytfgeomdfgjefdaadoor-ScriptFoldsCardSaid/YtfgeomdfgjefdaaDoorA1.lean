/- Rows of events; IndexFunc, ContainsFunc, Check, like. -/
import Derived.Test.YtfgeomdfgjefdaaDoorA0
namespace Go.Proofs.YtfgeomdfgjefdaaDoor
open Go.RowKit
set_option linter.unusedVariables false
set_option linter.unusedSimpArgs false

def Ev.cs (e : Ev) : List Value := [.bool e.thr, .int .i64 e.who, .int .u8 e.kind, .int .i64 e.tw, .int .i64 e.times]
theorem Ev.cs_len (s : Ev) : s.cs.length = 5 := rfl
def fl (l : List Ev) : List Value := l.flatMap Ev.cs
theorem fl_len (l : List Ev) : (fl l).length = l.length * 5 := flat_len Ev.cs 5 Ev.cs_len l
theorem fl_get (l : List Ev) (i j : Nat) (hj : j < 5) : (fl l)[i * 5 + j]? = (l[i]?).bind fun x => x.cs[j]? := flat_get Ev.cs 5 Ev.cs_len l i j hj
theorem fl_append (l m : List Ev) : fl (l ++ m) = fl l ++ fl m := by simp [fl]
theorem fl_one (l : List Ev) : ∀ u ∈ fl l, u.oneCell' = true := by
  intro u hu
  simp only [fl, List.mem_flatMap, Ev.cs, List.mem_cons, List.not_mem_nil, or_false] at hu
  obtain ⟨s, _, rfl | rfl | rfl | rfl | rfl⟩ := hu <;> rfl
def RdS (w : World) (A : Option Addr) (l : List Ev) : Prop := Rd w 5 A l.length (fl l)
theorem RdS.below {w w1 : World} {A : Option Addr} {l : List Ev} (h : RdS w A l) (hb : Below w.heap.size w w1) : RdS w1 A l := Rd.below h hb
theorem RdS.nil_ (w : World) (A : Option Addr) : RdS w A [] := Rd.nil_ w 5 A
theorem RdS.len {w : World} {A : Option Addr} {l : List Ev} (h : RdS w A l) : l.length ≤ 9223372036854775807 := h.2.1
theorem RdS.at_ {w : World} {A : Option Addr} {l : List Ev} (h : RdS w A l) {i : Nat} {s : Ev} (hs : l[i]? = some s) : ∃ b o, A = some ⟨b, o, none⟩ ∧ b < w.heap.size ∧
    w.cell? ⟨b, o + i * 5, none⟩ = some (.bool s.thr) ∧ w.cell? ⟨b, o + i * 5 + 1, none⟩ = some (.int .i64 s.who) ∧ w.cell? ⟨b, o + i * 5 + 2, none⟩ = some (.int .u8 s.kind) ∧
    w.cell? ⟨b, o + i * 5 + 3, none⟩ = some (.int .i64 s.tw) ∧ w.cell? ⟨b, o + i * 5 + 4, none⟩ = some (.int .i64 s.times) := by
  have hi : i < l.length := (List.getElem?_eq_some_iff.1 hs).1
  obtain ⟨b, o, e, hb, hc⟩ := h.2.2 (by omega)
  refine ⟨b, o, e, hb, ?_, ?_, ?_, ?_, ?_⟩
  · exact hc (i * 5 + 0) _ (by rw [fl_get l i 0 (by omega), hs]; rfl)
  · exact hc (i * 5 + 1) _ (by rw [fl_get l i 1 (by omega), hs]; rfl)
  · exact hc (i * 5 + 2) _ (by rw [fl_get l i 2 (by omega), hs]; rfl)
  · exact hc (i * 5 + 3) _ (by rw [fl_get l i 3 (by omega), hs]; rfl)
  · exact hc (i * 5 + 4) _ (by rw [fl_get l i 4 (by omega), hs]; rfl)
theorem info41 : (Tryd.prog.info? 41).map (fun i => (i.zero, i.size, i.bytes)) = some (some (.agg #[.bool false, .int .i64 0, .int .u8 0, .int .i64 0, .int .i64 0]), 5, 40) := by kernel_rfl
def OwS (w : World) (base : Nat) (v : Value) (l : List Ev) : Prop := w.ownsRow base 41 5 v l.length (fl l)
theorem OwS.nil_ (w : World) (base : Nat) : OwS w base (.slice none 0 0) [] := World.ownsRow_nil w base 41 5
theorem OwS.shape {w : World} {base : Nat} {v : Value} {l : List Ev} (h : OwS w base v l) : ∃ A c, v = .slice A l.length c ∧ l.length ≤ c ∧ RdS w A l := by
  obtain ⟨A, c, rfl, h1, h2⟩ := own_shape h
  exact ⟨A, c, rfl, h1, own_rd h⟩
theorem OwS.below {w w1 : World} {base : Nat} {v : Value} {l : List Ev} (h : OwS w base v l) (hb : Below w.heap.size w w1) : OwS w1 base v l := own_below h hb
theorem OwS.mono {w : World} {base base' : Nat} {v : Value} {l : List Ev} (h : OwS w base v l) (hb : base' ≤ base) : OwS w base' v l := own_mono h hb
theorem OwS.rd {w : World} {base c : Nat} {A : Option Addr} {l : List Ev} (h : OwS w base (.slice A l.length c) l) : RdS w A l := own_rd h
theorem OwS.set_lo {w : World} {base : Nat} {v : Value} {l : List Ev} (h : OwS w base v l) {p : Addr} (hp : p.block < base) (u : Value) : OwS (w.setCell p u) base v l := ownsRow_setCell_below h hp u
theorem bownS {w W W' : World} {v : Value} {l : List Ev} (h : Below w.heap.size w W) (hg : W.grownBy W' v.ownBlock) (ho : OwS W w.heap.size v l) : Below w.heap.size w W' :=
  bgrown h hg (fun k hk => (ho.lt k hk).1)
theorem wpl_appS {ops : Array Oper} {rest : List Oper} {o : Oper} {a : Act} {w : World} {Q : Exit → Act → World → Prop} (hgd : o.guard = none) (s x : Operand)
    (ho : o.op = .call { callee := .builtin .append, args := #[s, x], argTypes := #[22, 22] })
    (base : Nat) (v : Value) (l0 l1 : List Ev) (hs : a.eval s = v) (hown : OwS w base v l0) (A : Option Addr) (c : Nat) (hx : a.eval x = .slice A l1.length c) (hr : RdS w A l1)
    (hbytes : (l0.length + l1.length) * 40 ≤ 140737488355328) (hbase : base ≤ w.heap.size)
    (h : ∀ v' w', OwS w' base v' (l0 ++ l1) → w.grownBy w' v.ownBlock → wpList Tryd.prog ops Q rest (a.put o.dst v') w') : wpList Tryd.prog ops Q (o :: rest) a w :=
  wpl_append_rd hgd s x 22 ho base 41 _ 5 40 Tryd.underlying22 info41 rfl (by omega) v l0.length (fl l0) hs hown A l1.length c (fl l1) hx hr (fl_one l1) hbytes (by omega) hbase
    (fun v' w' h1 h2 => h v' w' (by unfold OwS; rw [List.length_append, fl_append]; exact h1) h2)
theorem rd_ev (w : World) (e : Ev) : RdS (w.alloc (.cells #[.bool e.thr, .int .i64 e.who, .int .u8 e.kind, .int .i64 e.tw, .int .i64 e.times] 41)) (some ⟨w.heap.size, 0, none⟩) [e] :=
  own_rd (World.ownsRow_lit (base := w.heap.size) (e := 41) (size := 5) w #[.bool e.thr, .int .i64 e.who, .int .u8 e.kind, .int .i64 e.tw, .int .i64 e.times] 1 (Nat.le_refl _) (by simp [maxLen]) rfl)
def RetS (l : List Ev) (w : World) (e : Ending) (w' : World) : Prop := ∃ v, e = .returned v ∧ OwS w' w.heap.size v l ∧ Below w.heap.size w w'
def RetSE (l : List Ev) (x : Int) (w : World) (e : Ending) (w' : World) : Prop := ∃ v, e = .returned (.tuple #[v, .int .i64 x]) ∧ OwS w' w.heap.size v l ∧ Below w.heap.size w w'

def Enters (g : Nat) : Prop := ∀ (args : Array Value) (w : World), (callFunc g args).run Tryd.prog w = .ok (.enter g args) w
def idxP {α : Type} (l : List α) (p : α → Bool) : Int := match l.findIdx? p with | some i => (i : Int) | none => -1
theorem idxP_some {α : Type} {l : List α} {p : α → Bool} {k : Nat} {x : α} (hk : l[k]? = some x) (hp : p x = true) (hno : ∀ (j : Nat), j < k → ∀ s, l[j]? = some s → p s = false) : idxP l p = k := by
  obtain ⟨hk', rfl⟩ := List.getElem?_eq_some_iff.1 hk
  unfold idxP
  have : l.findIdx? p = some k := by
    rw [List.findIdx?_eq_some_iff_getElem]
    refine ⟨hk', hp, fun j hj => ?_⟩
    have := hno j hj l[j] (List.getElem?_eq_getElem (by omega))
    simp [this]
  rw [this]
theorem idxP_none {α : Type} {l : List α} {p : α → Bool} (hno : ∀ (j : Nat), j < l.length → ∀ s, l[j]? = some s → p s = false) : idxP l p = -1 := by
  unfold idxP
  have : l.findIdx? p = none := by
    rw [List.findIdx?_eq_none_iff]
    intro x hx
    obtain ⟨j, hj, rfl⟩ := List.getElem_of_mem hx
    exact hno j hj _ (List.getElem?_eq_getElem hj)
  rw [this]
theorem no_more {α : Type} {l : List α} {p : α → Bool} {k : Nat} {x : α} (hk : l[k]? = some x) (hp : p x = false) (hno : ∀ (j : Nat), j < k → ∀ s, l[j]? = some s → p s = false) : ∀ (j : Nat), j < k + 1 → ∀ s, l[j]? = some s → p s = false := by
  intro j hj s hs
  rcases Nat.lt_succ_iff_lt_or_eq.1 hj with h | rfl
  · exact hno j h s hs
  · rw [hk] at hs
    cases hs
    exact hp
theorem idxP_any {α : Type} {l : List α} {p : α → Bool} : decide (0 ≤ idxP l p) = l.any p := by
  unfold idxP
  cases h : l.findIdx? p with
  | none =>
    rw [List.findIdx?_eq_none_iff] at h
    have : l.any p = false := by rw [List.any_eq_false]; intro x hx; simp [h x hx]
    rw [this]
    rfl
  | some i =>
    obtain ⟨hi, hp, _⟩ := List.findIdx?_eq_some_iff_getElem.1 h
    have : l.any p = true := List.any_eq_true.2 ⟨l[i], List.getElem_mem _, hp⟩
    rw [this]
    simp

set_option maxRecDepth 100000 in
set_option maxHeartbeats 8000000 in
theorem index48 (l : List Ev) (A : Option Addr) (c : Nat) (g : Nat) (caps : Array Value) (p : Ev → Bool) (w : World) (hr : RdS w A l) (hg : Enters g)
    (hf : ∀ s ∈ l, ∀ w', Below w.heap.size w w' → Calls Tryd.prog g (#[s.v] ++ caps) w' (Ret (.bool (p s)) w')) :
    Calls Tryd.prog 48 #[.slice A l.length c, .func (.func g) #[] caps] w (Ret (.int .i64 (idxP l p)) w) := by
  have hl := hr.len
  unfold Enters at hg
  go_enter Tryd.func48, Tryd.ntmps48
  go_wp2
  go_loopw [8] (fun i wr => ∃ k : Nat, k ≤ l.length ∧ i = .int .i64 k ∧ (∀ (j : Nat), j < k → ∀ s, l[j]? = some s → p s = false) ∧ Below w.heap.size w wr) (fun i _ => l.length - (intOf i).toNat)
  case atStart => exact ⟨0, Nat.zero_le _, rfl, fun j h => absurd h (by omega), Below.refl _ _⟩
  case round =>
    obtain ⟨k, hk, rfl, hno, hb⟩ := hrel
    have HR := Lib.hid hr
    clear hr
    by_cases hlt : k < l.length
    · have hs : l[k]? = some l[k] := List.getElem?_eq_getElem hlt
      have hmem := List.getElem_mem hlt
      generalize l[k] = s at hs hmem
      obtain ⟨b, o, rfl, hB, c0, c1, c2, c3, c4⟩ := (HR.out.below hb).at_ hs
      have hcall := hf s hmem wr hb
      have HC := Lib.hid hcall
      unfold Ev.v at HC
      have HS := Lib.hid hs
      clear hcall hf hs hmem
      cases hp : p s with
      | true =>
        have HN := Lib.hid (idxP_some HS.out hp hno)
        have HP := Lib.hid hp
        clear hp hno
        go_wp2_with (refine HC.out.mono ?_; rintro e w' ⟨rfl, hb'⟩; rw [HP.out])
        go_ret
        exact ⟨by rw [HN.out]; rfl, bthen hb hb'⟩
      | false =>
        have HN := Lib.hid (no_more HS.out hp hno)
        have HP := Lib.hid hp
        clear hp hno
        go_wp2_with (refine HC.out.mono ?_; rintro e w' ⟨rfl, hb'⟩; rw [HP.out])
        go_roundw
        case rel => exact ⟨k + 1, by omega, by go_num, HN.out, bthen hb hb'⟩
        case measure => simp [intOf]; omega
    · have HN := Lib.hid (idxP_none (l := l) (p := p) (fun j hj => hno j (by omega)))
      clear hno hf
      go_wp2
      go_ret
      exact ⟨by rw [HN.out]; rfl, hb⟩
set_option maxRecDepth 100000 in
set_option maxHeartbeats 8000000 in
theorem contains32 (l : List Ev) (A : Option Addr) (c : Nat) (g : Nat) (caps : Array Value) (p : Ev → Bool) (w : World) (hr : RdS w A l) (hg : Enters g)
    (hf : ∀ s ∈ l, ∀ w', Below w.heap.size w w' → Calls Tryd.prog g (#[s.v] ++ caps) w' (Ret (.bool (p s)) w')) :
    Calls Tryd.prog 32 #[.slice A l.length c, .func (.func g) #[] caps] w (Ret (.bool (l.any p)) w) := by
  have HC := Lib.hid (index48 l A c g caps p w hr hg hf)
  clear hf hg hr
  go_enter Tryd.func32, Tryd.ntmps32
  go_wp2_with (refine HC.out.mono ?_; rintro e w' ⟨rfl, hb⟩)
  go_ret
  exact ⟨by rw [← idxP_any]; rfl, hb⟩

def okL (l : List Ev) : Prop := l.length ≤ 4096 ∧ ∀ e ∈ l, okEv e
instance (l : List Ev) : Decidable (okL l) := by unfold okL; infer_instance
def chkE (l : List Ev) : Int := if okL l then 0 else 2
set_option maxRecDepth 100000 in
set_option maxHeartbeats 8000000 in
theorem clo34 (e : Ev) (w : World) : Calls Tryd.prog 34 #[e.v] w (Ret (.bool (!decide (okEv e))) w) := by
  have hb : Below w.heap.size w (w.alloc (.cells #[.bool e.thr, .int .i64 e.who, .int .u8 e.kind, .int .i64 e.tw, .int .i64 e.times] 41)) := balloc (Below.refl _ _) _
  have HC := Lib.hid (right35 e (w.alloc (.cells #[.bool e.thr, .int .i64 e.who, .int .u8 e.kind, .int .i64 e.tw, .int .i64 e.times] 41)))
  have HB := Lib.hid hb
  unfold Ev.v at HC ⊢
  clear hb
  generalize decide (okEv e) = x at *
  go_enter Tryd.func34, Tryd.ntmps34
  go_wp2_with (go_at_call 35; refine HC.out.mono ?_)
  rintro e w1 ⟨rfl, hb1⟩
  have HB1 := Lib.hid (bthen HB.out hb1)
  clear hb1
  go_wp2
  go_ret
  exact ⟨rfl, HB1.out⟩
set_option maxRecDepth 100000 in
set_option maxHeartbeats 8000000 in
theorem check20 (l : List Ev) (A : Option Addr) (c : Nat) (w : World) (hr : RdS w A l) : Calls Tryd.prog 20 #[.slice A l.length c] w (Ret (.int .i64 (chkE l)) w) := by
  have hl := hr.len
  have HC := Lib.hid (contains32 l A c 34 #[] (fun e => !decide (okEv e)) w hr (fun _ _ => rfl) (fun s _ w' _ => by simpa using clo34 s w'))
  clear hr
  by_cases h1 : 4096 < l.length
  · have HE : Hid (chkE l = 2) := if_neg (fun h => by have := h.1; omega)
    have h2 : (4096 : Int) < (l.length : Int) := by omega
    go_enter Tryd.func20, Tryd.ntmps20
    go_wp2
    go_ret
    exact ⟨by rw [HE.out]; rfl, Below.refl _ _⟩
  · have h2 : ¬ (4096 : Int) < (l.length : Int) := by omega
    have HE : Hid (chkE l = if l.any (fun e => !decide (okEv e)) = true then 2 else 0) := by
      show _ = _
      unfold chkE
      by_cases h : l.any (fun e => !decide (okEv e)) = true
      · rw [if_pos h, if_neg]
        rintro ⟨_, h3⟩
        obtain ⟨e, he, h4⟩ := List.any_eq_true.1 h
        simp [h3 e he] at h4
      · rw [if_neg h, if_pos]
        refine ⟨by omega, fun e he => ?_⟩
        have := List.any_eq_false.1 (Bool.eq_false_iff.2 h) e he
        simpa using this
    generalize l.any (fun e => !decide (okEv e)) = x at *
    go_enter Tryd.func20, Tryd.ntmps20
    go_wp2_with (go_at_call 32; refine HC.out.mono ?_)
    rintro e w1 ⟨rfl, hb1⟩
    have HB1 := Lib.hid hb1
    clear hb1
    cases x
    all_goals
      go_wp2
      go_ret
      exact ⟨by rw [HE.out]; rfl, HB1.out⟩
set_option maxRecDepth 100000 in
set_option maxHeartbeats 8000000 in
theorem check21 (l : List Ev) (hk : ∀ e ∈ l, 0 ≤ e.kind) (A : Option Addr) (c : Nat) (w : World) (hr : RdS w A l) : Calls Tryd.prog 21 #[.slice A l.length c] w (Ret (.int .i64 (chkE l)) w) := by
  have hl := hr.len
  have HR := Lib.hid hr
  have HK := Lib.hid hk
  clear hr hk
  by_cases h1 : 4096 < l.length
  · have HE : Hid (chkE l = 2) := if_neg (fun h => by have := h.1; omega)
    have h2 : (4096 : Int) < (l.length : Int) := by omega
    go_enter Tryd.func21, Tryd.ntmps21
    go_wp2
    go_ret
    exact ⟨by rw [HE.out]; rfl, Below.refl _ _⟩
  · have h2 : ¬ (4096 : Int) < (l.length : Int) := by omega
    go_enter Tryd.func21, Tryd.ntmps21
    go_wp2
    go_loopw [10] (fun i wr => ∃ k : Nat, k ≤ l.length ∧ i = .int .i64 k ∧ Hid (∀ (j : Nat), j < k → ∀ s, l[j]? = some s → okEv s) ∧ Hid (Below w.heap.size w wr)) (fun i _ => l.length - (intOf i).toNat)
    case atStart => exact ⟨0, Nat.zero_le _, rfl, fun j h => absurd h (by omega), Below.refl _ _⟩
    case round =>
      obtain ⟨k, hk, rfl, HNO, HB⟩ := hrel
      by_cases hlt : k < l.length
      · have hs : l[k]? = some l[k] := List.getElem?_eq_getElem hlt
        have hmem := List.getElem_mem hlt
        generalize l[k] = s at hs hmem
        obtain ⟨b, o, rfl, hB, c0, c1, c2, c3, c4⟩ := (HR.out.below HB.out).at_ hs
        have HS := Lib.hid hs
        have HC := Lib.hid (right36 s (HK.out s hmem) (wr.alloc (.cells #[.bool s.thr, .int .i64 s.who, .int .u8 s.kind, .int .i64 s.tw, .int .i64 s.times] 41)))
        have HB2 : Hid (Below w.heap.size w (wr.alloc (.cells #[.bool s.thr, .int .i64 s.who, .int .u8 s.kind, .int .i64 s.tw, .int .i64 s.times] 41))) := balloc HB.out _
        unfold Ev.v at HC
        clear hs
        by_cases hok : okEv s
        · rw [decide_eq_true hok] at HC
          have HN : Hid (∀ (j : Nat), j < k + 1 → ∀ s, l[j]? = some s → okEv s) := fun j hj t ht => by
            rcases Nat.lt_succ_iff_lt_or_eq.1 hj with h | rfl
            · exact HNO.out j h t ht
            · rw [HS.out] at ht; cases ht; exact hok
          clear hok
          go_wp2_with (go_at_call 36; refine HC.out.mono ?_)
          rintro e w1 ⟨rfl, hb1⟩
          have HB3 := Lib.hid (bthen HB2.out hb1)
          clear hb1
          go_wp2
          go_roundw
          case rel => exact ⟨k + 1, by omega, by go_num, HN.out, HB3.out⟩
          case measure => simp [intOf]; omega
        · rw [decide_eq_false hok] at HC
          have HE : Hid (chkE l = 2) := if_neg (fun h => hok (h.2 s hmem))
          clear hok
          go_wp2_with (go_at_call 36; refine HC.out.mono ?_)
          rintro e w1 ⟨rfl, hb1⟩
          have HB3 := Lib.hid (bthen HB2.out hb1)
          clear hb1
          go_wp2
          go_ret
          exact ⟨by rw [HE.out]; rfl, HB3.out⟩
      · have HE : Hid (chkE l = 0) := if_pos ⟨by omega, fun e he => by
          obtain ⟨j, hj, rfl⟩ := List.getElem_of_mem he
          exact HNO.out j (by omega) _ (List.getElem?_eq_getElem hj)⟩
        go_wp2
        go_ret
        exact ⟨by rw [HE.out]; rfl, HB.out⟩
def likeE (a b : Ev) : Bool := decide ({ a with times := b.times } = b)
set_option maxRecDepth 100000 in
set_option maxHeartbeats 8000000 in
theorem like29 (a b : Ev) (w : World) : Calls Tryd.prog 29 #[a.v, b.v] w (Ret (.bool (likeE a b)) w) := by
  obtain ⟨t1, w1, k1, x1, n1⟩ := a
  obtain ⟨t2, w2, k2, x2, n2⟩ := b
  have HB0 : Hid (∀ o o', Below w.heap.size w ((w.alloc o).alloc o')) := fun o o' => balloc (balloc (Below.refl w.heap.size w) o) o'
  unfold Ev.v
  simp only
  go_enter Tryd.func29, Tryd.ntmps29
  go_wp2
  all_goals
    go_ret
    refine ⟨?_, by first | exact HB0.out _ _ | exact bdrewN (HB0.out _ _) _⟩
    clear HB0
    simp_all [likeE]
set_option maxRecDepth 100000 in
set_option maxHeartbeats 8000000 in
theorem like30 (a b : Ev) (w : World) : Calls Tryd.prog 30 #[a.v, b.v] w (Ret (.bool (likeE a b)) w) := by
  obtain ⟨t1, w1, k1, x1, n1⟩ := a
  obtain ⟨t2, w2, k2, x2, n2⟩ := b
  have HB0 : Hid (∀ o o', Below w.heap.size w ((w.alloc o).alloc o')) := fun o o' => balloc (balloc (Below.refl w.heap.size w) o) o'
  unfold Ev.v
  simp only
  go_enter Tryd.func30, Tryd.ntmps30
  go_wp2
  all_goals
    go_ret
    refine ⟨?_, by first | exact HB0.out _ _ | exact bdrewN (HB0.out _ _) _⟩
    clear HB0
    simp_all [likeE]
end Go.Proofs.YtfgeomdfgjefdaaDoor
