/- The walks of slices.BinarySearchFunc on heap's objects, of find and leads. -/
import Derived.Test.YtieijfefnedifaaGreatDoorMD1D2
import Derived.Test.YtieijfefnedifaaGreatDoorMC1C6
namespace Go.Proofs.YtieijfefnedifaaGreatDoor
open Go.RowKit
set_option linter.unusedVariables false
set_option linter.unusedSimpArgs false

def posK (l : List Int) (t : Int) : Nat := (l.takeWhile (fun x => decide (x < t))).length
def foundK (l : List Int) (t : Int) : Bool := match l[posK l t]? with | some x => x == t | none => false
def SortedK (l : List Int) : Prop := ∀ (a b : Nat) (x y : Int), a ≤ b → l[a]? = some x → l[b]? = some y → x ≤ y
theorem posK_of {l : List Int} {t : Int} : ∀ {k : Nat}, k ≤ l.length → (∀ a, a < k → ∀ s, l[a]? = some s → s < t) → (∀ s, l[k]? = some s → t ≤ s) → posK l t = k := by
  induction l with
  | nil =>
    intro k hk _ _
    have : k = 0 := by simpa using hk
    subst this
    rfl
  | cons x r ih =>
    intro k hk h1 h2
    unfold posK
    cases k with
    | zero =>
      have h3 := h2 x rfl
      have h4 : ¬ x < t := by omega
      rw [List.takeWhile_cons]
      simp [h4]
    | succ j =>
      have hx := h1 0 (by omega) x rfl
      rw [List.takeWhile_cons]
      simp only [hx, decide_true, if_true, List.length_cons]
      congr 1
      exact ih (by simpa using hk) (fun a ha s hs => h1 (a + 1) (by omega) s (by simpa using hs)) (fun s hs => h2 s (by simpa using hs))
theorem belowK {l : List Int} {t : Int} {m : Nat} {s : Int} (hs : SortedK l) (hm : l[m]? = some s) (h : s < t) : ∀ a, a < m + 1 → ∀ x, l[a]? = some x → x < t :=
  fun a ha x hx => Int.lt_of_le_of_lt (hs a m x s (by omega) hx hm) h
theorem aboveK {l : List Int} {t : Int} {m : Nat} {s : Int} (hs : SortedK l) (hm : l[m]? = some s) (h : t ≤ s) : ∀ a, m ≤ a → ∀ x, l[a]? = some x → t ≤ x :=
  fun a ha x hx => Int.le_trans h (hs m a s x ha hm hx)
theorem posK_parts (l : List Int) (t : Int) : posK l t ≤ l.length ∧ (∀ a, a < posK l t → ∀ s, l[a]? = some s → s < t) ∧ (∀ s, l[posK l t]? = some s → t ≤ s) := by
  induction l with
  | nil => exact ⟨Nat.le_refl _, fun a ha => by simp [posK] at ha, fun s hs => by simp [posK] at hs⟩
  | cons x r ih =>
    by_cases h : x < t
    · have e : posK (x :: r) t = posK r t + 1 := by unfold posK; rw [List.takeWhile_cons]; simp [h]
      rw [e]
      obtain ⟨i1, i2, i3⟩ := ih
      refine ⟨by simpa using i1, fun a ha s hs => ?_, fun s hs => i3 s (by simpa using hs)⟩
      cases a with
      | zero => simp at hs; omega
      | succ a => exact i2 a (by omega) s (by simpa using hs)
    · have e : posK (x :: r) t = 0 := by unfold posK; rw [List.takeWhile_cons]; simp [h]
      rw [e]
      exact ⟨Nat.zero_le _, fun a ha => by omega, fun s hs => by simp at hs; omega⟩
def keysO (os : List Obj) : List Int := os.map (fun o => (o.a : Int))
theorem keysO_at {os : List Obj} {m : Nat} {o : Obj} (h : os[m]? = some o) : (keysO os)[m]? = some (o.a : Int) := by simp [keysO, h]
theorem find_found {os : List Obj} {t : Int} (h : foundK (keysO os) t = true) : ∃ o, os[posK (keysO os) t]? = some o ∧ findO os t = if o.cur then some o else none := by
  obtain ⟨h1, h2, h3⟩ := posK_parts (keysO os) t
  unfold foundK at h
  split at h
  · rename_i x hx
    have hlt : posK (keysO os) t < os.length := by have := (List.getElem?_eq_some_iff.1 hx).1; simpa [keysO] using this
    have ho : os[posK (keysO os) t]? = some os[posK (keysO os) t] := List.getElem?_eq_getElem hlt
    generalize os[posK (keysO os) t] = o at ho
    have hxo := keysO_at ho
    rw [hx] at hxo
    have hxt : (o.a : Int) = t := by
      have e := Option.some.inj hxo
      rw [← e]
      simpa using h
    refine ⟨o, ho, ?_⟩
    have e : os.find? (fun o => (o.a : Int) == t) = some o := by
      rw [List.find?_eq_some_iff_getElem]
      refine ⟨by simpa using hxt, posK (keysO os) t, hlt, (List.getElem?_eq_some_iff.1 ho).2, fun j hj => ?_⟩
      have := h2 j hj _ (keysO_at (List.getElem?_eq_getElem (by omega)))
      simp
      omega
    unfold findO
    rw [e]
  · cases h
theorem find_missing {os : List Obj} {t : Int} (hs : SortedK (keysO os)) (h : foundK (keysO os) t = false) : findO os t = none := by
  obtain ⟨h1, h2, h3⟩ := posK_parts (keysO os) t
  have e : os.find? (fun o => (o.a : Int) == t) = none := by
    rw [List.find?_eq_none]
    intro o ho
    obtain ⟨m, hm, rfl⟩ := List.getElem_of_mem ho
    have hk := keysO_at (List.getElem?_eq_getElem hm)
    intro hc
    have hc : ((os[m]).a : Int) = t := by simpa using hc
    rw [hc] at hk
    by_cases hmp : m < posK (keysO os) t
    · have := h2 m hmp _ hk
      omega
    · have hlt : posK (keysO os) t < (keysO os).length := by have := (List.getElem?_eq_some_iff.1 hk).1; omega
      have hx := List.getElem?_eq_getElem hlt
      have h4 := h3 _ hx
      have h5 := hs _ _ _ _ (by omega) hx hk
      unfold foundK at h
      rw [hx] at h
      simp at h
      omega
  unfold findO
  rw [e]
theorem cmpO (o : Obj) (t : Int) (w : World) : Calls Tryz.prog 118 #[o.v, .int .u64 t] w (Ret (.int .i64 (cmpI o.a t)) w) := by
  have HC : Hid (∀ W, Calls Tryz.prog 107 #[.int .u64 (o.a : Int), .int .u64 t] W (Ret (.int .i64 (cmpI o.a t)) W)) := fun W => cmp49 o.a t W
  unfold Obj.v
  generalize cmpI o.a t = cc at *
  have HB0 : Hid (Below w.heap.size w (w.alloc (.cells #[.int .i64 o.i, .int .i64 o.k, .int .u64 o.a, .int .i64 o.n, .int .u64 o.m, .bool o.cur] 134))) := balloc (Below.refl _ _) _
  go_enter Tryz.func118, Tryz.ntmps118
  go_wp2_with (go_at_call 107; refine (HC.out _).mono ?_)
  rintro e w1 ⟨rfl, hb1⟩
  have HB1 := Lib.hid (bthen HB0.out hb1)
  clear hb1
  go_wp2
  go_ret
  exact ⟨rfl, HB1.out⟩
theorem entersO : Enters 118 := fun args w => by kernel_rfl
set_option maxRecDepth 100000 in
set_option maxHeartbeats 8000000 in
theorem searchO (l : List Obj) (A : Option Addr) (c : Nat) (g : Nat) (caps : Array Value) (t : Int) (w : World) (h : RdO w A l) (hn : l.length ≤ 100000) (hg : Enters g) (hso : SortedK (keysO l))
    (hf : ∀ (i : Nat) s, l[i]? = some s → ∀ w', Below w.heap.size w w' → Calls Tryz.prog g (#[s.v, .int .u64 t] ++ caps) w' (Ret (.int .i64 (cmpI s.a t)) w')) :
    Calls Tryz.prog 117 #[.slice A l.length c, .int .u64 t, .func (.func g) #[] caps] w (Ret (.tuple #[.int .i64 (posK (keysO l) t), .bool (foundK (keysO l) t)]) w) := by
  unfold Enters at hg
  have H := Lib.hid h
  have HSO := Lib.hid hso
  have HF := Lib.hid hf
  have HKL : Hid ((keysO l).length = l.length) := by show _ = _; simp [keysO]
  clear h hso hf
  go_enter Tryz.func117, Tryz.ntmps117
  go_wp2
  obtain ⟨wo, hwo⟩ : ∃ wo : World, wo = w := ⟨w, rfl⟩
  go_loopw [9, 10] (fun v9 v10 wr => ∃ i j : Nat, i ≤ j ∧ j ≤ l.length ∧ v9 = .int .i64 i ∧ v10 = .int .i64 j ∧ Hid (∀ a, a < i → ∀ s, (keysO l)[a]? = some s → s < t) ∧ Hid (∀ a, j ≤ a → ∀ s, (keysO l)[a]? = some s → t ≤ s) ∧ Hid (Below w.heap.size w wr)) (fun v9 v10 _ => (intOf v10).toNat - (intOf v9).toNat)
  case atStart => exact ⟨0, l.length, Nat.zero_le _, Nat.le_refl _, rfl, rfl, fun a ha => by omega, fun a ha s hs => by have := (List.getElem?_eq_some_iff.1 hs).1; have := HKL.out; omega, Below.refl _ _⟩
  case round =>
    obtain ⟨i, j, hij, hj, rfl, rfl, HLo, HHi, HBr⟩ := hrel
    by_cases hlt : i < j
    · obtain ⟨m, hm⟩ : ∃ m : Nat, m = (i + j) / 2 := ⟨_, rfl⟩
      have hmi : i ≤ m := by omega
      have hmj : m < j := by omega
      have hq : ((i : Int) + (j : Int)) / 2 = (m : Int) := by omega
      have hml : m < l.length := by omega
      have hs : l[m]? = some l[m] := List.getElem?_eq_getElem hml
      generalize l[m] = s at hs
      obtain ⟨bk, o, hA, hbk, c0, c1, c2, c3, c4, c5⟩ := H.out.at_ hs
      replace c0 := cell_later HBr.out c0
      replace c1 := cell_later HBr.out c1
      replace c2 := cell_later HBr.out c2
      replace c3 := cell_later HBr.out c3
      replace c4 := cell_later HBr.out c4
      replace c5 := cell_later HBr.out c5
      have HC := Lib.hid (HF.out m s hs wr HBr.out)
      subst hA
      unfold Obj.v at HC
      try simp only [List.append_toArray, Array.append, List.cons_append, List.nil_append] at HC
      have HSS := Lib.hid (keysO_at hs)
      clear hs hm
      by_cases hk : (s.a : Int) < t
      · have EC : Hid (cmpI s.a t = -1) := by show _ = _; unfold cmpI; rw [if_pos hk]
        have HK := Lib.hid hk
        rw [EC.out] at HC
        clear hk
        go_wp2_with fail
        refine HC.out.mono ?_
        rintro e w1 ⟨rfl, hb1⟩
        have HB1 := Lib.hid (bthen HBr.out hb1)
        clear hb1
        go_wp2
        go_roundw
        case rel => exact ⟨m + 1, j, by omega, hj, by go_num, rfl, belowK HSO.out HSS.out HK.out, HHi.out, HB1.out⟩
        case measure => simp [intOf]; omega
      · have HK : Hid (t ≤ (s.a : Int)) := by show _ ≤ _; omega
        have hc : cmpI s.a t = 0 ∨ cmpI s.a t = 1 := by unfold cmpI; rw [if_neg hk]; split <;> simp
        clear hk
        rcases hc with hc | hc
        all_goals
          rw [hc] at HC
          clear hc
          go_wp2_with fail
          refine HC.out.mono ?_
          rintro e w1 ⟨rfl, hb1⟩
          have HB1 := Lib.hid (bthen HBr.out hb1)
          clear hb1
          go_wp2
          go_roundw
          case rel => exact ⟨i, m, hmi, by omega, rfl, rfl, HLo.out, aboveK HSO.out HSS.out HK.out, HB1.out⟩
          case measure => simp [intOf]; omega
    · obtain rfl : i = j := by omega
      have EP : Hid (posK (keysO l) t = i) := posK_of (by rw [HKL.out]; exact hj) HLo.out (fun s hs => HHi.out i (Nat.le_refl _) s hs)
      by_cases hil : i < l.length
      · have hs : l[i]? = some l[i] := List.getElem?_eq_getElem hil
        generalize l[i] = s at hs
        obtain ⟨bk, o, hA, hbk, c0, c1, c2, c3, c4, c5⟩ := H.out.at_ hs
        replace c0 := cell_later HBr.out c0
        replace c1 := cell_later HBr.out c1
        replace c2 := cell_later HBr.out c2
        replace c3 := cell_later HBr.out c3
        replace c4 := cell_later HBr.out c4
        replace c5 := cell_later HBr.out c5
        have HC := Lib.hid (HF.out i s hs wr HBr.out)
        subst hA
        unfold Obj.v at HC
        try simp only [List.append_toArray, Array.append, List.cons_append, List.nil_append] at HC
        have EF : Hid (foundK (keysO l) t = ((s.a : Int) == t)) := by show _ = _; unfold foundK; rw [EP.out, keysO_at hs]
        have hk : ¬ (s.a : Int) < t := by have := HHi.out i (Nat.le_refl _) _ (keysO_at hs); omega
        clear hs
        by_cases hk2 : t < (s.a : Int)
        · have EF : Hid (foundK (keysO l) t = false) := by show _ = _; rw [EF.out, beq_eq_false_iff_ne]; omega
          rw [show cmpI s.a t = 1 from by unfold cmpI; rw [if_neg hk, if_pos hk2]] at HC
          clear hk hk2
          go_wp2_with fail
          refine HC.out.mono ?_
          rintro e w1 ⟨rfl, hb1⟩
          have HB1 := Lib.hid (bthen HBr.out hb1)
          clear hb1
          go_wp2
          go_ret2
          rw [EP.out, EF.out]
          exact ⟨rfl, HB1.out⟩
        · have EF : Hid (foundK (keysO l) t = true) := by show _ = _; rw [EF.out, beq_iff_eq]; omega
          rw [show cmpI s.a t = 0 from by unfold cmpI; rw [if_neg hk, if_neg hk2]] at HC
          clear hk hk2
          go_wp2_with fail
          refine HC.out.mono ?_
          rintro e w1 ⟨rfl, hb1⟩
          have HB1 := Lib.hid (bthen HBr.out hb1)
          clear hb1
          go_wp2
          go_ret2
          rw [EP.out, EF.out]
          exact ⟨rfl, HB1.out⟩
      · have EF : Hid (foundK (keysO l) t = false) := by show _ = _; unfold foundK; rw [EP.out, List.getElem?_eq_none (by have := HKL.out; omega)]
        go_wp2
        go_ret2
        rw [EP.out, EF.out]
        exact ⟨rfl, HBr.out⟩
end Go.Proofs.YtieijfefnedifaaGreatDoor

/- The walks of find, leads and refs of heap's store. -/
namespace Go.Proofs.YtieijfefnedifaaGreatDoor
open Go.RowKit
set_option linter.unusedVariables false
set_option linter.unusedSimpArgs false

structure Sees (w : World) (b : Nat) (v : HeapV) (h : HeapB) (os : List Obj) (A : Option Addr) (c : Nat) : Prop where
  st : StAt w b v (.slice A os.length c)
  ob : RdO w A os
  hp : RdH w v h
  lt : b < w.heap.size
theorem Sees.below {w w1 : World} {b c : Nat} {v : HeapV} {h : HeapB} {os : List Obj} {A : Option Addr} (s : Sees w b v h os A c) (hb : Below w.heap.size w w1) : Sees w1 b v h os A c :=
  ⟨s.st.below hb, s.ob.below hb, s.hp.below hb, Nat.lt_of_lt_of_le s.lt hb.size⟩
def zeroO : Obj := ⟨0, 0, 0, 0, 0, false⟩
def findV (o : Option Obj) : Value := match o with | some o => o.v | none => zeroO.v
set_option maxRecDepth 100000 in
set_option maxHeartbeats 8000000 in
theorem find109 (b c : Nat) (v : HeapV) (h : HeapB) (os : List Obj) (A : Option Addr) (t : Int) (w : World) (hs : Sees w b v h os A c) (hfew : os.length ≤ 100000) (hso : SortedK (keysO os)) :
    Calls Tryz.prog 109 #[.pointer (some ⟨b, 0, none⟩), .int .u64 t] w (Ret (.tuple #[findV (findO os t), .bool (findO os t).isSome]) w) := by
  have CS : Hid (Calls Tryz.prog 117 #[.slice A os.length c, .int .u64 t, .func (.func 118) #[] #[]] (w.alloc (.cells #[.int .i64 0, .int .i64 0, .int .u64 0, .int .i64 0, .int .u64 0, .bool false] 134)) (Ret (.tuple #[.int .i64 (posK (keysO os) t), .bool (foundK (keysO os) t)]) (w.alloc (.cells #[.int .i64 0, .int .i64 0, .int .u64 0, .int .i64 0, .int .u64 0, .bool false] 134)))) :=
    searchO os A c 118 #[] t _ (hs.ob.below (balloc (Below.refl _ _) _)) hfew entersO hso (fun i s hi W hW => by simpa using cmpO s t W)
  have HB0 : Hid (Below w.heap.size w (w.alloc (.cells #[.int .i64 0, .int .i64 0, .int .u64 0, .int .i64 0, .int .u64 0, .bool false] 134))) := balloc (Below.refl _ _) _
  have s4 := hs.st.c4
  have hb := hs.lt
  cases hf : foundK (keysO os) t
  · rw [find_missing hso hf]
    rw [hf] at CS
    clear hs hso hf
    go_enter Tryz.func109, Tryz.ntmps109
    go_wp2_with (go_at_call 117; refine CS.out.mono ?_)
    rintro e w1 ⟨rfl, hb1⟩
    obtain ⟨hc1, hf1, hs1⟩ := bcellB (B := w.heap.size + 1) hb1 (by simp)
    have HB1 := Lib.hid (bthen HB0.out hb1)
    clear hb1 CS
    have y0 : b < w.heap.size + 1 := by omega
    have y1 : w.heap.size < w1.heap.size := by omega
    generalize posK (keysO os) t = p at *
    go_wp2
    refine bodyPost_ret (v := .tuple #[zeroO.v, .bool false]) (by simp [results, Tryz.results109, go_sem, hc1, y1, zeroO, Obj.v]) rfl ?_
    refine ⟨rfl, ?_⟩
    repeat (refine Below.setCell ?_ (by first | (simp; done) | (simp; omega)) _)
    exact HB1.out
  · obtain ⟨o, ho, ef⟩ := find_found hf
    rw [ef]
    rw [hf] at CS
    obtain ⟨bk, oo, hA, hbk, c0, c1, c2, c3, c4, c5⟩ := hs.ob.at_ ho
    have hlt := (List.getElem?_eq_some_iff.1 ho).1
    generalize posK (keysO os) t = p at *
    have hpl : (p : Int) < (os.length : Int) := by omega
    subst hA
    clear hs hso hf ho ef
    cases hcu : o.cur
    · rw [if_neg (by decide)]
      rw [hcu] at c5
      go_enter Tryz.func109, Tryz.ntmps109
      go_wp2_with (go_at_call 117; refine CS.out.mono ?_)
      rintro e w1 ⟨rfl, hb1⟩
      obtain ⟨hc1, hf1, hs1⟩ := bcellB (B := w.heap.size + 1) hb1 (by simp)
      have HB1 := Lib.hid (bthen HB0.out hb1)
      clear hb1 CS
      have y0 : b < w.heap.size + 1 := by omega
      have y1 : w.heap.size < w1.heap.size := by omega
      have z0 : bk < w.heap.size + 1 := by omega
      go_wp2
      refine bodyPost_ret (v := .tuple #[zeroO.v, .bool false]) (by simp [results, Tryz.results109, go_sem, hc1, y1, zeroO, Obj.v]) rfl ?_
      refine ⟨rfl, ?_⟩
      repeat (refine Below.setCell ?_ (by first | (simp; done) | (simp; omega)) _)
      exact HB1.out
    · rw [if_pos rfl]
      rw [hcu] at c5
      obtain ⟨oi, ok, oa, on, om, ocur⟩ := o
      simp only at c0 c1 c2 c3 c4 c5 hcu
      subst hcu
      go_enter Tryz.func109, Tryz.ntmps109
      go_wp2_with (go_at_call 117; refine CS.out.mono ?_)
      rintro e w1 ⟨rfl, hb1⟩
      obtain ⟨hc1, hf1, hs1⟩ := bcellB (B := w.heap.size + 1) hb1 (by simp)
      have HB1 := Lib.hid (bthen HB0.out hb1)
      clear hb1 CS
      have y0 : b < w.heap.size + 1 := by omega
      have y1 : w.heap.size < w1.heap.size := by omega
      have z0 : bk < w.heap.size + 1 := by omega
      go_wp2
      refine bodyPost_ret (v := .tuple #[Obj.v ⟨oi, ok, oa, on, om, true⟩, .bool true]) (by simp [results, Tryz.results109, go_sem, hc1, y1, Obj.v]) rfl ?_
      refine ⟨rfl, ?_⟩
      repeat (refine Below.setCell ?_ (by first | (simp; done) | (simp; omega)) _)
      exact HB1.out
set_option maxRecDepth 100000 in
set_option maxHeartbeats 8000000 in
theorem leads86 (b c : Nat) (v : HeapV) (h : HeapB) (os : List Obj) (A : Option Addr) (t : Int) (w : World) (hs : Sees w b v h os A c) (hfew : os.length ≤ 100000) (hso : SortedK (keysO os)) :
    Calls Tryz.prog 86 #[.pointer (some ⟨b, 0, none⟩), .int .u64 t] w (Ret (.bool (leadsP os t)) w) := by
  have CF := Lib.hid (find109 b c v h os A t w hs hfew hso)
  clear hs hso
  cases hf : findO os t with
  | none =>
    have E : Hid (leadsP os t = (t == 0)) := by show _ = _; unfold leadsP; rw [hf]; rfl
    rw [hf] at CF
    unfold findV zeroO Obj.v at CF
    simp only at CF
    clear hf
    go_enter Tryz.func86, Tryz.ntmps86
    go_wp2_with (go_at_call 109; refine CF.out.mono ?_)
    rintro e w1 ⟨rfl, hb1⟩
    go_wp2
    go_ret
    rw [E.out]
    exact ⟨rfl, balloc hb1 _⟩
  | some o =>
    have E : Hid (leadsP os t = true) := by show _ = _; unfold leadsP; rw [hf]; rfl
    rw [hf] at CF
    unfold findV Obj.v at CF
    simp only at CF
    clear hf
    go_enter Tryz.func86, Tryz.ntmps86
    go_wp2_with (go_at_call 109; refine CF.out.mono ?_)
    rintro e w1 ⟨rfl, hb1⟩
    go_wp2
    go_ret
    rw [E.out]
    exact ⟨rfl, balloc hb1 _⟩
end Go.Proofs.YtieijfefnedifaaGreatDoor

/- The walks of refs, with leads as what is called of each. -/
namespace Go.Proofs.YtieijfefnedifaaGreatDoor
open Go.RowKit
set_option linter.unusedVariables false
set_option linter.unusedSimpArgs false

theorem refsP_no {ar : List Int} {o : Obj} {p : Int → Bool} {k n : Nat} (hk : k < n) (h1 : mbit o.m k = true) (h2 : p (wd ar (o.a + 1 + k)) = false) : refsP ar o p n = false := by
  induction n with
  | zero => omega
  | succ n ih =>
    rw [refsP]
    by_cases e : k = n
    · subst e
      rw [h1, h2]
      simp
    · rw [ih (by omega)]
      rfl
set_option maxRecDepth 100000 in
set_option maxHeartbeats 16000000 in
theorem refs85 (b c : Nat) (v : HeapV) (h : HeapB) (os : List Obj) (A : Option Addr) (o : Obj) (w : World) (hs : Sees w b v h os A c) (hfew : os.length ≤ 100000) (hso : SortedK (keysO os))
    (hn : 0 ≤ o.n ∧ o.n ≤ 48) (hm : 0 ≤ o.m ∧ o.m < 18446744073709551616) (ha : o.a + 1 + o.n.toNat ≤ h.ar.length) (har : h.ar.length ≤ 16384) :
    Calls Tryz.prog 85 #[.pointer (some ⟨b, 0, none⟩), o.v, .func (.func 86) #[.pointer (some ⟨b, 0, none⟩)] #[]] w (Ret (.bool (refsP h.ar o (leadsP os) o.n.toNat)) w) := by
  have CI : Hid (∀ (f : Nat), f ≤ 64 → ∀ W, Calls Tryz.prog 78 #[.agg #[.int .i64 o.n, .int .u64 o.m], .int .i64 f] W (Ret (.bool (mbit o.m f)) W)) := fun f hf W => mbit_is o.n o.m f W hm hf
  have CL : Hid (∀ (t : Int) W, Below w.heap.size w W → Calls Tryz.prog 86 #[.pointer (some ⟨b, 0, none⟩), .int .u64 t] W (Ret (.bool (leadsP os t)) W)) := fun t W hW => leads86 b c v h os A t W (hs.below hW) hfew hso
  have HS := Lib.hid hs
  have HN := Lib.hid hn
  have HA := Lib.hid ha
  have HAR := Lib.hid har
  have hb := hs.lt
  have hvn := hs.hp.n
  obtain ⟨N, hNN⟩ := Int.eq_ofNat_of_zero_le hn.1
  have HNN : Hid (o.n = (N : Int) ∧ o.n.toNat = N ∧ N ≤ 48) := ⟨hNN, by omega, by omega⟩
  obtain ⟨aA, aN, aC, ub, sA, sN, sC, vs⟩ := v
  simp only at hvn
  subst hvn
  rw [HNN.out.2.1]
  unfold Obj.v
  have HB0 : Hid (Below w.heap.size w (w.alloc (.cells #[.int .i64 o.i, .int .i64 o.k, .int .u64 o.a, .int .i64 o.n, .int .u64 o.m, .bool o.cur] 134))) := balloc (Below.refl _ _) _
  have hN48 : N ≤ 48 := HNN.out.2.2
  rw [hNN] at CI HB0 ⊢
  clear hs hn hm ha har hso hNN
  go_enter Tryz.func85, Tryz.ntmps85
  go_wp2
  have F0 : Hid ((w.alloc (.cells #[.int .i64 o.i, .int .i64 o.k, .int .u64 o.a, .int .i64 (N : Int), .int .u64 o.m, .bool o.cur] 134)).cell? ⟨w.heap.size, 2, none⟩ = some (.int .u64 o.a)) := by show _ = _; go_simp
  have F1 : Hid ((w.alloc (.cells #[.int .i64 o.i, .int .i64 o.k, .int .u64 o.a, .int .i64 (N : Int), .int .u64 o.m, .bool o.cur] 134)).cell? ⟨w.heap.size, 3, none⟩ = some (.int .i64 (N : Int))) := by show _ = _; go_simp
  have F2 : Hid ((w.alloc (.cells #[.int .i64 o.i, .int .i64 o.k, .int .u64 o.a, .int .i64 (N : Int), .int .u64 o.m, .bool o.cur] 134)).cell? ⟨w.heap.size, 4, none⟩ = some (.int .u64 o.m)) := by show _ = _; go_simp
  generalize hWA : w.alloc (.cells #[.int .i64 o.i, .int .i64 o.k, .int .u64 o.a, .int .i64 (N : Int), .int .u64 o.m, .bool o.cur] 134) = WA at *
  generalize hqq : w.heap.size = q at *
  have HQ := Lib.hid hqq
  clear hWA hqq
  obtain ⟨wo, hwo⟩ : ∃ wo : World, wo = WA := ⟨_, rfl⟩
  go_loopw [11] (fun i wr => ∃ k : Nat, k ≤ N ∧ i = .int .i64 k ∧ Hid (refsP h.ar o (leadsP os) k = true) ∧ Hid (wr.cell? ⟨q, 2, none⟩ = some (.int .u64 o.a)) ∧ Hid (wr.cell? ⟨q, 3, none⟩ = some (.int .i64 (N : Int))) ∧ Hid (wr.cell? ⟨q, 4, none⟩ = some (.int .u64 o.m)) ∧ Hid (Below q w wr)) (fun i _ => N - (intOf i).toNat)
  case atStart => exact ⟨0, Nat.zero_le _, rfl, rfl, F0.out, F1.out, F2.out, HB0.out⟩
  case round =>
    obtain ⟨k, hk, rfl, HT, R0, R1, R2, HBr⟩ := hrel
    clear F0 F1 F2 HB0 hwo
    by_cases hlt : k < N
    · have CIK := Lib.hid (CI.out k (by omega))
      have HBW : Hid (Below w.heap.size w wr) := by rw [HQ.out]; exact HBr.out
      have HSR := Lib.hid (HS.out.below HBW.out)
      have hj : o.a + 1 + k < h.ar.length := by have := HA.out; have := HNN.out.2.1; omega
      obtain ⟨j, hjj⟩ : ∃ j, j = o.a + 1 + k := ⟨_, rfl⟩
      rw [← hjj] at hj
      have hx : h.ar[j]? = some h.ar[j] := List.getElem?_eq_getElem hj
      have hxw : wd h.ar (o.a + 1 + k) = h.ar[j] := by rw [← hjj]; exact wd_at hx
      generalize h.ar[j] = x at hx hxw
      obtain ⟨ba, oa, hAa, hba, hca⟩ := HSR.out.hp.ar.at_ hx
      simp only at hAa
      subst hAa
      have X0 := Lib.hid hca
      have S0 := Lib.hid HSR.out.st.c0
      simp only at S0
      have HXW := Lib.hid hxw
      have hw1 : IntKind.u64.wrap ((o.a : Int) + 1) = (o.a : Int) + 1 := by rw [u64_wrap_]; have := HAR.out; omega
      have hw2 : IntKind.u64.wrap (k : Int) = (k : Int) := by rw [u64_wrap_]; omega
      have hw3 : IntKind.u64.wrap ((o.a : Int) + 1 + (k : Int)) = (j : Int) := by rw [u64_wrap_]; have := HAR.out; omega
      have hq1 : (0 : Int) ≤ (j : Int) := by omega
      have hq2 : (j : Int) < (h.ar.length : Int) := by omega
      have CLX := Lib.hid (CL.out x)
      clear hx hxw hba hca hjj hj HBW
      cases hbit : mbit o.m k
      · have HT1 : Hid (refsP h.ar o (leadsP os) (k + 1) = true) := by show _ = _; rw [refsP, HT.out, hbit]; rfl
        rw [hbit] at CIK
        clear hbit hw1 hw2 hw3 hq1 hq2 CLX
        go_wp2
        refine region_up (by kernel_rfl) (by kernel_rfl) ?_
        iterate 3
          go_big_quiet_want
          apply Exists.intro
          refine ⟨fun W hW => ?_, ?_⟩
          · have g0 := cell_later hW R0.out
            have g1 := cell_later hW R1.out
            have g2 := cell_later hW R2.out
            go_simp
            all_goals exact rfl
          simp only [Act.put, List.setIfInBounds_toArray, List.set_cons_succ, List.set_cons_zero]
          go_big_quiet_on
        go_big_quiet_want
        apply Exists.intro
        refine ⟨fun W hW => ?_, ?_⟩
        · have g0 := cell_later hW R0.out
          have g1 := cell_later hW R1.out
          have g2 := cell_later hW R2.out
          go_simp
          exact call_up hW (CIK.out W)
        simp only [Act.put, List.setIfInBounds_toArray, List.set_cons_succ, List.set_cons_zero]
        go_big_quiet_on
        go_big_quiet_want
        apply Exists.intro
        refine ⟨fun W hW => ?_, ?_⟩
        · have g0 := cell_later hW R0.out
          have g1 := cell_later hW R1.out
          have g2 := cell_later hW R2.out
          go_simp
          all_goals exact rfl
        simp only [Act.put, List.setIfInBounds_toArray, List.set_cons_succ, List.set_cons_zero]
        go_big_quiet_on
        iterate 17 go_big_quiet_skip
        go_big_quiet_want
        apply Exists.intro
        refine ⟨fun W hW => ?_, ?_⟩
        · have g0 := cell_later hW R0.out
          have g1 := cell_later hW R1.out
          have g2 := cell_later hW R2.out
          go_simp
          all_goals exact rfl
        simp only [Act.put, List.setIfInBounds_toArray, List.set_cons_succ, List.set_cons_zero]
        go_big_quiet_on
        refine wpQuiet_nil ?_
        intro W hW
        have HB2 : Hid (Below q w W) := by have h1 := HBr.out; rw [← HQ.out] at h1 ⊢; exact bthen h1 hW
        have r0 := Lib.hid (cell_later hW R0.out)
        have r1 := Lib.hid (cell_later hW R1.out)
        have r2 := Lib.hid (cell_later hW R2.out)
        clear hW R0 R1 R2 CIK
        go_wp2
        go_roundw
        case rel => exact ⟨k + 1, by omega, by go_num, HT1.out, r0.out, r1.out, r2.out, HB2.out⟩
        case measure => simp [intOf]; omega
      · rw [hbit] at CIK
        cases hld : leadsP os x
        · have E : Hid (refsP h.ar o (leadsP os) N = false) := refsP_no hlt hbit (by rw [HXW.out]; exact hld)
          rw [hld] at CLX
          clear hbit hld
          go_wp2
          refine region_up (by kernel_rfl) (by kernel_rfl) ?_
          iterate 3
            go_big_quiet_want
            apply Exists.intro
            refine ⟨fun W hW => ?_, ?_⟩
            · have g0 := cell_later hW R0.out
              have g1 := cell_later hW R1.out
              have g2 := cell_later hW R2.out
              have g3 := cell_later hW S0.out
              have g4 := cell_later hW X0.out
              go_simp
              all_goals exact rfl
            simp only [Act.put, List.setIfInBounds_toArray, List.set_cons_succ, List.set_cons_zero]
            go_big_quiet_on
          go_big_quiet_want
          apply Exists.intro
          refine ⟨fun W hW => ?_, ?_⟩
          · have g0 := cell_later hW R0.out
            have g1 := cell_later hW R1.out
            have g2 := cell_later hW R2.out
            have g3 := cell_later hW S0.out
            have g4 := cell_later hW X0.out
            go_simp
            exact call_up hW (CIK.out W)
          simp only [Act.put, List.setIfInBounds_toArray, List.set_cons_succ, List.set_cons_zero]
          go_big_quiet_on
          iterate 16
            go_big_quiet_want
            apply Exists.intro
            refine ⟨fun W hW => ?_, ?_⟩
            · have g0 := cell_later hW R0.out
              have g1 := cell_later hW R1.out
              have g2 := cell_later hW R2.out
              have g3 := cell_later hW S0.out
              have g4 := cell_later hW X0.out
              go_simp
              all_goals exact rfl
            simp only [Act.put, List.setIfInBounds_toArray, List.set_cons_succ, List.set_cons_zero]
            go_big_quiet_on
          go_big_quiet_want
          apply Exists.intro
          refine ⟨fun W hW => ?_, ?_⟩
          · have g0 := cell_later hW R0.out
            have g1 := cell_later hW R1.out
            have g2 := cell_later hW R2.out
            have g3 := cell_later hW S0.out
            have g4 := cell_later hW X0.out
            go_simp
            exact call_up hW (CLX.out W (by have h1 := HBr.out; rw [← HQ.out] at h1 ⊢; exact bthen h1 hW))
          simp only [Act.put, List.setIfInBounds_toArray, List.set_cons_succ, List.set_cons_zero]
          go_big_quiet_on
          iterate 2
            go_big_quiet_want
            apply Exists.intro
            refine ⟨fun W hW => ?_, ?_⟩
            · have g0 := cell_later hW R0.out
              have g1 := cell_later hW R1.out
              have g2 := cell_later hW R2.out
              have g3 := cell_later hW S0.out
              have g4 := cell_later hW X0.out
              go_simp
              all_goals exact rfl
            simp only [Act.put, List.setIfInBounds_toArray, List.set_cons_succ, List.set_cons_zero]
            go_big_quiet_on
          refine wpQuiet_nil ?_
          intro W hW
          have HB2 : Hid (Below q w W) := by have h1 := HBr.out; rw [← HQ.out] at h1 ⊢; exact bthen h1 hW
          clear hW
          go_wp2
          go_ret
          rw [E.out]
          have h1 := HB2.out
          rw [← HQ.out] at h1
          exact ⟨rfl, h1⟩
        · have HT1 : Hid (refsP h.ar o (leadsP os) (k + 1) = true) := by show _ = _; rw [refsP, HT.out, HXW.out, hld]; simp
          rw [hld] at CLX
          clear hbit hld
          go_wp2
          refine region_up (by kernel_rfl) (by kernel_rfl) ?_
          iterate 3
            go_big_quiet_want
            apply Exists.intro
            refine ⟨fun W hW => ?_, ?_⟩
            · have g0 := cell_later hW R0.out
              have g1 := cell_later hW R1.out
              have g2 := cell_later hW R2.out
              have g3 := cell_later hW S0.out
              have g4 := cell_later hW X0.out
              go_simp
              all_goals exact rfl
            simp only [Act.put, List.setIfInBounds_toArray, List.set_cons_succ, List.set_cons_zero]
            go_big_quiet_on
          go_big_quiet_want
          apply Exists.intro
          refine ⟨fun W hW => ?_, ?_⟩
          · have g0 := cell_later hW R0.out
            have g1 := cell_later hW R1.out
            have g2 := cell_later hW R2.out
            have g3 := cell_later hW S0.out
            have g4 := cell_later hW X0.out
            go_simp
            exact call_up hW (CIK.out W)
          simp only [Act.put, List.setIfInBounds_toArray, List.set_cons_succ, List.set_cons_zero]
          go_big_quiet_on
          iterate 16
            go_big_quiet_want
            apply Exists.intro
            refine ⟨fun W hW => ?_, ?_⟩
            · have g0 := cell_later hW R0.out
              have g1 := cell_later hW R1.out
              have g2 := cell_later hW R2.out
              have g3 := cell_later hW S0.out
              have g4 := cell_later hW X0.out
              go_simp
              all_goals exact rfl
            simp only [Act.put, List.setIfInBounds_toArray, List.set_cons_succ, List.set_cons_zero]
            go_big_quiet_on
          go_big_quiet_want
          apply Exists.intro
          refine ⟨fun W hW => ?_, ?_⟩
          · have g0 := cell_later hW R0.out
            have g1 := cell_later hW R1.out
            have g2 := cell_later hW R2.out
            have g3 := cell_later hW S0.out
            have g4 := cell_later hW X0.out
            go_simp
            exact call_up hW (CLX.out W (by have h1 := HBr.out; rw [← HQ.out] at h1 ⊢; exact bthen h1 hW))
          simp only [Act.put, List.setIfInBounds_toArray, List.set_cons_succ, List.set_cons_zero]
          go_big_quiet_on
          iterate 2
            go_big_quiet_want
            apply Exists.intro
            refine ⟨fun W hW => ?_, ?_⟩
            · have g0 := cell_later hW R0.out
              have g1 := cell_later hW R1.out
              have g2 := cell_later hW R2.out
              have g3 := cell_later hW S0.out
              have g4 := cell_later hW X0.out
              go_simp
              all_goals exact rfl
            simp only [Act.put, List.setIfInBounds_toArray, List.set_cons_succ, List.set_cons_zero]
            go_big_quiet_on
          refine wpQuiet_nil ?_
          intro W hW
          have HB2 : Hid (Below q w W) := by have h1 := HBr.out; rw [← HQ.out] at h1 ⊢; exact bthen h1 hW
          have r0 := Lib.hid (cell_later hW R0.out)
          have r1 := Lib.hid (cell_later hW R1.out)
          have r2 := Lib.hid (cell_later hW R2.out)
          clear hW R0 R1 R2 CIK
          go_wp2
          go_roundw
          case rel => exact ⟨k + 1, by omega, by go_num, HT1.out, r0.out, r1.out, r2.out, HB2.out⟩
          case measure => simp [intOf]; omega
    · obtain rfl : k = N := by omega
      go_wp2
      go_ret
      rw [HT.out]
      have h1 := HBr.out
      rw [← HQ.out] at h1
      exact ⟨rfl, h1⟩
end Go.Proofs.YtieijfefnedifaaGreatDoor

/- The walks of sound's zero, and of what it calls. -/
namespace Go.Proofs.YtieijfefnedifaaGreatDoor
open Go.RowKit
set_option linter.unusedVariables false
set_option linter.unusedSimpArgs false

def nz (x : Int) : Bool := x != 0
def idxNZ (l : List Int) : Int := match l.findIdx? nz with | some i => (i : Int) | none => -1
theorem nz_some {l : List Int} {k : Nat} {s : Int} (hs : l[k]? = some s) (hp : nz s = true) (hno : ∀ j, j < k → ∀ s, l[j]? = some s → nz s = false) : l.findIdx? nz = some k := by
  obtain ⟨h1, h2⟩ := List.getElem?_eq_some_iff.1 hs
  rw [List.findIdx?_eq_some_iff_getElem]
  refine ⟨h1, by rw [h2]; exact hp, fun j hj => ?_⟩
  have := hno j hj _ (List.getElem?_eq_getElem (by omega))
  simp [this]
theorem nz_none {l : List Int} (hno : ∀ j, j < l.length → ∀ s, l[j]? = some s → nz s = false) : l.findIdx? nz = none := by
  rw [List.findIdx?_eq_none_iff]
  intro x hx
  obtain ⟨i, hi, rfl⟩ := List.getElem_of_mem hx
  exact hno i hi _ (List.getElem?_eq_getElem hi)
theorem nz84 (x : Int) (w : World) : Calls Tryz.prog 84 #[.int .u64 x] w (Ret (.bool (nz x)) w) := by
  go_enter Tryz.func84, Tryz.ntmps84
  go_wp2
  go_ret
  exact ⟨rfl, Below.refl _ _⟩
set_option maxRecDepth 100000 in
set_option maxHeartbeats 8000000 in
theorem index108 (l : List Int) (A : Option Addr) (c : Nat) (w : World) (h : RdU w A l) (hl : l.length ≤ 16384) :
    Calls Tryz.prog 108 #[.slice A l.length c, .func (.func 84) #[] #[]] w (Ret (.int .i64 (idxNZ l)) w) := by
  have H := Lib.hid h
  clear h
  go_enter Tryz.func108, Tryz.ntmps108
  go_wp2
  obtain ⟨wo, hwo⟩ : ∃ wo : World, wo = w := ⟨w, rfl⟩
  go_loopw [8] (fun i wr => ∃ k : Nat, k ≤ l.length ∧ i = .int .i64 k ∧ Hid (∀ j, j < k → ∀ s, l[j]? = some s → nz s = false) ∧ Hid (Below w.heap.size w wr)) (fun i _ => l.length - (intOf i).toNat)
  case atStart => exact ⟨0, Nat.zero_le _, rfl, fun j hj => by omega, Below.refl _ _⟩
  case round =>
    obtain ⟨k, hk, rfl, HNO, HBr⟩ := hrel
    by_cases hlt : k < l.length
    · have hs : l[k]? = some l[k] := List.getElem?_eq_getElem hlt
      generalize l[k] = s at hs
      obtain ⟨b, o, hA, hb, hc⟩ := (H.out.below HBr.out).at_ hs
      subst hA
      have HSS := Lib.hid hs
      have CN := Lib.hid (nz84 s wr)
      clear hs
      cases hz : nz s
      · have HN1 : Hid (∀ j, j < k + 1 → ∀ s, l[j]? = some s → nz s = false) := by
          intro j hj x hx
          by_cases e : j = k
          · subst e
            rw [HSS.out] at hx
            cases hx
            exact hz
          · exact HNO.out j (by omega) x hx
        rw [hz] at CN
        clear hz
        go_wp2_with fail
        refine CN.out.mono ?_
        rintro e w1 ⟨rfl, hb1⟩
        have HB1 := Lib.hid (bthen HBr.out hb1)
        clear hb1
        go_wp2
        go_roundw
        case rel => exact ⟨k + 1, by omega, by go_num, HN1.out, HB1.out⟩
        case measure => simp [intOf]; omega
      · have E : Hid (idxNZ l = (k : Int)) := by show _ = _; unfold idxNZ; rw [nz_some HSS.out hz HNO.out]
        rw [hz] at CN
        clear hz
        go_wp2_with fail
        refine CN.out.mono ?_
        rintro e w1 ⟨rfl, hb1⟩
        have HB1 := Lib.hid (bthen HBr.out hb1)
        clear hb1
        go_wp2
        go_ret
        rw [E.out]
        exact ⟨rfl, HB1.out⟩
    · obtain rfl : k = l.length := by omega
      have E : Hid (idxNZ l = -1) := by show _ = _; unfold idxNZ; rw [nz_none HNO.out]
      go_wp2
      go_ret
      rw [E.out]
      exact ⟨rfl, HBr.out⟩
theorem idxNZ_any (l : List Int) : decide (0 ≤ idxNZ l) = l.any nz := by
  unfold idxNZ
  cases h : l.findIdx? nz with
  | none =>
    rw [List.findIdx?_eq_none_iff] at h
    have : l.any nz = false := by rw [List.any_eq_false]; intro x hx; simp [h x hx]
    rw [this]
    decide
  | some i =>
    rw [List.findIdx?_eq_some_iff_getElem] at h
    obtain ⟨h1, h2, _⟩ := h
    have : l.any nz = true := List.any_eq_true.2 ⟨_, List.getElem_mem h1, h2⟩
    rw [this]
    simp
theorem contains83 (l : List Int) (A : Option Addr) (c : Nat) (w : World) (h : RdU w A l) (hl : l.length ≤ 16384) :
    Calls Tryz.prog 83 #[.slice A l.length c, .func (.func 84) #[] #[]] w (Ret (.bool (l.any nz)) w) := by
  have HC := Lib.hid (index108 l A c w h hl)
  have hk : idxNZ l < 0 ∨ 0 ≤ idxNZ l := by omega
  rw [← idxNZ_any]
  generalize idxNZ l = k at *
  clear h
  go_enter Tryz.func83, Tryz.ntmps83
  go_wp2_with (go_at_call 108; refine HC.out.mono ?_)
  rintro e w1 ⟨rfl, hb1⟩
  rcases hk with hk | hk
  · rw [decide_eq_false (show ¬ 0 ≤ k by omega)]
    go_wp2
    go_ret
    exact ⟨by simp <;> omega, hb1⟩
  · rw [decide_eq_true hk]
    go_wp2
    go_ret
    exact ⟨by simp; omega, hb1⟩
/-! ### A part of a row of words -/
def subL (l : List Int) (i j : Nat) : List Int := (l.drop i).take (j - i)
theorem subL_len {l : List Int} {i j : Nat} (h1 : i ≤ j) (h2 : j ≤ l.length) : (subL l i j).length = j - i := by
  unfold subL
  rw [List.length_take, List.length_drop]
  omega
theorem RdU.sub {w : World} {b o : Nat} {l : List Int} (h : RdU w (some ⟨b, o, none⟩) l) (i j : Nat) (h1 : i ≤ j) (h2 : j ≤ l.length) : RdU w (some ⟨b, o + i, none⟩) (subL l i j) := by
  have hlen := subL_len h1 h2
  refine ⟨by rw [us_len, Nat.mul_one], by have := h.len; omega, fun h0 => ?_⟩
  obtain ⟨b', o', e, hb, hc⟩ := h.2.2 (by omega)
  simp only [Option.some.injEq, Addr.mk.injEq, and_true] at e
  obtain ⟨rfl, rfl⟩ := e
  refine ⟨b, o + i, rfl, hb, fun k v hk => ?_⟩
  have hk1 : k < (subL l i j).length := by have := (List.getElem?_eq_some_iff.1 hk).1; rwa [us_len] at this
  rw [Nat.add_assoc]
  refine hc (i + k) v ?_
  rw [← hk]
  unfold us subL
  rw [List.getElem?_map, List.getElem?_map, List.getElem?_take, if_pos (by omega), List.getElem?_drop]
theorem zero_any {l : List Int} {i j : Nat} (h1 : i ≤ j) (h2 : j ≤ l.length) : zeroP l i j = !(subL l i j).any nz := by
  rw [Bool.eq_iff_iff]
  simp only [Bool.not_eq_true', List.any_eq_false]
  unfold zeroP
  rw [List.all_eq_true]
  constructor
  · intro h x hx
    obtain ⟨k, hk, rfl⟩ := List.getElem_of_mem hx
    rw [subL_len h1 h2] at hk
    have hm : i + k ∈ List.range' i (j - i) := by rw [List.mem_range'_1]; omega
    have h3 := h _ hm
    have e : (subL l i j)[k]? = l[i + k]? := by unfold subL; rw [List.getElem?_take, if_pos (by omega), List.getElem?_drop]
    have e2 : l[i + k]? = some (subL l i j)[k] := by rw [← e]; exact List.getElem?_eq_getElem _
    rw [wd_at e2] at h3
    unfold nz
    simpa using h3
  · intro h k hk
    rw [List.mem_range'_1] at hk
    have hkl : k < l.length := by omega
    have e : (subL l i j)[k - i]? = some l[k] := by
      unfold subL
      rw [List.getElem?_take, if_pos (by omega), List.getElem?_drop, show i + (k - i) = k by omega]
      exact List.getElem?_eq_getElem hkl
    have h3 := h _ (List.mem_of_getElem? e)
    rw [wd_at (List.getElem?_eq_getElem hkl)]
    unfold nz at h3
    simpa using h3
end Go.Proofs.YtieijfefnedifaaGreatDoor

/- The walk of sound's zero. -/
namespace Go.Proofs.YtieijfefnedifaaGreatDoor
open Go.RowKit
set_option linter.unusedVariables false
set_option linter.unusedSimpArgs false

theorem slice_u64 (W : World) (ba oa n aC lo hi : Nat) (h1 : lo ≤ hi) (h2 : hi ≤ aC) : (Instr.sliceAt 22 (.slice (some ⟨ba, oa, none⟩) n aC) (some (.int .u64 (lo : Int))) (some (.int .u64 (hi : Int))) none).run Tryz.prog W = .ok (.slice (if aC = lo then some ⟨ba, oa, none⟩ else some ⟨ba, oa + lo, none⟩) (hi - lo) (aC - lo)) W := by
  have hel : Tryz.prog.elem 22 = 46 := by kernel_rfl
  have hund : Tryz.prog.underlying 22 = some (.slice (Tryz.prog.elem 22)) := by rw [hel]; exact Tryz.underlying22
  rw [run_sliceAt_slice W 22 _ _ _ _ hund, run_slice_lh W 22 _ _ _ hund .u64 .u64 _ _ (by omega) (by omega) (by omega), hel, Tryz.sizeOf46, Int.toNat_natCast, Int.toNat_natCast]
  by_cases h0 : lo = 0
  · subst h0
    simp [sliced, Result.andThen, Addr.add]
  · simp [sliced, Result.andThen, Addr.add, h0]
set_option maxRecDepth 100000 in
set_option maxHeartbeats 8000000 in
theorem zero82 (b q1 q2 ba oa aC at_ upto : Nat) (ar : List Int) (w : World) (h1 : w.cell? ⟨q1, 0, none⟩ = some (.pointer (some ⟨b, 0, none⟩))) (h2 : w.cell? ⟨q2, 0, none⟩ = some (.int .u64 at_)) (h3 : w.cell? ⟨b, 0, none⟩ = some (.slice (some ⟨ba, oa, none⟩) ar.length aC))
    (hr : RdU w (some ⟨ba, oa, none⟩) ar) (ha : at_ ≤ upto) (hu : upto ≤ ar.length) (hl : ar.length ≤ 16384) (hc : ar.length ≤ aC) :
    Calls Tryz.prog 82 #[.int .u64 upto, .pointer (some ⟨q1, 0, none⟩), .pointer (some ⟨q2, 0, none⟩)] w (Ret (.bool (zeroP ar at_ upto)) w) := by
  have E := Lib.hid (zero_any (l := ar) ha hu)
  obtain ⟨X, hX⟩ : ∃ X, X = (if aC = at_ then some (⟨ba, oa, none⟩ : Addr) else some ⟨ba, oa + at_, none⟩) := ⟨_, rfl⟩
  have hrx : RdU w X (subL ar at_ upto) := by
    rw [hX]
    split
    · have e : subL ar at_ upto = [] := by
        have := subL_len ha hu
        exact List.eq_nil_of_length_eq_zero (by omega)
      rw [e]
      exact RdU.nil_ _ _
    · exact hr.sub at_ upto ha hu
  have CC : Hid (∀ W, Below w.heap.size w W → Calls Tryz.prog 83 #[.slice X (upto - at_) (aC - at_), .func (.func 84) #[] #[]] W (Ret (.bool ((subL ar at_ upto).any nz)) W)) := fun W hW => by
    have := contains83 (subL ar at_ upto) X (aC - at_) W (hrx.below hW) (by rw [subL_len ha hu]; omega)
    rwa [subL_len ha hu] at this
  have HSL : Hid (∀ W, (Instr.sliceAt 22 (.slice (some ⟨ba, oa, none⟩) ar.length aC) (some (.int .u64 (at_ : Int))) (some (.int .u64 (upto : Int))) none).run Tryz.prog W = .ok (.slice X (upto - at_) (aC - at_)) W) := fun W => by
    rw [hX]
    exact slice_u64 W ba oa ar.length aC at_ upto ha (by omega)
  have F1 := Lib.hid h1
  have F2 := Lib.hid h2
  have F3 := Lib.hid h3
  generalize (subL ar at_ upto).any nz = z at *
  generalize upto - at_ = n1 at *
  generalize aC - at_ = n2 at *
  clear h1 h2 h3 hr hX hrx
  go_enter Tryz.func82, Tryz.ntmps82
  go_wp2
  refine region_up (by kernel_rfl) (by kernel_rfl) ?_
  iterate 8
    go_big_quiet_want
    apply Exists.intro
    refine ⟨fun W hW => ?_, ?_⟩
    · have g0 := cell_later hW F1.out
      have g1 := cell_later hW F2.out
      have g2 := cell_later hW F3.out
      go_simp
      all_goals exact rfl
    simp only [Act.put, List.setIfInBounds_toArray, List.set_cons_succ, List.set_cons_zero]
    go_big_quiet_on
  go_big_quiet_want
  refine ⟨.slice X n1 n2, fun W hW => ?_, ?_⟩
  · unfold Oper.quietAt
    simp only [execOp, Sem.run_bind, Act.eval, Option.map]
    show Oper.quietUpon _ _ _ _ (((Instr.sliceAt 22 (.slice (some ⟨ba, oa, none⟩) ar.length aC) (some (.int .u64 (at_ : Int))) (some (.int .u64 (upto : Int))) none).run Tryz.prog W).andThen _)
    rw [HSL.out]
    simp only [Result.andThen_ok, Sem.run_pure]
    exact ⟨rfl, rfl⟩
  simp only [Act.put, List.setIfInBounds_toArray, List.set_cons_succ, List.set_cons_zero]
  go_big_quiet_on
  go_big_quiet_want
  apply Exists.intro
  refine ⟨fun W hW => ?_, ?_⟩
  · have g0 := cell_later hW F1.out
    go_simp
    exact call_up hW (CC.out W hW)
  simp only [Act.put, List.setIfInBounds_toArray, List.set_cons_succ, List.set_cons_zero]
  go_big_quiet_on
  iterate 2
    go_big_quiet_want
    apply Exists.intro
    refine ⟨fun W hW => ?_, ?_⟩
    · have g0 := cell_later hW F1.out
      have g1 := cell_later hW F2.out
      have g2 := cell_later hW F3.out
      go_simp
      all_goals exact rfl
    simp only [Act.put, List.setIfInBounds_toArray, List.set_cons_succ, List.set_cons_zero]
    go_big_quiet_on
  refine wpQuiet_nil ?_
  intro W hW
  go_wp2
  go_ret
  rw [E.out]
  exact ⟨rfl, hW⟩
end Go.Proofs.YtieijfefnedifaaGreatDoor

/- A heap whose objects were found: they stand apart, and in its arena. Plain. -/
namespace Go.Proofs.YtieijfefnedifaaGreatDoor
open Go.RowKit
set_option linter.unusedVariables false
set_option linter.unusedSimpArgs false

structure Fit (os : List Obj) (L : Nat) : Prop where
  each : ∀ o ∈ os, o.a + 1 + o.n.toNat ≤ L ∧ 0 ≤ o.n ∧ o.n ≤ 48 ∧ 0 ≤ o.m ∧ o.m < 18446744073709551616
  next : os.Pairwise (fun o p => o.a + 1 + o.n.toNat ≤ p.a)
  few : os.length ≤ 100000
theorem look_good {h : HeapB} (hl : lookP h = true) {c : Cand} (hc : c ∈ cands h.sp) : c.good h.ar = true := by
  unfold lookP at hl
  exact List.all_eq_true.1 hl c hc
theorem fit_of {h : HeapB} (hf : framedP h = true) (hl : lookP h = true) : Fit (objs h) h.ar.length := by
  obtain ⟨g1, g2, g3, g4, g5, g6⟩ := framed_parts hf
  refine ⟨?_, ?_, ?_⟩
  · intro o ho
    unfold objs at ho
    obtain ⟨c, hc, rfl⟩ := List.mem_map.1 ho
    obtain ⟨e1, e2, e3, e4⟩ := cand_end g3 hc
    obtain ⟨r1, r2, r3⟩ := good_room (look_good hl hc) e4
    obtain ⟨hs, _, _⟩ := mem_cands hc
    have h6 := g6 c.s (List.mem_of_getElem? hs)
    unfold Cand.obj
    simp only
    unfold endP at e2
    refine ⟨by omega, r1, r2, ?_, ?_⟩ <;> unfold unM <;> omega
  · unfold objs
    rw [List.pairwise_map]
    refine List.Pairwise.imp_of_mem ?_ (cands_apart g3)
    intro c d hc hd hcd
    obtain ⟨e1, e2, e3, e4⟩ := cand_end g3 hc
    obtain ⟨r1, r2, r3⟩ := good_room (look_good hl hc) e4
    unfold Cand.obj
    simp only
    omega
  · unfold objs cands
    rw [List.length_map]
    have h1 := candTo_few g3 h.sp.length (Nat.le_refl _)
    have h2 := okL_len g3
    omega
theorem Fit.sorted {os : List Obj} {L : Nat} (f : Fit os L) : SortedK (keysO os) := by
  intro a b x y hab hx hy
  have hb := (List.getElem?_eq_some_iff.1 hy).1
  have hbl : b < os.length := by simpa [keysO] using hb
  rw [keysO_at (List.getElem?_eq_getElem (show a < os.length by omega))] at hx
  rw [keysO_at (List.getElem?_eq_getElem hbl)] at hy
  have ex := Option.some.inj hx
  have ey := Option.some.inj hy
  rw [← ex, ← ey]
  by_cases e : a = b
  · subst e; exact Int.le_refl _
  · have := List.pairwise_iff_getElem.1 f.next a b (by omega) hbl (by omega)
    omega
theorem Fit.after {os : List Obj} {L k : Nat} (f : Fit os L) {o p : Obj} (ho : os[k]? = some o) (hp : os[k + 1]? = some p) : o.a + 1 + o.n.toNat ≤ p.a := by
  obtain ⟨h1, e1⟩ := List.getElem?_eq_some_iff.1 ho
  obtain ⟨h2, e2⟩ := List.getElem?_eq_some_iff.1 hp
  have := List.pairwise_iff_getElem.1 f.next k (k + 1) h1 h2 (by omega)
  rwa [e1, e2] at this
theorem drop_next {os : List Obj} {k : Nat} {o : Obj} (ho : os[k]? = some o) : os.drop k = o :: os.drop (k + 1) := by
  obtain ⟨h1, e1⟩ := List.getElem?_eq_some_iff.1 ho
  rw [← e1]
  exact List.drop_eq_getElem_cons h1
end Go.Proofs.YtieijfefnedifaaGreatDoor
