/- The walks of the reference's Of and Take. -/
import Derived.Test.YtiapiajldchnmaaWP
namespace Go.Proofs.Ytiapiajldchnmaa
open Go.RowKit
set_option linter.unusedVariables false
set_option linter.unusedSimpArgs false

theorem filter_more {l : List Sp} {k : Nat} (hk : k < l.length) (p : Sp → Bool) : (l.take (k + 1)).filter p = if p l[k] then (l.take k).filter p ++ [l[k]] else (l.take k).filter p := by
  rw [List.take_succ_eq_append_getElem hk, List.filter_append]
  cases h : p l[k] <;> simp [h]

set_option maxRecDepth 100000 in
set_option maxHeartbeats 8000000 in
theorem of13 (l : List Sp) (A : Option Addr) (c : Nat) (x : Int) (w : World) (hr : RdS w A l) (hc : l.length ≤ c) : Calls Try.prog 13 #[.slice A l.length c, .int .u64 x] w (RetS2 (ofP l x) (checkP l) w) := by
  have hl := hr.len
  have C20 := Lib.hid (check21 l A c w hr hc)
  have HR := Lib.hid hr
  clear hr
  cases hg : goodP l with
  | false =>
    have E : Hid (ofP l x = []) := by show _ = _; simp [ofP, hg]
    rw [checkP_no hg] at C20 ⊢
    rw [E.out]
    clear hg
    go_enter Try.func13, Try.ntmps13
    go_wp2_with (go_at_call 21; refine C20.out.mono ?_; rintro e w1 ⟨rfl, hb1⟩)
    go_ret2
    exact ⟨_, rfl, OwS.nil_ _ _, hb1⟩
  | true =>
    have hlen := good_len hg
    have E : Hid (ofP l x = l.filter (fun s => s.a == x)) := by show _ = _; simp [ofP, hg]
    rw [checkP_ok hg] at C20 ⊢
    clear hg
    go_enter Try.func13, Try.ntmps13
    go_wp2_with (go_at_call 21; refine C20.out.mono ?_; rintro e w1 ⟨rfl, hb1⟩)
    go_loopw [6, 14] (fun v i wr => ∃ k : Nat, k ≤ l.length ∧ i = .int .i64 k ∧ Hid (OwS wr w.heap.size v ((l.take k).filter (fun s => s.a == x))) ∧ Hid (Below w.heap.size w wr)) (fun _ i _ => l.length - (intOf i).toNat)
    case atStart => exact ⟨0, Nat.zero_le _, rfl, OwS.nil_ _ _, hb1⟩
    case round =>
      obtain ⟨k, hk, rfl, HO, HB⟩ := hrel
      obtain ⟨wo, rfl⟩ : ∃ wo : World, wo = wr := ⟨_, rfl⟩
      clear hb1 C20
      obtain ⟨vA, vc, hv, _, _⟩ := HO.out.shape
      subst hv
      by_cases hlt : k < l.length
      · have hs : l[k]? = some l[k] := List.getElem?_eq_getElem hlt
        obtain ⟨b, o, rfl, hB, c1, c2, c3⟩ := (HR.out.below HB.out).at_ hs
        have STEP := Lib.hid (filter_more hlt (fun s => s.a == x))
        have hkl := List.length_filter_le (fun s : Sp => s.a == x) (l.take k)
        rw [List.length_take] at hkl
        generalize l[k] = s at *
        clear hs
        generalize (l.take k).filter (fun s : Sp => s.a == x) = out at *
        have HOA : Hid (OwS (wo.alloc (.cells #[.int .u64 s.a, .int .u8 s.k, .int .u64 s.t] 41)) w.heap.size (.slice vA out.length vc) out) := World.ownsRow.alloc HO.out _
        have HBA : Hid (Below w.heap.size w (wo.alloc (.cells #[.int .u64 s.a, .int .u8 s.k, .int .u64 s.t] 41))) := balloc HB.out _
        cases hq : s.a == x with
        | false =>
          have S : Hid ((l.take (k + 1)).filter (fun s => s.a == x) = out) := by show _ = _; rw [STEP.out, hq]; rfl
          clear STEP
          go_wp2
          go_roundw
          case rel => exact ⟨k + 1, by omega, by go_num, by rw [S.out]; exact HOA.out, HBA.out⟩
          case measure => simp [intOf]; omega
        | true =>
          have S : Hid ((l.take (k + 1)).filter (fun s => s.a == x) = out ++ [s]) := by show _ = _; rw [STEP.out, hq]; rfl
          clear STEP
          have HOB : Hid (OwS ((wo.alloc (.cells #[.int .u64 s.a, .int .u8 s.k, .int .u64 s.t] 41)).alloc (.cells #[.int .u64 s.a, .int .u8 s.k, .int .u64 s.t] 41)) w.heap.size (.slice vA out.length vc) out) := World.ownsRow.alloc HOA.out _
          have HBB : Hid (Below w.heap.size w ((wo.alloc (.cells #[.int .u64 s.a, .int .u8 s.k, .int .u64 s.t] 41)).alloc (.cells #[.int .u64 s.a, .int .u8 s.k, .int .u64 s.t] 41))) := balloc HBA.out _
          have HRX : Hid (RdS ((wo.alloc (.cells #[.int .u64 s.a, .int .u8 s.k, .int .u64 s.t] 41)).alloc (.cells #[.int .u64 s.a, .int .u8 s.k, .int .u64 s.t] 41)) (some ⟨wo.heap.size + 1, 0, none⟩) [s]) := by
            show RdS _ _ _
            have h := rdS_new (wo.alloc (.cells #[.int .u64 s.a, .int .u8 s.k, .int .u64 s.t] 41)) s
            simpa using h
          go_wp2_with (at_builtin; refine wpl_appS rfl (.tmp 22) (.tmp 24) rfl w.heap.size _ out [s] rfl HOB.out (some ⟨wo.heap.size + 1, 0, none⟩) 1 rfl HRX.out ?h1 HBB.out.size ?_)
          case h1 => show (out.length + 1) * 24 ≤ _; omega
          intro v' w' ho' hg'
          have HO' : Hid (OwS w' w.heap.size v' ((l.take (k + 1)).filter (fun s => s.a == x))) := by show OwS _ _ _ _; rw [S.out]; exact ho'
          have HB' := Lib.hid (bown HBB.out hg' HOB.out)
          clear ho' hg'
          go_wp2
          go_roundw
          case rel => exact ⟨k + 1, by omega, by go_num, HO'.out, HB'.out⟩
          case measure => simp [intOf]; omega
      · have HO2 : Hid (OwS wo w.heap.size (.slice vA ((l.take k).filter (fun s => s.a == x)).length vc) (l.filter (fun s => s.a == x))) := by
          show OwS _ _ _ _
          have h := HO.out
          rw [List.take_of_length_le (by omega)] at h ⊢
          exact h
        go_wp2
        go_ret2
        rw [E.out]
        exact ⟨_, rfl, HO2.out, HB.out⟩

theorem head_own {w : World} {b : Nat} {v : Value} {s : Sp} {l : List Sp} {g : Nat} (h : OwS w b v (s :: l)) (e : v.ownBlock = some g) : w.cell? ((⟨g, 0, none⟩ : Addr).add 0) = some (.int .u64 s.a) ∧ w.cell? ((⟨g, 0, none⟩ : Addr).add 1) = some (.int .u8 s.k) :=
  ⟨h.cells e 0 _ rfl, h.cells e 1 _ rfl⟩
theorem data_apart {w : World} {b1 b2 : Nat} {v u : Value} {l m : List Sp} (h1 : OwS w b1 v l) (h2 : OwS w b2 u m) (p : Sp → Bool) (hp : ∀ s t : Sp, s.a = t.a → s.k = t.k → p s = p t) (hl : ∀ s ∈ l, p s = true) (hm : ∀ s ∈ m, p s = false)
    (e1 : l = [] → v.ownBlock = none) (e2 : m = [] → u.ownBlock = none) : v.ownBlock = none ∨ v.ownBlock ≠ u.ownBlock := by
  cases hv : v.ownBlock with
  | none => exact .inl rfl
  | some g =>
    refine .inr fun hu => ?_
    have hu := hu.symm
    cases l with
    | nil => rw [e1 rfl] at hv; cases hv
    | cons s l =>
      cases m with
      | nil => rw [e2 rfl] at hu; cases hu
      | cons t m =>
        obtain ⟨a1, a2⟩ := head_own h1 hv
        obtain ⟨c1, c2⟩ := head_own h2 hu
        rw [a1] at c1
        rw [a2] at c2
        simp only [Option.some.injEq, Value.int.injEq, true_and] at c1 c2
        have := hp s t c1 c2
        rw [hl s (List.mem_cons_self ..), hm t (List.mem_cons_self ..)] at this
        cases this
theorem isP_eq (x q : Int) (s t : Sp) (h1 : s.a = t.a) (h2 : s.k = t.k) : isP x q s = isP x q t := by simp [isP, h1, h2]
structure Two (w : World) (base : Nat) (v u : Value) (l m : List Sp) (x q : Int) : Prop where
  one : OwS w base v l
  two : OwS w base u m
  out : ∀ s ∈ l, isP x q s = false
  ins : ∀ s ∈ m, isP x q s = true
  no1 : l = [] → v.ownBlock = none
  no2 : m = [] → u.ownBlock = none
theorem Two.alloc {w : World} {base : Nat} {v u : Value} {l m : List Sp} {x q : Int} (h : Two w base v u l m x q) (o : Obj) : Two (w.alloc o) base v u l m x q := ⟨World.ownsRow.alloc h.one o, World.ownsRow.alloc h.two o, h.out, h.ins, h.no1, h.no2⟩
theorem Two.put1 {w w' : World} {base : Nat} {v u v' : Value} {l m : List Sp} {x q : Int} {s : Sp} (h : Two w base v u l m x q) (hs : isP x q s = false) (ho : OwS w' base v' (l ++ [s])) (hg : w.grownBy w' v.ownBlock) : Two w' base v' u (l ++ [s]) m x q :=
  ⟨ho, World.ownsRow.kept h.two hg (data_apart h.two h.one (isP x q) (isP_eq x q) h.ins h.out h.no2 h.no1), by
    intro r hr
    rcases List.mem_append.1 hr with h1 | h1
    · exact h.out r h1
    · rw [List.mem_singleton.1 h1]; exact hs, h.ins, by simp, h.no2⟩
theorem Two.put2 {w w' : World} {base : Nat} {v u u' : Value} {l m : List Sp} {x q : Int} {s : Sp} (h : Two w base v u l m x q) (hs : isP x q s = true) (ho : OwS w' base u' (m ++ [s])) (hg : w.grownBy w' u.ownBlock) : Two w' base v u' l (m ++ [s]) x q :=
  ⟨World.ownsRow.kept h.one hg (data_apart h.one h.two (fun s => !isP x q s) (fun s t h1 h2 => by rw [isP_eq x q s t h1 h2]) (fun s hs => by simp [h.out s hs]) (fun s hs => by simp [h.ins s hs]) h.no1 h.no2), ho, h.out, by
    intro r hr
    rcases List.mem_append.1 hr with h1 | h1
    · exact h.ins r h1
    · rw [List.mem_singleton.1 h1]; exact hs, h.no1, by simp⟩

set_option maxRecDepth 100000 in
set_option maxHeartbeats 8000000 in
theorem take15 (l : List Sp) (A : Option Addr) (c : Nat) (x q : Int) (w : World) (hr : RdS w A l) (hc : l.length ≤ c) : Calls Try.prog 15 #[.slice A l.length c, .int .u64 x, .int .u8 q] w (RetS3 (takeL l x q) (takeO l x q) (checkP l) w) := by
  have hl := hr.len
  have C20 := Lib.hid (check21 l A c w hr hc)
  have HR := Lib.hid hr
  clear hr
  cases hg : goodP l with
  | false =>
    have E : Hid (takeL l x q = [] ∧ takeO l x q = []) := by show _ ∧ _; simp [takeL, takeO, hg]
    rw [checkP_no hg] at C20 ⊢
    rw [E.out.1, E.out.2]
    clear hg
    go_enter Try.func15, Try.ntmps15
    go_wp2_with (go_at_call 21; refine C20.out.mono ?_; rintro e w1 ⟨rfl, hb1⟩)
    go_ret3
    exact ⟨_, _, rfl, OwS.nil_ _ _, OwS.nil_ _ _, hb1⟩
  | true =>
    have hlen := good_len hg
    have E : Hid (takeL l x q = l.filter (fun s => !isP x q s) ∧ takeO l x q = l.filter (isP x q)) := by show _ ∧ _; simp [takeL, takeO, hg]
    rw [checkP_ok hg] at C20 ⊢
    clear hg
    go_enter Try.func15, Try.ntmps15
    go_wp2_with (go_at_call 21; refine C20.out.mono ?_; rintro e w1 ⟨rfl, hb1⟩)
    go_loopw [9, 10, 18] (fun v u i wr => ∃ k : Nat, k ≤ l.length ∧ i = .int .i64 k ∧ Hid (Two wr w.heap.size v u ((l.take k).filter (fun s => !isP x q s)) ((l.take k).filter (isP x q)) x q) ∧ Hid (Below w.heap.size w wr)) (fun _ _ i _ => l.length - (intOf i).toNat)
    case atStart => exact ⟨0, Nat.zero_le _, rfl, ⟨OwS.nil_ _ _, OwS.nil_ _ _, by simp, by simp, fun _ => rfl, fun _ => rfl⟩, hb1⟩
    case round =>
      obtain ⟨k, hk, rfl, HO, HB⟩ := hrel
      obtain ⟨wo, rfl⟩ : ∃ wo : World, wo = wr := ⟨_, rfl⟩
      clear hb1 C20
      obtain ⟨vA, vc, hv, _, _⟩ := HO.out.one.shape
      subst hv
      obtain ⟨uA, uc, hu, _, _⟩ := HO.out.two.shape
      subst hu
      by_cases hlt : k < l.length
      · have hs : l[k]? = some l[k] := List.getElem?_eq_getElem hlt
        obtain ⟨b, o, rfl, hB, c1, c2, c3⟩ := (HR.out.below HB.out).at_ hs
        have STEP1 := Lib.hid (filter_more hlt (fun s => !isP x q s))
        have STEP2 := Lib.hid (filter_more hlt (isP x q))
        have hkl := List.length_filter_le (fun s : Sp => !isP x q s) (l.take k)
        have hkm := List.length_filter_le (isP x q) (l.take k)
        rw [List.length_take] at hkl hkm
        generalize l[k] = s at *
        clear hs
        generalize (l.take k).filter (fun s : Sp => !isP x q s) = out at *
        generalize (l.take k).filter (isP x q) = ins at *
        have HOA := Lib.hid (HO.out.alloc (.cells #[.int .u64 s.a, .int .u8 s.k, .int .u64 s.t] 41))
        have HBA : Hid (Below w.heap.size w (wo.alloc (.cells #[.int .u64 s.a, .int .u8 s.k, .int .u64 s.t] 41))) := balloc HB.out _
        have HOB := Lib.hid (HOA.out.alloc (.cells #[.int .u64 s.a, .int .u8 s.k, .int .u64 s.t] 41))
        have HBB : Hid (Below w.heap.size w ((wo.alloc (.cells #[.int .u64 s.a, .int .u8 s.k, .int .u64 s.t] 41)).alloc (.cells #[.int .u64 s.a, .int .u8 s.k, .int .u64 s.t] 41))) := balloc HBA.out _
        have HRX : Hid (RdS ((wo.alloc (.cells #[.int .u64 s.a, .int .u8 s.k, .int .u64 s.t] 41)).alloc (.cells #[.int .u64 s.a, .int .u8 s.k, .int .u64 s.t] 41)) (some ⟨wo.heap.size + 1, 0, none⟩) [s]) := by
          show RdS _ _ _
          have h := rdS_new (wo.alloc (.cells #[.int .u64 s.a, .int .u8 s.k, .int .u64 s.t] 41)) s
          simpa using h
        cases hq : isP x q s with
        | true =>
          have S1 : Hid ((l.take (k + 1)).filter (fun s => !isP x q s) = out) := by show _ = _; rw [STEP1.out, hq]; rfl
          have S2 : Hid ((l.take (k + 1)).filter (isP x q) = ins ++ [s]) := by show _ = _; rw [STEP2.out, hq]; rfl
          have HQ := Lib.hid hq
          simp only [isP, Bool.and_eq_true] at hq
          obtain ⟨hq1, hq2⟩ := hq
          clear STEP1 STEP2
          go_wp2_with (at_builtin; refine wpl_appS rfl (.tmp 32) (.tmp 34) rfl w.heap.size _ ins [s] rfl HOB.out.two (some ⟨wo.heap.size + 1, 0, none⟩) 1 rfl HRX.out ?h1 HBB.out.size ?_)
          case h1 => show (ins.length + 1) * 24 ≤ _; omega
          intro v' w' ho' hg'
          have HO' : Hid (Two w' w.heap.size (.slice vA out.length vc) v' ((l.take (k + 1)).filter (fun s => !isP x q s)) ((l.take (k + 1)).filter (isP x q)) x q) := by show Two _ _ _ _ _ _ _ _; rw [S1.out, S2.out]; exact HOB.out.put2 HQ.out ho' hg'
          have HB' := Lib.hid (bown HBB.out hg' HOB.out.two)
          clear ho' hg'
          go_wp2
          go_roundw
          case rel => exact ⟨k + 1, by omega, by go_num, HO'.out, HB'.out⟩
          case measure => simp [intOf]; omega
        | false =>
          have S1 : Hid ((l.take (k + 1)).filter (fun s => !isP x q s) = out ++ [s]) := by show _ = _; rw [STEP1.out, hq]; rfl
          have S2 : Hid ((l.take (k + 1)).filter (isP x q) = ins) := by show _ = _; rw [STEP2.out, hq]; rfl
          have HQ := Lib.hid hq
          clear STEP1 STEP2
          have hor : (s.a == x) = false ∨ ((s.a == x) = true ∧ (s.k == q) = false) := by
            simp only [isP, Bool.and_eq_false_iff] at hq
            rcases hq with h | h
            · exact .inl h
            · by_cases h2 : (s.a == x) = true
              · exact .inr ⟨h2, h⟩
              · exact .inl (by simpa using h2)
          clear hq
          rcases hor with hq1 | ⟨hq1, hq2⟩ <;>
          · go_wp2_with (at_builtin; refine wpl_appS rfl (.tmp 36) (.tmp 38) rfl w.heap.size _ out [s] rfl HOB.out.one (some ⟨wo.heap.size + 1, 0, none⟩) 1 rfl HRX.out ?h1 HBB.out.size ?_)
            case h1 => show (out.length + 1) * 24 ≤ _; omega
            intro v' w' ho' hg'
            have HO' : Hid (Two w' w.heap.size v' (.slice uA ins.length uc) ((l.take (k + 1)).filter (fun s => !isP x q s)) ((l.take (k + 1)).filter (isP x q)) x q) := by show Two _ _ _ _ _ _ _ _; rw [S1.out, S2.out]; exact HOB.out.put1 HQ.out ho' hg'
            have HB' := Lib.hid (bown HBB.out hg' HOB.out.one)
            clear ho' hg'
            go_wp2
            go_roundw
            case rel => exact ⟨k + 1, by omega, by go_num, HO'.out, HB'.out⟩
            case measure => simp [intOf]; omega
      · have HO2 : Hid (Two wo w.heap.size (.slice vA ((l.take k).filter (fun s => !isP x q s)).length vc) (.slice uA ((l.take k).filter (isP x q)).length uc) (l.filter (fun s => !isP x q s)) (l.filter (isP x q)) x q) := by
          show Two _ _ _ _ _ _ _ _
          have h := HO.out
          rw [List.take_of_length_le (by omega)] at h ⊢
          exact h
        go_wp2
        go_ret3
        rw [E.out.1, E.out.2]
        exact ⟨_, _, rfl, HO2.out.one, HO2.out.two, HB.out⟩
end Go.Proofs.Ytiapiajldchnmaa
