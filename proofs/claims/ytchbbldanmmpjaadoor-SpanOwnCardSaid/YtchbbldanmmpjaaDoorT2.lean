/- The walks of slices.IndexFunc and slices.DeleteFunc on spans. -/
import Derived.Test.YtchbbldanmmpjaaDoorT1
namespace Go.Proofs.YtchbbldanmmpjaaDoor
open Go.RowKit
set_option linter.unusedVariables false
set_option linter.unusedSimpArgs false

def idxP (l : List SpanV) (p : SpanV → Bool) : Int := match l.findIdx? p with | some i => (i : Int) | none => -1
theorem idxP_some {l : List SpanV} {p : SpanV → Bool} {k : Nat} (hk : k < l.length) (hp : p l[k] = true) (hno : ∀ j, j < k → ∀ s, l[j]? = some s → p s = false) : idxP l p = k := by
  unfold idxP
  have : l.findIdx? p = some k := by
    rw [List.findIdx?_eq_some_iff_getElem]
    refine ⟨hk, hp, fun j hj => ?_⟩
    have := hno j hj l[j] (List.getElem?_eq_getElem (by omega))
    simp [this]
  rw [this]
theorem idxP_none {l : List SpanV} {p : SpanV → Bool} (hno : ∀ j, j < l.length → ∀ s, l[j]? = some s → p s = false) : idxP l p = -1 := by
  unfold idxP
  have : l.findIdx? p = none := by
    rw [List.findIdx?_eq_none_iff]
    intro x hx
    obtain ⟨j, hj, rfl⟩ := List.getElem_of_mem hx
    exact hno j hj _ (List.getElem?_eq_getElem hj)
  rw [this]
theorem no_more {l : List SpanV} {p : SpanV → Bool} {k : Nat} (hk : k < l.length) (hp : p l[k] = false) (hno : ∀ j, j < k → ∀ s, l[j]? = some s → p s = false) : ∀ j, j < k + 1 → ∀ s, l[j]? = some s → p s = false := by
  intro j hj s hs
  rcases Nat.lt_succ_iff_lt_or_eq.1 hj with h | rfl
  · exact hno j h s hs
  · rw [List.getElem?_eq_getElem hk] at hs
    cases hs
    exact hp

set_option maxRecDepth 100000 in
set_option maxHeartbeats 8000000 in
theorem index_any (l : List SpanV) (A : Option Addr) (c : Nat) (g : Nat) (caps : Array Value) (p : SpanV → Bool) (w : World) (hr : RdS w A l) (hg : Enters g)
    (hf : ∀ s ∈ l, ∀ w', Below w.heap.size w w' → Calls Tryd.prog g (#[s.v] ++ caps) w' (Ret (.bool (p s)) w')) :
    Calls Tryd.prog 75 #[.slice A l.length c, .func (.func g) #[] caps] w (Ret (.int .i64 (idxP l p)) w) := by
  have hl := hr.len
  unfold Enters at hg
  go_enter Tryd.func75, Tryd.ntmps75
  go_wp2
  go_loopw [8] (fun i wr => ∃ k : Nat, k ≤ l.length ∧ i = .int .i64 k ∧ (∀ j, j < k → ∀ s, l[j]? = some s → p s = false) ∧ Below w.heap.size w wr) (fun i _ => l.length - (intOf i).toNat)
  case atStart => exact ⟨0, Nat.zero_le _, rfl, fun j h => absurd h (by omega), Below.refl _ _⟩
  case round =>
    obtain ⟨k, hk, rfl, hno, hb⟩ := hrel
    have HR := Lib.hid hr
    clear hr
    by_cases hlt : k < l.length
    · have hs : l[k]? = some l[k] := List.getElem?_eq_getElem hlt
      obtain ⟨b, o, rfl, hB, c0, c1, c2, c3, c4, c5, c6, c7⟩ := (HR.out.below hb).at_ hs
      have hcall := hf l[k] (List.getElem_mem _) wr hb
      have HC := Lib.hid hcall
      unfold SpanV.v at HC
      clear hcall hf hs
      cases hp : p l[k] with
      | true =>
        have HN := Lib.hid (idxP_some hlt hp hno)
        have HP := Lib.hid hp
        clear hp hno
        go_wp2_with (refine HC.out.mono ?_; rintro e w' ⟨rfl, hb'⟩; rw [HP.out])
        go_ret
        exact ⟨by rw [HN.out]; rfl, bthen hb hb'⟩
      | false =>
        have HN := Lib.hid (no_more hlt hp hno)
        have HP := Lib.hid hp
        clear hp hno
        go_wp2_with (refine HC.out.mono ?_; rintro e w' ⟨rfl, hb'⟩; rw [HP.out])
        go_roundw
        case rel => exact ⟨k + 1, by omega, by go_num, HN.out, bthen hb hb'⟩
        case measure => simp [intOf]; omega
    · have HN := Lib.hid (idxP_none (l := l) (p := p) (fun j hj => hno j (by omega)))
      clear hno hf
      go_wp2
      go_ret
      exact ⟨by rw [HN.out]; rfl, hb⟩

theorem filter_none {l : List SpanV} {p : SpanV → Bool} (h : idxP l p = -1) : l.filter (fun s => !p s) = l := by
  rw [List.filter_eq_self]
  intro x hx
  unfold idxP at h
  split at h
  · omega
  · rename_i hn
    rw [List.findIdx?_eq_none_iff] at hn
    simp [hn x hx]
theorem idx_at {l : List SpanV} {p : SpanV → Bool} (h : idxP l p ≠ -1) : ∃ i : Nat, idxP l p = i ∧ ∃ hi : i < l.length, p l[i] = true ∧ ∀ j s, j < i → l[j]? = some s → p s = false := by
  unfold idxP at h ⊢
  cases hf : l.findIdx? p with
  | none => rw [hf] at h; exact absurd rfl h
  | some i =>
    obtain ⟨hi, hp, hno⟩ := List.findIdx?_eq_some_iff_getElem.1 hf
    refine ⟨i, rfl, hi, hp, fun j s hj hs => ?_⟩
    have := hno j hj
    rw [List.getElem?_eq_getElem (by omega)] at hs
    cases hs
    simpa using this

def RetG (base : Nat) (u : Value) (l : List SpanV) (w : World) (e : Ending) (w' : World) : Prop := ∃ v, e = .returned v ∧ OwS w' base v l ∧ w.grownBy w' u.ownBlock

/-- How far it has come. -/
structure Del (l : List SpanV) (p : SpanV → Bool) (l' : List SpanV) (i j : Nat) : Prop where
  len : l'.length = l.length
  ij : i < j
  jn : j ≤ l.length
  front : l'.take i = (l.take j).filter (fun s => !p s)
  back : ∀ m, j ≤ m → l'[m]? = l[m]?
theorem Del.start {l : List SpanV} {p : SpanV → Bool} {i : Nat} (hi : i < l.length) (hp : p l[i] = true) (hno : ∀ j s, j < i → l[j]? = some s → p s = false) : Del l p l i (i + 1) := by
  refine ⟨rfl, by omega, by omega, ?_, fun _ _ => rfl⟩
  rw [List.take_succ_eq_append_getElem hi, List.filter_append]
  have h1 : (l.take i).filter (fun s => !p s) = l.take i := by
    rw [List.filter_eq_self]
    intro x hx
    obtain ⟨j, hj, rfl⟩ := List.getElem_of_mem hx
    rw [List.length_take] at hj
    simp only [List.getElem_take]
    rw [hno j _ (by omega) (List.getElem?_eq_getElem (by omega))]
    rfl
  rw [h1]
  simp [hp]
theorem Del.skip {l l' : List SpanV} {p : SpanV → Bool} {i j : Nat} (h : Del l p l' i j) (hj : j < l.length) (hp : p l[j] = true) : Del l p l' i (j + 1) := by
  refine ⟨h.len, by have := h.ij; omega, by omega, ?_, fun m hm => h.back m (by omega)⟩
  rw [List.take_succ_eq_append_getElem hj, List.filter_append, ← h.front]
  simp [hp]
theorem Del.keep {l l' : List SpanV} {p : SpanV → Bool} {i j : Nat} (h : Del l p l' i j) (hj : j < l.length) (hp : p l[j] = false) : Del l p (l'.set i l[j]) (i + 1) (j + 1) := by
  have hij := h.ij
  have hlen := h.len
  refine ⟨by rw [List.length_set]; exact h.len, by omega, by omega, ?_, fun m hm => ?_⟩
  · rw [List.take_succ_eq_append_getElem hj, List.filter_append, ← h.front]
    rw [List.take_succ_eq_append_getElem (by rw [List.length_set]; omega)]
    rw [List.take_set_of_le (by omega)]
    simp [hp]
  · rw [List.getElem?_set_ne (by omega)]
    exact h.back m (by omega)
theorem Del.done {l l' : List SpanV} {p : SpanV → Bool} {i : Nat} (h : Del l p l' i l.length) : l'.take i = l.filter (fun s => !p s) := by
  rw [h.front, List.take_length]

set_option maxHeartbeats 2000000 in
theorem delete59 (l : List SpanV) (v : Value) (base f : Nat) (caps : Array Value) (p : SpanV → Bool) (w : World) (ho : OwS w base v l) (hbase : base ≤ w.heap.size) (hg : Enters f)
    (hf : ∀ s ∈ l, ∀ w', w.grownBy w' v.ownBlock → Calls Tryd.prog f (#[s.v] ++ caps) w' (Ret (.bool (p s)) w')) :
    Calls Tryd.prog 59 #[v, .func (.func f) #[] caps] w (RetG base v (l.filter fun s => !p s) w) := by
  have hl := ho.len
  have hsh := ho.2
  have hpos : idxP l p ≠ -1 → ∃ g, v.ownBlock = some g := by
    intro h
    obtain ⟨i, _, hi, _⟩ := idx_at h
    rcases hsh with ⟨_, h0⟩ | ⟨g, cap, cur, rfl, _⟩
    · omega
    · exact ⟨g, rfl⟩
  clear hsh
  obtain ⟨A, c, rfl, hlc, hr⟩ := ho.shape
  have C36 := Lib.hid (index_any l A c f caps p w hr hg (fun s hs w' hb => hf s hs w' (gbelow hb _)))
  have HO := Lib.hid ho
  have HF := Lib.hid hf
  clear ho hf hr
  by_cases hi : idxP l p = -1
  · have E := Lib.hid (filter_none hi)
    rw [hi] at C36
    clear hi hpos
    go_enter Tryd.func59, Tryd.ntmps59
    go_wp2_with (go_at_call 75; refine C36.out.mono ?_; rintro e w' ⟨rfl, hb⟩)
    go_ret
    exact ⟨_, rfl, by rw [E.out]; exact HO.out.below hb, gbelow hb _⟩
  · obtain ⟨g, hgv⟩ := hpos hi
    cases A with
    | none => simp [Value.ownBlock] at hgv
    | some ad =>
      simp only [Value.ownBlock, Option.some.injEq] at hgv
      obtain ⟨i0, hi0, hlt0, hp0, hno0⟩ := idx_at hi
      have HD0 := Lib.hid (Del.start hlt0 hp0 hno0)
      rw [hi0] at C36
      clear hi hi0 hp0 hno0
      have had : ad = ⟨g, 0, none⟩ := by
        rcases HO.out.2 with ⟨h', _⟩ | ⟨g', cap', cur, h', _⟩
        · simp at h'
        · simp only [Value.slice.injEq, Option.some.injEq] at h'
          rw [h'.1] at hgv ⊢
          simp at hgv
          rw [hgv]
      subst had
      clear hgv
      have hne : ((i0 : Int) == -1) = false := by rw [beq_eq_false_iff_ne]; omega
      obtain ⟨i26, hi26, _, hs26, _⟩ := info_parts info26
      have HI := Lib.hid hi26
      have HS := Lib.hid hs26
      clear hi26 hs26
      have HZ1 : Hid (∀ u ∈ (Value.cells (.agg #[.int .i64 0, .int .i64 0, .int .i64 0, .int .i64 0, .slice none 0 0, .int .i64 0, .slice none 0 0, .bool false])).toList, u.oneCell' = true) := by
        show ∀ u ∈ _, _
        simp [Value.cells, Value.oneCell']
      unfold Enters at hg
      go_enter Tryd.func59, Tryd.ntmps59
      go_wp2_with (go_at_call 75; refine C36.out.mono ?_; rintro e w' ⟨rfl, hb⟩)
      go_loopw [5, 6] (fun i j wr => ∃ (a b : Nat) (l' : List SpanV), i = .int .i64 a ∧ j = .int .i64 b ∧ Hid (Del l p l' a b) ∧ a < b ∧ b ≤ l.length ∧ Hid (OwS wr base (.slice (some ⟨g, 0, none⟩) l.length c) l') ∧ Hid (w.grownBy wr (some g))) (fun _ j _ => l.length - (intOf j).toNat)
      case atStart => exact ⟨i0, i0 + 1, l, rfl, by go_num, HD0.out, by omega, by omega, HO.out.below hb, gbelow hb _⟩
      case round =>
        obtain ⟨a, b, l', rfl, rfl, HD, hab, hbn, HW, HG⟩ := hrel
        obtain ⟨wo, rfl⟩ : ∃ wo : World, wo = wr := ⟨_, rfl⟩
        clear hb C36 HD0 hne hlt0
        by_cases hlt : b < l.length
        · have hs : l'[b]? = some l[b] := (HD.out.back b (Nat.le_refl _)).trans (List.getElem?_eq_getElem hlt)
          have hrd : RdS wo (some ⟨g, 0, none⟩) l' := own_rd (by have h := HW.out; unfold OwS at h; rw [HD.out.len] at h ⊢; exact h)
          obtain ⟨b', o', e', hB, c0, c1, c2, c3, c4, c5, c6, c7⟩ := hrd.at_ hs
          simp only [Option.some.injEq, Addr.mk.injEq, and_true] at e'
          obtain ⟨rfl, rfl⟩ := e'
          simp only [Nat.zero_add] at c0 c1 c2 c3 c4 c5 c6 c7
          have HC := Lib.hid (fun W h => HF.out l[b] (List.getElem_mem _) W h)
          unfold SpanV.v at HC
          have KEEP := Lib.hid (HD.out.keep hlt)
          have SKIP := Lib.hid (HD.out.skip hlt)
          clear hrd hs
          have hlen := HD.out.len
          have OW := Lib.hid (show wo.ownsRow base 26 8 (.slice (some ⟨g, 0, none⟩) l.length c) l.length (fl l') by have h := HW.out; unfold OwS at h; rw [hlen] at h; exact h)
          clear hlen
          generalize l[b] = s at *
          have F0 : Hid ((wo.alloc (Obj.cells #[.int .i64 s.first, .int .i64 s.pages, .int .i64 s.size, .int .i64 s.al.n, .slice s.al.A s.al.m s.al.c, .int .i64 s.ma.n, .slice s.ma.A s.ma.m s.ma.c, .bool s.sw] 26)).cell? ⟨wo.heap.size, 0, none⟩ = some (.int .i64 s.first)) := by show _ = _; go_simp
          have F1 : Hid ((wo.alloc (Obj.cells #[.int .i64 s.first, .int .i64 s.pages, .int .i64 s.size, .int .i64 s.al.n, .slice s.al.A s.al.m s.al.c, .int .i64 s.ma.n, .slice s.ma.A s.ma.m s.ma.c, .bool s.sw] 26)).cell? ⟨wo.heap.size, 1, none⟩ = some (.int .i64 s.pages)) := by show _ = _; go_simp
          have F2 : Hid ((wo.alloc (Obj.cells #[.int .i64 s.first, .int .i64 s.pages, .int .i64 s.size, .int .i64 s.al.n, .slice s.al.A s.al.m s.al.c, .int .i64 s.ma.n, .slice s.ma.A s.ma.m s.ma.c, .bool s.sw] 26)).cell? ⟨wo.heap.size, 2, none⟩ = some (.int .i64 s.size)) := by show _ = _; go_simp
          have F3 : Hid ((wo.alloc (Obj.cells #[.int .i64 s.first, .int .i64 s.pages, .int .i64 s.size, .int .i64 s.al.n, .slice s.al.A s.al.m s.al.c, .int .i64 s.ma.n, .slice s.ma.A s.ma.m s.ma.c, .bool s.sw] 26)).cell? ⟨wo.heap.size, 3, none⟩ = some (.int .i64 s.al.n)) := by show _ = _; go_simp
          have F4 : Hid ((wo.alloc (Obj.cells #[.int .i64 s.first, .int .i64 s.pages, .int .i64 s.size, .int .i64 s.al.n, .slice s.al.A s.al.m s.al.c, .int .i64 s.ma.n, .slice s.ma.A s.ma.m s.ma.c, .bool s.sw] 26)).cell? ⟨wo.heap.size, 4, none⟩ = some (.slice s.al.A s.al.m s.al.c)) := by show _ = _; go_simp
          have F5 : Hid ((wo.alloc (Obj.cells #[.int .i64 s.first, .int .i64 s.pages, .int .i64 s.size, .int .i64 s.al.n, .slice s.al.A s.al.m s.al.c, .int .i64 s.ma.n, .slice s.ma.A s.ma.m s.ma.c, .bool s.sw] 26)).cell? ⟨wo.heap.size, 5, none⟩ = some (.int .i64 s.ma.n)) := by show _ = _; go_simp
          have F6 : Hid ((wo.alloc (Obj.cells #[.int .i64 s.first, .int .i64 s.pages, .int .i64 s.size, .int .i64 s.al.n, .slice s.al.A s.al.m s.al.c, .int .i64 s.ma.n, .slice s.ma.A s.ma.m s.ma.c, .bool s.sw] 26)).cell? ⟨wo.heap.size, 6, none⟩ = some (.slice s.ma.A s.ma.m s.ma.c)) := by show _ = _; go_simp
          have F7 : Hid ((wo.alloc (Obj.cells #[.int .i64 s.first, .int .i64 s.pages, .int .i64 s.size, .int .i64 s.al.n, .slice s.al.A s.al.m s.al.c, .int .i64 s.ma.n, .slice s.ma.A s.ma.m s.ma.c, .bool s.sw] 26)).cell? ⟨wo.heap.size, 7, none⟩ = some (.bool s.sw)) := by show _ = _; go_simp
          have GA := Lib.hid (gtrans HG.out (World.grownBy_alloc wo (Obj.cells #[.int .i64 s.first, .int .i64 s.pages, .int .i64 s.size, .int .i64 s.al.n, .slice s.al.A s.al.m s.al.c, .int .i64 s.ma.n, .slice s.ma.A s.ma.m s.ma.c, .bool s.sw] 26) (some g)))
          have OA := Lib.hid (OW.out.alloc (Obj.cells #[.int .i64 s.first, .int .i64 s.pages, .int .i64 s.size, .int .i64 s.al.n, .slice s.al.A s.al.m s.al.c, .int .i64 s.ma.n, .slice s.ma.A s.ma.m s.ma.c, .bool s.sw] 26))
          cases hp : p s with
          | true =>
            have SK := Lib.hid (SKIP.out hp)
            rw [hp] at HC
            clear hp KEEP SKIP
            go_wp2_with (refine (HC.out _ GA.out).mono ?_; rintro e w1 ⟨rfl, hb1⟩)
            go_roundw
            case rel => exact ⟨a, b + 1, l', rfl, by go_num, SK.out, by omega, by omega, by { have h := OwS.below (w := wo.alloc _) (HW.out.alloc (Obj.cells #[.int .i64 s.first, .int .i64 s.pages, .int .i64 s.size, .int .i64 s.al.n, .slice s.al.A s.al.m s.al.c, .int .i64 s.ma.n, .slice s.ma.A s.ma.m s.ma.c, .bool s.sw] 26)) hb1; exact h }, gtrans GA.out (gbelow hb1 _)⟩
            case measure => simp [intOf]; omega
          | false =>
            have KP := Lib.hid (KEEP.out hp)
            rw [hp] at HC
            clear hp KEEP SKIP
            have HWA := Lib.hid (OwS.below HW.out (balloc (Below.refl _ _) (Obj.cells #[.int .i64 s.first, .int .i64 s.pages, .int .i64 s.size, .int .i64 s.al.n, .slice s.al.A s.al.m s.al.c, .int .i64 s.ma.n, .slice s.ma.A s.ma.m s.ma.c, .bool s.sw] 26)))
            have HLN := Lib.hid HD.out.len
            have hal2 : a < l.length := by omega
            go_wp2_with fail
            refine (HC.out _ GA.out).mono ?_
            rintro e w1 ⟨rfl, hb1⟩
            have f0 := cell_later hb1 F0.out
            have f1 := cell_later hb1 F1.out
            have f2 := cell_later hb1 F2.out
            have f3 := cell_later hb1 F3.out
            have f4 := cell_later hb1 F4.out
            have f5 := cell_later hb1 F5.out
            have f6 := cell_later hb1 F6.out
            have f7 := cell_later hb1 F7.out
            have HW1 := Lib.hid (OwS.below HWA.out hb1)
            have GB := Lib.hid (gtrans GA.out (gbelow hb1 _))
            clear hb1 HC
            go_wp2_with (refine wpl_stS rfl (.tmp 33) (.tmp 32) rfl base g l.length c l' HW1.out HLN.out a s rfl rfl hal2 ?_)
            intro w2 ho2 hg2
            have O2 := Lib.hid ho2
            have G2 := Lib.hid (gtrans GB.out hg2)
            clear ho2 hg2
            go_wp2
            go_roundw
            case rel => exact ⟨a + 1, b + 1, l'.set a s, by go_num, by go_num, KP.out, by omega, by omega, O2.out, G2.out⟩
            case measure => simp [intOf]; omega
        · obtain rfl : b = l.length := by omega
          have hac : ¬ c = a := by omega
          have hlen := HD.out.len
          have OW := Lib.hid (show wo.ownsRow base 26 8 (.slice (some ⟨g, 0, none⟩) l.length c) l.length (fl l') by have h := HW.out; unfold OwS at h; rw [hlen] at h; exact h)
          have hal : a ≤ l.length := by omega
          clear hlen hlt hbn
          go_wp2_with (refine wpl_clear_own rfl (.tmp 38) 27 rfl base 26 8 _ Tryd.underlying27 Tryd.zeroValue26 rfl HZ1.out g l.length c (fl l') OW.out _ a (l.length - a) _ rfl ?h1 ?h2 ?_)
          case h2 => omega
          intro w2 zs hz ho2 hg2
          have O2 : Hid (OwS w2 base (.slice (some ⟨g, 0, none⟩) a c) (l'.take a)) := by
            have h := own_cut ho2 a hal
            show w2.ownsRow base 26 8 _ (l'.take a).length _
            have hl' := HD.out.len
            have hL : (l'.take a).length = a := by rw [List.length_take]; omega
            have hX : (fl l').length = l.length * 8 := by rw [fl_len, hl']
            have hfl : fl (l'.take a) = (fl l').take (a * 8) := flat_take SpanV.cs 8 SpanV.cs_len l' a
            have e : ∀ R, List.take (a * 8) (List.take (a * 8) (fl l') ++ R) = fl (l'.take a) := fun R => by
              rw [hfl, List.take_append_of_le_length (by rw [List.length_take, hX]; omega), List.take_take, Nat.min_self]
            rw [e] at h
            rw [hL]
            exact h
          have G2 := Lib.hid (gtrans HG.out hg2)
          have E := Lib.hid HD.out.done
          rw [E.out] at O2
          clear ho2 hg2 hz
          have hac2 : a ≤ c := by omega
          go_wp2
          go_ret
          exact ⟨_, rfl, O2.out, G2.out⟩
end Go.Proofs.YtchbbldanmmpjaaDoor
