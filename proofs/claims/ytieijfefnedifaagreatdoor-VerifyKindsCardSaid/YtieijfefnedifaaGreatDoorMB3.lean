/- Out of the texts of spans: SG SH SI SJ SK SL. -/
import Derived.Test.YtieijfefnedifaaGreatDoorMB2
import Derived.Deep.RegionWith
namespace Go.Proofs.YtieijfefnedifaaGreatDoor
open Go.RowKit
set_option linter.unusedVariables false
set_option linter.unusedSimpArgs false

/-- A span whose words are of the call's own. -/
structure OwN (w : World) (base : Nat) (v : SpanV) (s : SpanB) : Prop where
  first : v.first = s.first
  pages : v.pages = s.pages
  size : v.size = s.size
  sw : v.sw = s.sw
  an : v.al.n = s.al.n
  am : v.al.m = s.al.w.length
  ac : v.al.m ≤ v.al.c
  al : OwU w base (.slice v.al.A v.al.m v.al.c) s.al.w
  mn : v.ma.n = s.ma.n
  mm : v.ma.m = s.ma.w.length
  mc : v.ma.m ≤ v.ma.c
  ma : OwU w base (.slice v.ma.A v.ma.m v.ma.c) s.ma.w
/-- What holds of a span's numbers, in any memory. -/
structure WfB (b : BitB) : Prop where
  lo : -9223372036854775808 ≤ b.n
  hi : b.n ≤ 9223372036854775807
  words : ∀ x ∈ b.w, 0 ≤ x ∧ x < 18446744073709551616
structure WfS (s : SpanB) : Prop where
  al : WfB s.al
  ma : WfB s.ma
  f1 : -9223372036854775808 ≤ s.first ∧ s.first ≤ 9223372036854775807
  p1 : -9223372036854775808 ≤ s.pages ∧ s.pages ≤ 9223372036854775807
  z1 : -9223372036854775808 ≤ s.size ∧ s.size ≤ 9223372036854775807
theorem RdN.wf {w : World} {v : SpanV} {s : SpanB} (h : RdN w v s) : WfS s := ⟨⟨h.al.lo, h.al.hi, h.al.words⟩, ⟨h.ma.lo, h.ma.hi, h.ma.words⟩, h.f1, h.p1, h.z1⟩
theorem OwN.rd {w : World} {base : Nat} {v : SpanV} {s : SpanB} (h : OwN w base v s) (hw : WfS s) : RdN w v s :=
  ⟨h.first, h.pages, h.size, h.sw, ⟨h.an, h.am, h.ac, hw.al.lo, hw.al.hi, hw.al.words, h.al.rd h.am.symm⟩, ⟨h.mn, h.mm, h.mc, hw.ma.lo, hw.ma.hi, hw.ma.words, h.ma.rd h.mm.symm⟩, hw.f1, hw.p1, hw.z1⟩
theorem OwN.below {w w1 : World} {base : Nat} {v : SpanV} {s : SpanB} (h : OwN w base v s) (hb : Below w.heap.size w w1) : OwN w1 base v s :=
  ⟨h.first, h.pages, h.size, h.sw, h.an, h.am, h.ac, h.al.below hb, h.mn, h.mm, h.mc, h.ma.below hb⟩
theorem OwN.mono {w : World} {base base' : Nat} {v : SpanV} {s : SpanB} (h : OwN w base v s) (hb : base' ≤ base) : OwN w base' v s :=
  ⟨h.first, h.pages, h.size, h.sw, h.an, h.am, h.ac, h.al.mono hb, h.mn, h.mm, h.mc, h.ma.mono hb⟩
def RetN (s : SpanB) (w : World) (e : Ending) (w' : World) : Prop := ∃ v : SpanV, e = .returned v.v ∧ OwN w' w.heap.size v s ∧ Below w.heap.size w w'
/-- How large a span's words may be. -/
def smallS (s : SpanB) : Prop := s.al.w.length * 8 ≤ 140737488355328 ∧ s.ma.w.length * 8 ≤ 140737488355328

set_option maxRecDepth 100000 in
set_option maxHeartbeats 8000000 in
theorem one58 (v : SpanV) (s : SpanB) (w : World) (h : RdN w v s) (hz : smallS s) : Calls Tryz.prog 90 #[v.v] w (RetN s w) := by
  have CA : Hid (∀ W, Below w.heap.size w W → Calls Tryz.prog 88 #[v.al.v] W (RetB s.al W)) := fun W hW => own37 v.al s.al W (h.al.below hW) hz.1
  have CM : Hid (∀ W, Below w.heap.size w W → Calls Tryz.prog 88 #[v.ma.v] W (RetB s.ma W)) := fun W hW => own37 v.ma s.ma W (h.ma.below hW) hz.2
  have HAN := Lib.hid h.al.n
  have HMN := Lib.hid h.ma.n
  obtain ⟨f, p, z, ⟨n, A, m, ca⟩, ⟨n', B, m', cb⟩, sw⟩ := v
  obtain ⟨rfl, rfl, rfl, rfl, _, _, hf1, hp1, hz1⟩ := h
  simp only at HAN HMN
  unfold SpanV.v
  unfold BitV.v at CA CM
  simp only at CA CM ⊢
  clear hz hf1 hp1 hz1
  have HB0 : Hid (Below w.heap.size w ((w.alloc (.cells #[.int .i64 s.first, .int .i64 s.pages, .int .i64 s.size, .int .i64 n, .slice A m ca, .int .i64 n', .slice B m' cb, .bool s.sw] 44)).alloc (.cells #[.int .i64 0, .int .i64 0, .int .i64 0, .int .i64 0, .slice none 0 0, .int .i64 0, .slice none 0 0, .bool false] 44))) := balloc (balloc (Below.refl _ _) _) _
  go_enter Tryz.func90, Tryz.ntmps90
  go_wp2
  go_region_with (first
    | (go_at_call 88; (with_reducible refine (CA.out _ HB0.out.drew).mono ?_); rintro e w1 ⟨⟨n1, A1, m1, c1⟩, rfl, hn1, hm1, hcap1, ho1, hb1⟩; obtain ⟨hc1, hf1, hs1⟩ := bcellB (B := w.heap.size + 2) hb1 (by simp); simp only at hn1 hm1 hcap1 ho1; have HO1 := Lib.hid ho1; have HN1 := Lib.hid hn1; have HM1 := Lib.hid hm1; have HC1 := Lib.hid hcap1; have HB1 := Lib.hid (bthen HB0.out.drew hb1); clear ho1 hn1 hm1 hcap1 hb1 CA; unfold BitV.v; simp only)
    | (go_at_call 88; (with_reducible refine (CM.out _ HB1.out).mono ?_); rintro e w2 ⟨⟨n2, A2, m2, c2⟩, rfl, hn2, hm2, hcap2, ho2, hb2⟩; obtain ⟨hc2, hf2, hs2⟩ := bcellB hb2 hs1; simp only at hn2 hm2 hcap2 ho2; have HO1' := Lib.hid (HO1.out.below hb2); have HO2 := Lib.hid ho2; have HN2 := Lib.hid hn2; have HM2 := Lib.hid hm2; have HC2 := Lib.hid hcap2; have HB2 := Lib.hid (bthen HB1.out hb2); clear ho2 hn2 hm2 hcap2 hb2; unfold BitV.v; simp only))
  all_goals
    go_wp2
    refine bodyPost_ret (v := .agg #[.int .i64 s.first, .int .i64 s.pages, .int .i64 s.size, .int .i64 n1, .slice A1 m1 c1, .int .i64 n2, .slice A2 m2 c2, .bool s.sw]) (by simp [results, Tryz.results90, go_sem, hc2, hc1]) rfl ?_
    refine ⟨⟨s.first, s.pages, s.size, ⟨n1, A1, m1, c1⟩, ⟨n2, A2, m2, c2⟩, s.sw⟩, rfl, ⟨rfl, rfl, rfl, rfl, HN1.out, HM1.out, HC1.out, ?_, HN2.out, HM2.out, HC2.out, ?_⟩, ?_⟩
    · refine OwU.mono (base := w.heap.size + 2) ?_ (by omega)
      repeat (refine OwU.set_lo ?_ (by simp) _)
      exact HO1'.out.mono (by simp)
    · refine OwU.mono (base := w.heap.size + 2) ?_ (by omega)
      repeat (refine OwU.set_lo ?_ (by simp) _)
      exact HO2.out.mono hs1
    · repeat (refine Below.setCell ?_ (by first | (simp; done) | (simp; omega)) _)
      exact HB2.out


set_option maxRecDepth 100000 in
set_option maxHeartbeats 8000000 in
theorem one31 (v : SpanV) (s : SpanB) (w : World) (h : RdN w v s) (hz : smallS s) : Calls Tryz.prog 57 #[v.v] w (RetN s w) := by
  have CA : Hid (∀ W, Below w.heap.size w W → Calls Tryz.prog 56 #[v.al.v] W (RetB s.al W)) := fun W hW => copy61 v.al s.al W (h.al.below hW) hz.1
  have CM : Hid (∀ W, Below w.heap.size w W → Calls Tryz.prog 56 #[v.ma.v] W (RetB s.ma W)) := fun W hW => copy61 v.ma s.ma W (h.ma.below hW) hz.2
  have HAN := Lib.hid h.al.n
  have HMN := Lib.hid h.ma.n
  obtain ⟨f, p, z, ⟨n, A, m, ca⟩, ⟨n', B, m', cb⟩, sw⟩ := v
  obtain ⟨rfl, rfl, rfl, rfl, _, _, hf1, hp1, hz1⟩ := h
  simp only at HAN HMN
  unfold SpanV.v
  unfold BitV.v at CA CM
  simp only at CA CM ⊢
  clear hz hf1 hp1 hz1
  have HB0 : Hid (Below w.heap.size w ((w.alloc (.cells #[.int .i64 s.first, .int .i64 s.pages, .int .i64 s.size, .int .i64 n, .slice A m ca, .int .i64 n', .slice B m' cb, .bool s.sw] 44)).alloc (.cells #[.int .i64 0, .int .i64 0, .int .i64 0, .int .i64 0, .slice none 0 0, .int .i64 0, .slice none 0 0, .bool false] 44))) := balloc (balloc (Below.refl _ _) _) _
  go_enter Tryz.func57, Tryz.ntmps57
  go_wp2_with fail
  refine (CA.out _ HB0.out).mono ?_
  rintro e w1 ⟨⟨n1, A1, m1, c1⟩, rfl, hn1, hm1, hcap1, ho1, hb1⟩
  obtain ⟨hc1, hf1, hs1⟩ := bcellB (B := w.heap.size + 2) hb1 (by simp)
  simp only at hn1 hm1 hcap1 ho1
  have z0 : w.heap.size < w1.heap.size := by omega
  have z1 : w.heap.size + 1 < w1.heap.size := by omega
  have HO1 := Lib.hid ho1
  have HN1 := Lib.hid hn1
  have HM1 := Lib.hid hm1
  have HC1 := Lib.hid hcap1
  have HB1 := Lib.hid (bthen HB0.out hb1)
  clear ho1 hn1 hm1 hcap1 hb1
  unfold BitV.v
  simp only
  go_wp2_with fail
  have HB1' : Hid (Below w.heap.size w ((w1.setCell ⟨w.heap.size, 3, none⟩ (.int .i64 n1)).setCell ⟨w.heap.size, 4, none⟩ (.slice A1 m1 c1))) := (HB1.out.setCell (by simp) _).setCell (by simp) _
  have HO1s : Hid (OwU ((w1.setCell ⟨w.heap.size, 3, none⟩ (.int .i64 n1)).setCell ⟨w.heap.size, 4, none⟩ (.slice A1 m1 c1)) (w.heap.size + 2) (.slice A1 m1 c1) s.al.w) := by
    show OwU _ _ _ _
    repeat (refine OwU.set_lo ?_ (by simp) _)
    exact HO1.out.mono (by simp)
  refine (CM.out _ HB1'.out).mono ?_
  rintro e w2 ⟨⟨n2, A2, m2, c2⟩, rfl, hn2, hm2, hcap2, ho2, hb2⟩
  have hs1' : w.heap.size + 2 ≤ ((w1.setCell ⟨w.heap.size, 3, none⟩ (.int .i64 n1)).setCell ⟨w.heap.size, 4, none⟩ (.slice A1 m1 c1)).heap.size := by simpa using hs1
  obtain ⟨hc2, hf2, hs2⟩ := bcellB hb2 hs1'
  simp only at hn2 hm2 hcap2 ho2
  have HO1' := Lib.hid (HO1s.out.below hb2)
  have HO2 := Lib.hid (ho2.mono hs1')
  have HN2 := Lib.hid hn2
  have HM2 := Lib.hid hm2
  have HC2 := Lib.hid hcap2
  have HB2 := Lib.hid (bthen HB1'.out hb2)
  clear ho2 hn2 hm2 hcap2 hb2 hs1' HO1s HB1'
  unfold BitV.v
  simp only
  go_wp2
  refine bodyPost_ret (v := .agg #[.int .i64 s.first, .int .i64 s.pages, .int .i64 s.size, .int .i64 n1, .slice A1 m1 c1, .int .i64 n2, .slice A2 m2 c2, .bool s.sw]) (by simp [results, Tryz.results57, go_sem, hc2, hc1]) rfl ?_
  refine ⟨⟨s.first, s.pages, s.size, ⟨n1, A1, m1, c1⟩, ⟨n2, A2, m2, c2⟩, s.sw⟩, rfl, ⟨rfl, rfl, rfl, rfl, HN1.out, HM1.out, HC1.out, ?_, HN2.out, HM2.out, HC2.out, ?_⟩, ?_⟩
  · refine OwU.mono (base := w.heap.size + 2) ?_ (by omega)
    repeat (refine OwU.set_lo ?_ (by simp) _)
    exact HO1'.out
  · refine OwU.mono (base := w.heap.size + 2) ?_ (by omega)
    repeat (refine OwU.set_lo ?_ (by simp) _)
    exact HO2.out
  · repeat (refine Below.setCell ?_ (by first | (simp; done) | (simp; omega)) _)
    exact HB2.out


theorem info26 : (Tryz.prog.info? 44).map (fun i => (i.zero, i.size, i.bytes)) = some (some (.agg #[.int .i64 0, .int .i64 0, .int .i64 0, .int .i64 0, .slice none 0 0, .int .i64 0, .slice none 0 0, .bool false]), 8, 96) := by kernel_rfl
def OwS (w : World) (base : Nat) (v : Value) (l : List SpanV) : Prop := w.ownsRow base 44 8 v l.length (fl l)
theorem OwS.nil_ (w : World) (base : Nat) : OwS w base (.slice none 0 0) [] := World.ownsRow_nil w base 44 8
theorem OwS.shape {w : World} {base : Nat} {v : Value} {l : List SpanV} (h : OwS w base v l) : ∃ A c, v = .slice A l.length c ∧ l.length ≤ c ∧ RdS w A l := by
  obtain ⟨A, c, rfl, h1, h2⟩ := own_shape h
  exact ⟨A, c, rfl, h1, own_rd h⟩
theorem OwS.below {w w1 : World} {base : Nat} {v : Value} {l : List SpanV} (h : OwS w base v l) (hb : Below w.heap.size w w1) : OwS w1 base v l := own_below h hb
theorem OwS.mono {w : World} {base base' : Nat} {v : Value} {l : List SpanV} (h : OwS w base v l) (hb : base' ≤ base) : OwS w base' v l := own_mono h hb
theorem OwS.len {w : World} {base : Nat} {v : Value} {l : List SpanV} (h : OwS w base v l) : l.length ≤ 9223372036854775807 := by
  obtain ⟨A, c, _, _, hr⟩ := h.shape
  exact hr.len
/-- A row that was written, or a new one, is the call's own. -/
theorem bownS {w W W' : World} {v : Value} {l : List SpanV} (h : Below w.heap.size w W) (hg : W.grownBy W' v.ownBlock) (ho : OwS W w.heap.size v l) : Below w.heap.size w W' :=
  bgrown h hg (fun k hk => (ho.lt k hk).1)
theorem made_emptyS (w : World) : OwS (w.alloc (.cells #[] 44)) w.heap.size (.slice (some ⟨w.heap.size, 0, none⟩) 0 0) [] := World.ownsRow_made w #[] 0 (Nat.le_refl _) (by simp [maxLen]) (by simp)

theorem wpl_appS {ops : Array Oper} {rest : List Oper} {o : Oper} {a : Act} {w : World} {Q : Exit → Act → World → Prop} (hgd : o.guard = none) (s x : Operand)
    (ho : o.op = .call { callee := .builtin .append, args := #[s, x], argTypes := #[29, 29] })
    (base : Nat) (v : Value) (l0 l1 : List SpanV) (hs : a.eval s = v) (hown : OwS w base v l0) (A : Option Addr) (c : Nat) (hx : a.eval x = .slice A l1.length c) (hr : RdS w A l1)
    (hbytes : (l0.length + l1.length) * 96 ≤ 140737488355328) (hbase : base ≤ w.heap.size)
    (h : ∀ v' w', OwS w' base v' (l0 ++ l1) → w.grownBy w' v.ownBlock → wpList Tryz.prog ops Q rest (a.put o.dst v') w') : wpList Tryz.prog ops Q (o :: rest) a w :=
  wpl_append_rd hgd s x 29 ho base 44 _ 8 96 Tryz.underlying29 info26 rfl (by omega) v l0.length (fl l0) hs hown A l1.length c (fl l1) hx hr (fl_one l1) hbytes (by omega) hbase
    (fun v' w' h1 h2 => h v' w' (by unfold OwS; rw [List.length_append, fl_append]; exact h1) h2)

def RetS (l : List SpanV) (w : World) (e : Ending) (w' : World) : Prop := ∃ v, e = .returned v ∧ OwS w' w.heap.size v l ∧ Below w.heap.size w w'

theorem clone71 (l : List SpanV) (A : Option Addr) (c : Nat) (w : World) (hr : RdS w A l) (hb : l.length * 96 ≤ 140737488355328) : Calls Tryz.prog 89 #[.slice A l.length c] w (RetS l w) := by
  have hl := hr.len
  cases A with
  | none =>
    have e : l = [] := by
      cases l with
      | nil => rfl
      | cons x r => obtain ⟨b, o, e, _⟩ := hr.2.2 (by simp); cases e
    subst e
    clear hr hb hl
    have hq := fun w => Lib.run_eql_slice_nil (P := Tryz.prog) w 29 44 none 0 c 0 0 Tryz.underlying29
    go_enter Tryz.func89, Tryz.ntmps89
    go_wp2
    go_ret
    exact ⟨_, rfl, OwS.nil_ _ _, Below.refl _ _⟩
  | some ad =>
    have hb0 : Below w.heap.size w (w.alloc (.cells #[] 44)) := balloc (Below.refl _ _) _
    have hr1 := hr.below hb0
    have HR := Lib.hid hr1
    have HO := Lib.hid (made_emptyS w)
    clear hr hr1
    have hq := fun w => Lib.run_eql_slice_nil (P := Tryz.prog) w 29 44 (some ad) l.length c 0 0 Tryz.underlying29
    go_enter Tryz.func89, Tryz.ntmps89
    go_wp2_with (at_builtin; refine wpl_appS rfl (.tmp 5) (.tmp 6) rfl w.heap.size _ [] l rfl HO.out (some ad) c rfl HR.out ?hb1 ?hb2 ?_)
    case hb1 => simpa using hb
    case hb2 => simp
    intro v' w' ho hg
    have hbw := bownS hb0 hg HO.out
    have H := Lib.hid (show OwS w' w.heap.size v' l by simpa using ho)
    clear ho hg
    go_wp2
    go_ret
    exact ⟨_, rfl, H.out, hbw⟩

theorem OwS.rd {w : World} {base n c : Nat} {A : Option Addr} {l : List SpanV} (h : OwS w base (.slice A n c) l) (hn : l.length = n) : RdS w A l := by
  subst hn
  exact own_rd h
theorem fl_set (l : List SpanV) (i : Nat) (hi : i < l.length) (s : SpanV) : (fl l).take (i * 8) ++ s.cs ++ (fl l).drop (i * 8 + 8) = fl (l.set i s) := by
  have h1 : fl (l.set i s) = fl (l.take i) ++ s.cs ++ fl (l.drop (i + 1)) := by
    rw [List.set_eq_take_append_cons_drop, if_pos hi]
    simp [fl]
  rw [h1]
  unfold fl
  rw [flat_take SpanV.cs 8 SpanV.cs_len, flat_drop SpanV.cs 8 SpanV.cs_len, Nat.add_mul]
theorem own_typed_ {w : World} {base : Nat} {e : TypeId} {size n : Nat} {v : Value} {xs : List Value} (h : w.ownsRow base e size v n xs) (k : Nat) (hk : v.ownBlock = some k) : ∃ cells, w.heap[k]? = some (.cells cells e (0, 0)) := by
  rcases h.2 with ⟨rfl, _⟩ | ⟨g, cap, cur, rfl, hg, hh, r⟩
  · simp [Value.ownBlock] at hk
  · have : g = k := by simpa [Value.ownBlock] using hk
    subst this
    exact ⟨cur, hh⟩
/-- Words live on where a row of spans is written. -/
theorem OwU.keep {w w1 : World} {base b' n : Nat} {u v : Value} {l : List Int} {size : Nat} {xs : List Value} (h : OwU w base u l) (ho : w.ownsRow b' 44 size v n xs) (hg : w.grownBy w1 v.ownBlock) : OwU w1 base u l := by
  refine World.ownsRow.kept h hg ?_
  cases hu : u.ownBlock with
  | none => exact .inl rfl
  | some k =>
    refine .inr fun hv => ?_
    obtain ⟨c1, h1⟩ := own_typed_ h k hu
    obtain ⟨c2, h2⟩ := own_typed_ ho k hv.symm
    rw [h1] at h2
    injection h2 with h2
    injection h2 with _ h2
    exact absurd h2 (by decide)
theorem OwN.keep {w w1 : World} {base b' n : Nat} {v : Value} {x : SpanV} {s : SpanB} {size : Nat} {xs : List Value} (h : OwN w base x s) (ho : w.ownsRow b' 44 size v n xs) (hg : w.grownBy w1 v.ownBlock) : OwN w1 base x s :=
  ⟨h.first, h.pages, h.size, h.sw, h.an, h.am, h.ac, h.al.keep ho hg, h.mn, h.mm, h.mc, h.ma.keep ho hg⟩
/-- Spans of the call's own, words and all. -/
def AllN (w : World) (base : Nat) (vs : List SpanV) (l : List SpanB) : Prop := vs.length = l.length ∧ ∀ (i : Nat) x s, vs[i]? = some x → l[i]? = some s → OwN w base x s
def OwL (w : World) (base : Nat) (v : Value) (l : List SpanB) : Prop := ∃ vs, OwS w base v vs ∧ AllN w base vs l
theorem AllN.below {w w1 : World} {base : Nat} {vs : List SpanV} {l : List SpanB} (h : AllN w base vs l) (hb : Below w.heap.size w w1) : AllN w1 base vs l := ⟨h.1, fun i x s hx hs => (h.2 i x s hx hs).below hb⟩
theorem AllN.mono {w : World} {base base' : Nat} {vs : List SpanV} {l : List SpanB} (h : AllN w base vs l) (hb : base' ≤ base) : AllN w base' vs l := ⟨h.1, fun i x s hx hs => (h.2 i x s hx hs).mono hb⟩
theorem AllN.keep {w w1 : World} {base b' n : Nat} {v : Value} {vs : List SpanV} {l : List SpanB} {size : Nat} {xs : List Value} (h : AllN w base vs l) (ho : w.ownsRow b' 44 size v n xs) (hg : w.grownBy w1 v.ownBlock) : AllN w1 base vs l :=
  ⟨h.1, fun i x s hx hs => (h.2 i x s hx hs).keep ho hg⟩
theorem AllN.nil_ (w : World) (base : Nat) : AllN w base [] [] := ⟨rfl, fun i x s hx => by simp at hx⟩
theorem AllN.append {w : World} {base : Nat} {vs us : List SpanV} {l m : List SpanB} (h : AllN w base vs l) (k : AllN w base us m) : AllN w base (vs ++ us) (l ++ m) := by
  refine ⟨by rw [List.length_append, List.length_append, h.1, k.1], fun i x s hx hs => ?_⟩
  by_cases hi : i < vs.length
  · rw [List.getElem?_append_left hi] at hx
    rw [List.getElem?_append_left (by rw [← h.1]; exact hi)] at hs
    exact h.2 i x s hx hs
  · rw [List.getElem?_append_right (by omega)] at hx
    rw [List.getElem?_append_right (by rw [← h.1]; omega), ← h.1] at hs
    exact k.2 _ x s hx hs
theorem AllN.one {w : World} {base : Nat} {x : SpanV} {s : SpanB} (h : OwN w base x s) : AllN w base [x] [s] := by
  refine ⟨rfl, fun i y t hy ht => ?_⟩
  match i with
  | 0 =>
    simp only [List.getElem?_cons_zero, Option.some.injEq] at hy ht
    subst hy
    subst ht
    exact h
  | j + 1 => simp at hy
theorem AllN.rd {w : World} {base : Nat} {vs : List SpanV} {l : List SpanB} (h : AllN w base vs l) (hw : ∀ s ∈ l, WfS s) : ∀ (i : Nat) x s, vs[i]? = some x → l[i]? = some s → RdN w x s :=
  fun i x s hx hs => (h.2 i x s hx hs).rd (hw s (List.mem_of_getElem? hs))
theorem OwL.nil_ (w : World) (base : Nat) : OwL w base (.slice none 0 0) [] := ⟨[], OwS.nil_ _ _, AllN.nil_ _ _⟩
theorem OwL.below {w w1 : World} {base : Nat} {v : Value} {l : List SpanB} (h : OwL w base v l) (hb : Below w.heap.size w w1) : OwL w1 base v l := by
  obtain ⟨vs, h1, h2⟩ := h
  exact ⟨vs, h1.below hb, h2.below hb⟩
theorem OwL.mono {w : World} {base base' : Nat} {v : Value} {l : List SpanB} (h : OwL w base v l) (hb : base' ≤ base) : OwL w base' v l := by
  obtain ⟨vs, h1, h2⟩ := h
  exact ⟨vs, h1.mono hb, h2.mono hb⟩
/-- It reads. -/
theorem OwL.shape {w : World} {base : Nat} {v : Value} {l : List SpanB} (h : OwL w base v l) (hw : ∀ s ∈ l, WfS s) : ∃ A c vs, v = .slice A l.length c ∧ l.length ≤ c ∧ RdL w A vs l := by
  obtain ⟨vs, h1, h2⟩ := h
  obtain ⟨A, c, rfl, hc, hr⟩ := h1.shape
  exact ⟨A, c, vs, by rw [h2.1], by rw [← h2.1]; exact hc, hr, h2.1, h2.rd hw⟩
def RetL (l : List SpanB) (w : World) (e : Ending) (w' : World) : Prop := ∃ v, e = .returned v ∧ OwL w' w.heap.size v l ∧ Below w.heap.size w w'
def smallL (l : List SpanB) : Prop := l.length * 96 ≤ 140737488355328 ∧ ∀ s ∈ l, smallS s


theorem RdS.made (w : World) (x : SpanV) : RdS (w.alloc (.cells #[.int .i64 x.first, .int .i64 x.pages, .int .i64 x.size, .int .i64 x.al.n, .slice x.al.A x.al.m x.al.c, .int .i64 x.ma.n, .slice x.ma.A x.ma.m x.ma.c, .bool x.sw] 44)) (some ⟨w.heap.size, 0, none⟩) [x] := by
  have h := World.ownsRow_lit (base := w.heap.size) (e := 44) (size := 8) w #[.int .i64 x.first, .int .i64 x.pages, .int .i64 x.size, .int .i64 x.al.n, .slice x.al.A x.al.m x.al.c, .int .i64 x.ma.n, .slice x.ma.A x.ma.m x.ma.c, .bool x.sw] 1 (Nat.le_refl _) (by simp [maxLen]) rfl
  exact own_rd h
theorem smallS_at {l : List SpanB} (h : smallL l) {i : Nat} {s : SpanB} (hs : l[i]? = some s) : smallS s := h.2 s (List.mem_of_getElem? hs)

set_option maxRecDepth 100000 in
set_option maxHeartbeats 8000000 in
theorem copy25 (A : Option Addr) (c : Nat) (vs : List SpanV) (l : List SpanB) (w : World) (h : RdL w A vs l) (hz : smallL l) : Calls Tryz.prog 27 #[.slice A l.length c] w (RetL l w) := by
  have hl := h.len
  have H := Lib.hid h
  have HZ := Lib.hid hz
  clear h hz
  go_enter Tryz.func27, Tryz.ntmps27
  go_wp2
  obtain ⟨wo, hwo⟩ : ∃ wo : World, wo = w := ⟨w, rfl⟩
  go_loopw [3, 8] (fun v3 i wr => ∃ k : Nat, k ≤ l.length ∧ i = .int .i64 k ∧ Hid (OwL wr w.heap.size v3 (l.take k)) ∧ Hid (Below w.heap.size w wr)) (fun v3 i _ => l.length - (intOf i).toNat)
  case atStart => exact ⟨0, Nat.zero_le _, rfl, OwL.nil_ _ _, Below.refl _ _⟩
  case round =>
    obtain ⟨k, hk, rfl, HO, HBr⟩ := hrel
    by_cases hlt : k < l.length
    · have hs : l[k]? = some l[k] := List.getElem?_eq_getElem hlt
      have hts : l.take (k + 1) = l.take k ++ [l[k]] := List.take_succ_eq_append_getElem hlt
      generalize l[k] = s at hs hts
      obtain ⟨v, bk, o, hv, hR, hA, hbk, c0, c1, c2, c3, c4, c5, c6, c7⟩ := H.out.at_ hs
      replace c0 := cell_later HBr.out c0
      replace c1 := cell_later HBr.out c1
      replace c2 := cell_later HBr.out c2
      replace c3 := cell_later HBr.out c3
      replace c4 := cell_later HBr.out c4
      replace c5 := cell_later HBr.out c5
      replace c6 := cell_later HBr.out c6
      replace c7 := cell_later HBr.out c7
      have CO : Hid (∀ W, Below w.heap.size w W → Calls Tryz.prog 57 #[v.v] W (RetN s W)) := fun W hW => one31 v s W (hR.below hW) (smallS_at HZ.out hs)
      obtain ⟨f, p, z, ⟨n, A1, m, ca⟩, ⟨n', A2, m', cb⟩, sw⟩ := v
      unfold SpanV.v at CO
      simp only at c0 c1 c2 c3 c4 c5 c6 c7 CO
      subst hA
      have HT := Lib.hid hts
      clear hR hv hs hts
      have HB1 := Lib.hid (balloc HBr.out (.cells #[.int .i64 f, .int .i64 p, .int .i64 z, .int .i64 n, .slice A1 m ca, .int .i64 n', .slice A2 m' cb, .bool sw] 44))
      go_wp2_with (go_at_call 57; refine (CO.out _ HB1.out).mono ?_)
      rintro e w2 ⟨x, rfl, hx, hb2⟩
      obtain ⟨vs', hO, hN⟩ := HO.out
      have HB2 := Lib.hid (bthen HB1.out hb2)
      have hO2 := (hO.below (balloc (Below.refl _ _) _)).below hb2
      have hN2 := (hN.below (balloc (Below.refl _ _) _)).below hb2
      have hx2 := hx.mono (base' := w.heap.size) HB1.out.size
      have HO3 := Lib.hid (hO2.below (balloc (Below.refl w2.heap.size w2) (.cells #[.int .i64 x.first, .int .i64 x.pages, .int .i64 x.size, .int .i64 x.al.n, .slice x.al.A x.al.m x.al.c, .int .i64 x.ma.n, .slice x.ma.A x.ma.m x.ma.c, .bool x.sw] 44)))
      have HN3 := Lib.hid ((hN2.append (AllN.one hx2)).below (balloc (Below.refl w2.heap.size w2) (.cells #[.int .i64 x.first, .int .i64 x.pages, .int .i64 x.size, .int .i64 x.al.n, .slice x.al.A x.al.m x.al.c, .int .i64 x.ma.n, .slice x.ma.A x.ma.m x.ma.c, .bool x.sw] 44)))
      have HB3 := Lib.hid (balloc HB2.out (.cells #[.int .i64 x.first, .int .i64 x.pages, .int .i64 x.size, .int .i64 x.al.n, .slice x.al.A x.al.m x.al.c, .int .i64 x.ma.n, .slice x.ma.A x.ma.m x.ma.c, .bool x.sw] 44))
      have HX := Lib.hid (RdS.made w2 x)
      have HL := Lib.hid hN.1
      clear hO hN hO2 hN2 hx hx2 hb2
      unfold SpanV.v
      go_wp2_with (at_builtin; refine wpl_appS rfl (.tmp 12) (.tmp 15) rfl w.heap.size _ vs' [x] rfl HO3.out (some ⟨w2.heap.size, 0, none⟩) 1 rfl HX.out ?h1 HB3.out.size ?_)
      case h1 =>
        have h1 := HZ.out.1
        have h2 := HL.out
        rw [List.length_take] at h2
        simp only [List.length_singleton]
        omega
      intro v' w4 ho hg
      have HB4 := Lib.hid (bgrown HB3.out hg (fun k' hk' => (HO3.out.lt k' hk').1))
      have HO4 : Hid (OwL w4 w.heap.size v' (l.take (k + 1))) := by
        show OwL _ _ _ _
        rw [HT.out]
        exact ⟨_, ho, HN3.out.keep HO3.out hg⟩
      clear ho hg
      go_wp2
      go_roundw
      case rel => exact ⟨k + 1, by omega, by go_num, HO4.out, HB4.out⟩
      case measure => simp [intOf]; omega
    · obtain rfl : k = l.length := by omega
      have ho' := HO.out
      rw [List.take_length] at ho'
      have HO' := Lib.hid ho'
      clear ho' HO
      go_wp2
      go_ret
      exact ⟨_, rfl, HO'.out, HBr.out⟩


/-- The first k spans are the call's own, words and all; the others' words are who knows whose. -/
structure MixL (w : World) (base : Nat) (v : Value) (us vs : List SpanV) (l : List SpanB) (k : Nat) : Prop where
  row : OwS w base v us
  len : us.length = vs.length
  own : ∀ (i : Nat) x s, i < k → us[i]? = some x → l[i]? = some s → OwN w base x s
  old : ∀ i, k ≤ i → us[i]? = vs[i]?
theorem MixL.below {w w1 : World} {base : Nat} {v : Value} {us vs : List SpanV} {l : List SpanB} {k : Nat} (h : MixL w base v us vs l k) (hb : Below w.heap.size w w1) : MixL w1 base v us vs l k :=
  ⟨h.row.below hb, h.len, fun i x s hi hx hs => (h.own i x s hi hx hs).below hb, h.old⟩
theorem MixL.step {w w1 : World} {base : Nat} {v : Value} {us vs : List SpanV} {l : List SpanB} {k : Nat} {x : SpanV} {s : SpanB} (h : MixL w base v us vs l k) (hg : w.grownBy w1 v.ownBlock) (hr : OwS w1 base v (us.set k x))
    (hk : k < us.length) (hx : OwN w base x s) (hs : l[k]? = some s) : MixL w1 base v (us.set k x) vs l (k + 1) := by
  refine ⟨hr, by rw [List.length_set]; exact h.len, fun i y t hi hy ht => ?_, fun i hi => by rw [List.getElem?_set_ne (by omega)]; exact h.old i (by omega)⟩
  by_cases e : i = k
  · subst e
    rw [List.getElem?_set_self hk] at hy
    rw [hs] at ht
    cases hy
    cases ht
    exact hx.keep h.row hg
  · rw [List.getElem?_set_ne (by omega)] at hy
    exact (h.own i y t (by omega) hy ht).keep h.row hg
theorem MixL.all {w : World} {base : Nat} {v : Value} {us vs : List SpanV} {l : List SpanB} (h : MixL w base v us vs l l.length) (hl : vs.length = l.length) : OwL w base v l :=
  ⟨us, h.row, by rw [h.len, hl], fun i x s hx hs => h.own i x s (List.getElem?_eq_some_iff.1 hs).1 hx hs⟩
/-- A store into a row of spans of the call's own. -/
theorem wpl_stS {ops : Array Oper} {rest : List Oper} {o : Oper} {a : Act} {w : World} {Q : Exit → Act → World → Prop} (hgd : o.guard = none) (p y : Operand) (ho : o.op = .store 44 p y)
    (base g n cap : Nat) (l : List SpanV) (h : OwS w base (.slice (some ⟨g, 0, none⟩) n cap) l) (hn : l.length = n) (k : Nat) (x : SpanV) (hp : a.eval p = .pointer (some ⟨g, k * 8, none⟩)) (hx : a.eval y = x.v) (hk : k < n)
    (hK : ∀ w', OwS w' base (.slice (some ⟨g, 0, none⟩) n cap) (l.set k x) → w.grownBy w' (some g) → wpList Tryz.prog ops Q rest (a.put o.dst undef) w') :
    wpList Tryz.prog ops Q (o :: rest) a w := by
  subst hn
  obtain ⟨i0, hi, hz0, hz1, hz2⟩ := info_parts info26
  refine wpl_store_own (P := Tryz.prog) hgd 44 p y ho base 44 8 i0 hi hz1 g l.length cap (fl l) h (k * 8) hp x.v hx rfl (by omega) (by simp [SpanV.v, Value.cells, Value.oneCell']) ?_
  intro w' h1 h2
  refine hK w' ?_ h2
  unfold OwS
  rw [List.length_set, ← fl_set l k hk x]
  exact h1

set_option maxRecDepth 100000 in
set_option maxHeartbeats 8000000 in
theorem own53 (A : Option Addr) (c : Nat) (vs : List SpanV) (l : List SpanB) (w : World) (h : RdL w A vs l) (hz : smallL l) : Calls Tryz.prog 48 #[.slice A l.length c] w (RetL l w) := by
  have hl := h.len
  have HLV := Lib.hid h.2.1
  have C71 : Hid (Calls Tryz.prog 89 #[.slice A l.length c] w (RetS vs w)) := by
    show Calls _ _ _ _ _
    have := clone71 vs A c w h.1 (by rw [h.2.1]; exact hz.1)
    rwa [h.2.1] at this
  have HC : Hid (∀ (i : Nat) v s, vs[i]? = some v → l[i]? = some s → ∀ W, Below w.heap.size w W → Calls Tryz.prog 90 #[v.v] W (RetN s W)) := fun i v s hv hs W hW => one58 v s W ((h.2.2 i v s hv hs).below hW) (smallS_at hz hs)
  clear h hz
  obtain ⟨i26, hi, hz0, hz1, hz2⟩ := info_parts info26
  have HI := Lib.hid hi
  have HS := Lib.hid hz1
  clear hi hz0 hz1 hz2
  go_enter Tryz.func48, Tryz.ntmps48
  go_wp2_with (go_at_call 89; refine C71.out.mono ?_)
  rintro e w1 ⟨v1, rfl, ho1, hb1⟩
  obtain ⟨A1, c1, rfl, hc1, hr1⟩ := ho1.shape
  have HB1 := Lib.hid hb1
  have HM0 : Hid (MixL w1 w.heap.size (.slice A1 l.length c1) vs vs l 0) := by
    show MixL _ _ _ _ _ _ _
    rw [HLV.out] at ho1
    exact ⟨ho1, rfl, fun i x s hi => by omega, fun i _ => rfl⟩
  rw [HLV.out]
  clear ho1 hb1 hc1 hr1
  go_wp2
  obtain ⟨wo, hwo⟩ : ∃ wo : World, wo = w1 := ⟨w1, rfl⟩
  go_loopw [8] (fun i wr => ∃ k : Nat, k ≤ l.length ∧ i = .int .i64 k ∧ Hid (∃ us, MixL wr w.heap.size (.slice A1 l.length c1) us vs l k) ∧ Hid (Below w.heap.size w wr)) (fun i _ => l.length - (intOf i).toNat)
  case atStart => exact ⟨0, Nat.zero_le _, rfl, ⟨vs, HM0.out⟩, HB1.out⟩
  case round =>
    obtain ⟨k, hk, rfl, HM, HBr⟩ := hrel
    by_cases hlt : k < l.length
    · obtain ⟨us, hM⟩ := HM.out
      have hs : l[k]? = some l[k] := List.getElem?_eq_getElem hlt
      generalize l[k] = s at hs
      have hv : vs[k]? = some (vs[k]'(by have := HLV.out; omega)) := List.getElem?_eq_getElem _
      generalize (vs[k]'_) = v at hv
      have hlu : us.length = l.length := by rw [hM.len, HLV.out]
      have CO := Lib.hid (HC.out k v s hv hs)
      obtain ⟨g, eg⟩ := own_form hM.row (by omega)
      cases eg
      obtain ⟨b, o, eb, _, c0, c1, c2, c3, c4, c5, c6, c7⟩ := (hM.row.rd hlu).at_ ((hM.old k (Nat.le_refl k)).trans hv)
      cases eb
      simp only [Nat.zero_add] at c0 c1 c2 c3 c4 c5 c6 c7
      have HMM := Lib.hid hM
      have HSS := Lib.hid hs
      have HLU := Lib.hid hlu
      clear hM hs hv hlu HM HM0
      obtain ⟨f, p, z, ⟨n, A3, m, ca⟩, ⟨n', A2, m', cb⟩, sw⟩ := v
      unfold SpanV.v at CO
      simp only at c0 c1 c2 c3 c4 c5 c6 c7 CO
      go_wp2_with (go_at_call 90; refine (CO.out _ HBr.out).mono ?_)
      rintro e w2 ⟨x, rfl, hx, hb2⟩
      have HM2 := Lib.hid (HMM.out.below hb2)
      have HX := Lib.hid (hx.mono (base' := w.heap.size) HBr.out.size)
      have HB2 := Lib.hid (bthen HBr.out hb2)
      clear hx hb2 HMM c0 c1 c2 c3 c4 c5 c6 c7
      unfold SpanV.v
      have HR2 := Lib.hid HM2.out.row
      go_wp2_with (refine wpl_stS rfl (.tmp 18) (.tmp 17) rfl w.heap.size g l.length c1 us HR2.out HLU.out k x rfl rfl hlt ?_)
      intro w3 ho3 hg
      have HB3 := Lib.hid (bgrown HB2.out hg (fun k' hk' => by cases hk'; exact (HR2.out.lt g rfl).1))
      have HM3 : Hid (MixL w3 w.heap.size (.slice (some ⟨g, 0, none⟩) l.length c1) (us.set k x) vs l (k + 1)) := HM2.out.step hg ho3 (by rw [HLU.out]; exact hlt) HX.out HSS.out
      clear ho3 hg
      go_wp2
      go_roundw
      case rel => exact ⟨k + 1, by omega, by go_num, ⟨_, HM3.out⟩, HB3.out⟩
      case measure => simp [intOf]; omega
    · obtain rfl : k = l.length := by omega
      go_wp2
      go_ret
      obtain ⟨us, hM⟩ := HM.out
      exact ⟨_, rfl, hM.all HLV.out, HBr.out⟩


theorem base42 (v : SpanV) (w : World) (h0 : 0 ≤ v.first) (h1 : v.first ≤ 1024) : Calls Tryz.prog 72 #[v.v] w (Ret (.int .u64 (v.first * 16)) w) := by
  unfold SpanV.v
  generalize v.first = f at *
  go_enter Tryz.func72, Tryz.ntmps72
  go_wp2
  go_ret
  exact ⟨rfl, balloc (Below.refl _ _) _⟩
def rightE (s : SpanB) : Int := if rightP s then 0 else 2
def slotsN (s : SpanB) : Int := if rightP s then manyP s.size else 0
def addrE (s : SpanB) (k : Int) : Int := if rightP s then (if 0 ≤ k ∧ k < manyP s.size then 0 else 1) else 2
def addrN (s : SpanB) (k : Int) : Int := if rightP s then (if 0 ≤ k ∧ k < manyP s.size then s.first * 16 + k * s.size else 0) else 0

end Go.Proofs.YtieijfefnedifaaGreatDoor
