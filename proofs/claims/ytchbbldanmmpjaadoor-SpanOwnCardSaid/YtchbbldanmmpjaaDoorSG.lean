/- The walks of One, the program's and the reference's. -/
import Derived.Test.YtchbbldanmmpjaaDoorSF
import Derived.Deep.RegionWith
namespace Go.Proofs.YtchbbldanmmpjaaDoor
open Go.RowKit
set_option linter.unusedVariables false
set_option linter.unusedSimpArgs false

/-- A span whose words are of the call's own. -/
structure OwN (w : World) (base : Nat) (v : SpanV) (s : SpanB) : Prop where
  first : v.first = s.first
  pages : v.pages = s.pages
  size : v.size = s.size
  sw : v.sw = s.sw
  an : v.al.n = s.al.n
  am : v.al.m = s.al.w.length
  ac : v.al.m ≤ v.al.c
  al : OwU w base (.slice v.al.A v.al.m v.al.c) s.al.w
  mn : v.ma.n = s.ma.n
  mm : v.ma.m = s.ma.w.length
  mc : v.ma.m ≤ v.ma.c
  ma : OwU w base (.slice v.ma.A v.ma.m v.ma.c) s.ma.w
/-- What holds of a span's numbers, in any memory. -/
structure WfB (b : BitB) : Prop where
  lo : -9223372036854775808 ≤ b.n
  hi : b.n ≤ 9223372036854775807
  words : ∀ x ∈ b.w, 0 ≤ x ∧ x < 18446744073709551616
structure WfS (s : SpanB) : Prop where
  al : WfB s.al
  ma : WfB s.ma
  f1 : -9223372036854775808 ≤ s.first ∧ s.first ≤ 9223372036854775807
  p1 : -9223372036854775808 ≤ s.pages ∧ s.pages ≤ 9223372036854775807
  z1 : -9223372036854775808 ≤ s.size ∧ s.size ≤ 9223372036854775807
theorem RdN.wf {w : World} {v : SpanV} {s : SpanB} (h : RdN w v s) : WfS s := ⟨⟨h.al.lo, h.al.hi, h.al.words⟩, ⟨h.ma.lo, h.ma.hi, h.ma.words⟩, h.f1, h.p1, h.z1⟩
theorem OwN.rd {w : World} {base : Nat} {v : SpanV} {s : SpanB} (h : OwN w base v s) (hw : WfS s) : RdN w v s :=
  ⟨h.first, h.pages, h.size, h.sw, ⟨h.an, h.am, h.ac, hw.al.lo, hw.al.hi, hw.al.words, h.al.rd h.am.symm⟩, ⟨h.mn, h.mm, h.mc, hw.ma.lo, hw.ma.hi, hw.ma.words, h.ma.rd h.mm.symm⟩, hw.f1, hw.p1, hw.z1⟩
theorem OwN.below {w w1 : World} {base : Nat} {v : SpanV} {s : SpanB} (h : OwN w base v s) (hb : Below w.heap.size w w1) : OwN w1 base v s :=
  ⟨h.first, h.pages, h.size, h.sw, h.an, h.am, h.ac, h.al.below hb, h.mn, h.mm, h.mc, h.ma.below hb⟩
theorem OwN.mono {w : World} {base base' : Nat} {v : SpanV} {s : SpanB} (h : OwN w base v s) (hb : base' ≤ base) : OwN w base' v s :=
  ⟨h.first, h.pages, h.size, h.sw, h.an, h.am, h.ac, h.al.mono hb, h.mn, h.mm, h.mc, h.ma.mono hb⟩
def RetN (s : SpanB) (w : World) (e : Ending) (w' : World) : Prop := ∃ v : SpanV, e = .returned v.v ∧ OwN w' w.heap.size v s ∧ Below w.heap.size w w'
/-- How large a span's words may be. -/
def smallS (s : SpanB) : Prop := s.al.w.length * 8 ≤ 140737488355328 ∧ s.ma.w.length * 8 ≤ 140737488355328

set_option maxRecDepth 100000 in
set_option maxHeartbeats 8000000 in
theorem one58 (v : SpanV) (s : SpanB) (w : World) (h : RdN w v s) (hz : smallS s) : Calls Tryd.prog 58 #[v.v] w (RetN s w) := by
  have CA : Hid (∀ W, Below w.heap.size w W → Calls Tryd.prog 37 #[v.al.v] W (RetB s.al W)) := fun W hW => own37 v.al s.al W (h.al.below hW) hz.1
  have CM : Hid (∀ W, Below w.heap.size w W → Calls Tryd.prog 37 #[v.ma.v] W (RetB s.ma W)) := fun W hW => own37 v.ma s.ma W (h.ma.below hW) hz.2
  have HAN := Lib.hid h.al.n
  have HMN := Lib.hid h.ma.n
  obtain ⟨f, p, z, ⟨n, A, m, ca⟩, ⟨n', B, m', cb⟩, sw⟩ := v
  obtain ⟨rfl, rfl, rfl, rfl, _, _, hf1, hp1, hz1⟩ := h
  simp only at HAN HMN
  unfold SpanV.v
  unfold BitV.v at CA CM
  simp only at CA CM ⊢
  clear hz hf1 hp1 hz1
  have HB0 : Hid (Below w.heap.size w ((w.alloc (.cells #[.int .i64 s.first, .int .i64 s.pages, .int .i64 s.size, .int .i64 n, .slice A m ca, .int .i64 n', .slice B m' cb, .bool s.sw] 26)).alloc (.cells #[.int .i64 0, .int .i64 0, .int .i64 0, .int .i64 0, .slice none 0 0, .int .i64 0, .slice none 0 0, .bool false] 26))) := balloc (balloc (Below.refl _ _) _) _
  go_enter Tryd.func58, Tryd.ntmps58
  go_wp2
  go_region_with (first
    | (go_at_call 37; (with_reducible refine (CA.out _ HB0.out.drew).mono ?_); rintro e w1 ⟨⟨n1, A1, m1, c1⟩, rfl, hn1, hm1, hcap1, ho1, hb1⟩; obtain ⟨hc1, hf1, hs1⟩ := bcellB (B := w.heap.size + 2) hb1 (by simp); simp only at hn1 hm1 hcap1 ho1; have HO1 := Lib.hid ho1; have HN1 := Lib.hid hn1; have HM1 := Lib.hid hm1; have HC1 := Lib.hid hcap1; have HB1 := Lib.hid (bthen HB0.out.drew hb1); clear ho1 hn1 hm1 hcap1 hb1 CA; unfold BitV.v; simp only)
    | (go_at_call 37; (with_reducible refine (CM.out _ HB1.out).mono ?_); rintro e w2 ⟨⟨n2, A2, m2, c2⟩, rfl, hn2, hm2, hcap2, ho2, hb2⟩; obtain ⟨hc2, hf2, hs2⟩ := bcellB hb2 hs1; simp only at hn2 hm2 hcap2 ho2; have HO1' := Lib.hid (HO1.out.below hb2); have HO2 := Lib.hid ho2; have HN2 := Lib.hid hn2; have HM2 := Lib.hid hm2; have HC2 := Lib.hid hcap2; have HB2 := Lib.hid (bthen HB1.out hb2); clear ho2 hn2 hm2 hcap2 hb2; unfold BitV.v; simp only))
  all_goals
    go_wp2
    refine bodyPost_ret (v := .agg #[.int .i64 s.first, .int .i64 s.pages, .int .i64 s.size, .int .i64 n1, .slice A1 m1 c1, .int .i64 n2, .slice A2 m2 c2, .bool s.sw]) (by simp [results, Tryd.results58, go_sem, hc2, hc1]) rfl ?_
    refine ⟨⟨s.first, s.pages, s.size, ⟨n1, A1, m1, c1⟩, ⟨n2, A2, m2, c2⟩, s.sw⟩, rfl, ⟨rfl, rfl, rfl, rfl, HN1.out, HM1.out, HC1.out, ?_, HN2.out, HM2.out, HC2.out, ?_⟩, ?_⟩
    · refine OwU.mono (base := w.heap.size + 2) ?_ (by omega)
      repeat (refine OwU.set_lo ?_ (by simp) _)
      exact HO1'.out.mono (by simp)
    · refine OwU.mono (base := w.heap.size + 2) ?_ (by omega)
      repeat (refine OwU.set_lo ?_ (by simp) _)
      exact HO2.out.mono hs1
    · repeat (refine Below.setCell ?_ (by first | (simp; done) | (simp; omega)) _)
      exact HB2.out
end Go.Proofs.YtchbbldanmmpjaaDoor
