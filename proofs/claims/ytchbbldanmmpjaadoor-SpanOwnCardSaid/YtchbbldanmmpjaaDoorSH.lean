/- The walk of the reference's One. -/
import Derived.Test.YtchbbldanmmpjaaDoorSG
namespace Go.Proofs.YtchbbldanmmpjaaDoor
open Go.RowKit
set_option linter.unusedVariables false
set_option linter.unusedSimpArgs false

set_option maxRecDepth 100000 in
set_option maxHeartbeats 8000000 in
theorem one31 (v : SpanV) (s : SpanB) (w : World) (h : RdN w v s) (hz : smallS s) : Calls Tryd.prog 31 #[v.v] w (RetN s w) := by
  have CA : Hid (∀ W, Below w.heap.size w W → Calls Tryd.prog 61 #[v.al.v] W (RetB s.al W)) := fun W hW => copy61 v.al s.al W (h.al.below hW) hz.1
  have CM : Hid (∀ W, Below w.heap.size w W → Calls Tryd.prog 61 #[v.ma.v] W (RetB s.ma W)) := fun W hW => copy61 v.ma s.ma W (h.ma.below hW) hz.2
  have HAN := Lib.hid h.al.n
  have HMN := Lib.hid h.ma.n
  obtain ⟨f, p, z, ⟨n, A, m, ca⟩, ⟨n', B, m', cb⟩, sw⟩ := v
  obtain ⟨rfl, rfl, rfl, rfl, _, _, hf1, hp1, hz1⟩ := h
  simp only at HAN HMN
  unfold SpanV.v
  unfold BitV.v at CA CM
  simp only at CA CM ⊢
  clear hz hf1 hp1 hz1
  have HB0 : Hid (Below w.heap.size w ((w.alloc (.cells #[.int .i64 s.first, .int .i64 s.pages, .int .i64 s.size, .int .i64 n, .slice A m ca, .int .i64 n', .slice B m' cb, .bool s.sw] 26)).alloc (.cells #[.int .i64 0, .int .i64 0, .int .i64 0, .int .i64 0, .slice none 0 0, .int .i64 0, .slice none 0 0, .bool false] 26))) := balloc (balloc (Below.refl _ _) _) _
  go_enter Tryd.func31, Tryd.ntmps31
  go_wp2_with fail
  refine (CA.out _ HB0.out).mono ?_
  rintro e w1 ⟨⟨n1, A1, m1, c1⟩, rfl, hn1, hm1, hcap1, ho1, hb1⟩
  obtain ⟨hc1, hf1, hs1⟩ := bcellB (B := w.heap.size + 2) hb1 (by simp)
  simp only at hn1 hm1 hcap1 ho1
  have z0 : w.heap.size < w1.heap.size := by omega
  have z1 : w.heap.size + 1 < w1.heap.size := by omega
  have HO1 := Lib.hid ho1
  have HN1 := Lib.hid hn1
  have HM1 := Lib.hid hm1
  have HC1 := Lib.hid hcap1
  have HB1 := Lib.hid (bthen HB0.out hb1)
  clear ho1 hn1 hm1 hcap1 hb1
  unfold BitV.v
  simp only
  go_wp2_with fail
  have HB1' : Hid (Below w.heap.size w ((w1.setCell ⟨w.heap.size, 3, none⟩ (.int .i64 n1)).setCell ⟨w.heap.size, 4, none⟩ (.slice A1 m1 c1))) := (HB1.out.setCell (by simp) _).setCell (by simp) _
  have HO1s : Hid (OwU ((w1.setCell ⟨w.heap.size, 3, none⟩ (.int .i64 n1)).setCell ⟨w.heap.size, 4, none⟩ (.slice A1 m1 c1)) (w.heap.size + 2) (.slice A1 m1 c1) s.al.w) := by
    show OwU _ _ _ _
    repeat (refine OwU.set_lo ?_ (by simp) _)
    exact HO1.out.mono (by simp)
  refine (CM.out _ HB1'.out).mono ?_
  rintro e w2 ⟨⟨n2, A2, m2, c2⟩, rfl, hn2, hm2, hcap2, ho2, hb2⟩
  have hs1' : w.heap.size + 2 ≤ ((w1.setCell ⟨w.heap.size, 3, none⟩ (.int .i64 n1)).setCell ⟨w.heap.size, 4, none⟩ (.slice A1 m1 c1)).heap.size := by simpa using hs1
  obtain ⟨hc2, hf2, hs2⟩ := bcellB hb2 hs1'
  simp only at hn2 hm2 hcap2 ho2
  have HO1' := Lib.hid (HO1s.out.below hb2)
  have HO2 := Lib.hid (ho2.mono hs1')
  have HN2 := Lib.hid hn2
  have HM2 := Lib.hid hm2
  have HC2 := Lib.hid hcap2
  have HB2 := Lib.hid (bthen HB1'.out hb2)
  clear ho2 hn2 hm2 hcap2 hb2 hs1' HO1s HB1'
  unfold BitV.v
  simp only
  go_wp2
  refine bodyPost_ret (v := .agg #[.int .i64 s.first, .int .i64 s.pages, .int .i64 s.size, .int .i64 n1, .slice A1 m1 c1, .int .i64 n2, .slice A2 m2 c2, .bool s.sw]) (by simp [results, Tryd.results31, go_sem, hc2, hc1]) rfl ?_
  refine ⟨⟨s.first, s.pages, s.size, ⟨n1, A1, m1, c1⟩, ⟨n2, A2, m2, c2⟩, s.sw⟩, rfl, ⟨rfl, rfl, rfl, rfl, HN1.out, HM1.out, HC1.out, ?_, HN2.out, HM2.out, HC2.out, ?_⟩, ?_⟩
  · refine OwU.mono (base := w.heap.size + 2) ?_ (by omega)
    repeat (refine OwU.set_lo ?_ (by simp) _)
    exact HO1'.out
  · refine OwU.mono (base := w.heap.size + 2) ?_ (by omega)
    repeat (refine OwU.set_lo ?_ (by simp) _)
    exact HO2.out
  · repeat (refine Below.setCell ?_ (by first | (simp; done) | (simp; omega)) _)
    exact HB2.out
end Go.Proofs.YtchbbldanmmpjaaDoor
