/- The laws SpanFinds and SpanChanges, walked. -/
import Derived.Test.YtchbbldanmmpjaaDoorUI
import Derived.Test.YtchbbldanmmpjaaDoorU6
namespace Go.Proofs.YtchbbldanmmpjaaDoor
open Go.RowKit
set_option linter.unusedVariables false
set_option linter.unusedSimpArgs false

set_option maxRecDepth 100000 in
set_option maxHeartbeats 8000000 in
theorem finds4 (A : Option Addr) (c : Nat) (vs : List SpanV) (l : List SpanB) (x z : Int) (w : World) (h : RdL w A vs l) (hT : Tab w) (hx : 0 ≤ x ∧ x < 18446744073709551616) :
    Calls Tryd.prog 4 #[.slice A l.length c, .int .u64 x, .int .i64 z] w (Ret (.bool true) w) := by
  have hl := h.len
  have C17 : Hid (∀ W, Below w.heap.size w W → Calls Tryd.prog 17 #[] W (Ret (.bool true) W)) := fun W hW => lives17 W (hT.below hW)
  have C21 : Hid (∀ W, Below w.heap.size w W → Calls Tryd.prog 21 #[.slice A l.length c, .int .u64 x] W (Ret (.tuple #[.int .i64 (findP l x).i, .int .i64 (findP l x).k, .int .i64 (findP l x).e]) W)) := fun W hW => find21 A c vs l x W (h.below hW) hx
  have C22 : Hid (∀ W, Below w.heap.size w W → Calls Tryd.prog 22 #[.slice A l.length c, .int .u64 x] W (Ret (.tuple #[.int .i64 (findP l x).i, .int .i64 (findP l x).k, .int .i64 (findP l x).e]) W)) := fun W hW => by
    have := find22 A c vs l x W (h.below hW) hx
    rwa [find_eq] at this
  have C23 : Hid (∀ W, Below w.heap.size w W → Calls Tryd.prog 23 #[.slice A l.length c, .int .i64 z] W (Ret (.tuple #[.int .i64 (roomP l z).i, .int .i64 (roomP l z).k, .int .i64 (roomP l z).e]) W)) := fun W hW => room23 A c vs l z W (h.below hW) (hT.below hW)
  have C24 : Hid (∀ W, Below w.heap.size w W → Calls Tryd.prog 24 #[.slice A l.length c, .int .i64 z] W (Ret (.tuple #[.int .i64 (roomP l z).i, .int .i64 (roomP l z).k, .int .i64 (roomP l z).e]) W)) := fun W hW => room24 A c vs l z W (h.below hW)
  have HB0 := Lib.hid (Below.refl w.heap.size w)
  generalize findP l x = fd at *
  generalize roomP l z = rm at *
  obtain ⟨f1, f2, f3⟩ := fd
  obtain ⟨r1, r2, r3⟩ := rm
  simp only at C21 C22 C23 C24
  clear h hT hx
  go_enter Tryd.func4, Tryd.ntmps4
  go_wp2_with (go_at_call 21; refine (C21.out _ HB0.out).mono ?_)
  rintro e w1 ⟨rfl, hb⟩
  have HB1 := Lib.hid (bthen HB0.out hb)
  clear hb C21
  go_wp2_with (go_at_call 22; refine (C22.out _ HB1.out).mono ?_)
  rintro e w2 ⟨rfl, hb⟩
  have HB2 := Lib.hid (bthen HB1.out hb)
  clear hb C22
  go_wp2_with (go_at_call 23; refine (C23.out _ HB2.out).mono ?_)
  rintro e w3 ⟨rfl, hb⟩
  have HB3 := Lib.hid (bthen HB2.out hb)
  clear hb C23
  go_wp2_with (go_at_call 24; refine (C24.out _ HB3.out).mono ?_)
  rintro e w4 ⟨rfl, hb⟩
  have HB4 := Lib.hid (bthen HB3.out hb)
  clear hb C24
  go_wp2_with (go_at_call 17; refine (C17.out _ HB4.out).mono ?_)
  rintro e w5 ⟨rfl, hb⟩
  have HB5 := Lib.hid (bthen HB4.out hb)
  clear hb C17
  go_wp2
  go_ret
  exact ⟨rfl, HB5.out⟩

theorem mem_addL {l : List SpanB} {s x : SpanB} (h : x ∈ addL l s) : x ∈ l ∨ x = s := by
  unfold addL at h
  split at h
  · split at h
    · exact .inl h
    · split at h
      · exact .inl h
      · exact mem_insB h
  · cases h
theorem mem_dropL {l : List SpanB} {f : Int} {x : SpanB} (h : x ∈ dropL l f) : x ∈ l := by
  unfold dropL at h
  split at h
  · exact (List.mem_filter.1 h).1
  · cases h
set_option maxRecDepth 100000 in
set_option maxHeartbeats 8000000 in
theorem changes5 (A : Option Addr) (c : Nat) (vs : List SpanV) (l : List SpanB) (v : SpanV) (s : SpanB) (f : Int) (w : World) (h : RdL w A vs l) (hv : RdN w v s) (hT : Tab w) (hz : smallL l) :
    Calls Tryd.prog 5 #[.slice A l.length c, v.v, .int .i64 f] w (Ret (.bool true) w) := by
  have hl := h.len
  have C17 : Hid (∀ W, Below w.heap.size w W → Calls Tryd.prog 17 #[] W (Ret (.bool true) W)) := fun W hW => lives17 W (hT.below hW)
  have C25 : Hid (∀ W, Below w.heap.size w W → Calls Tryd.prog 25 #[.slice A l.length c] W (RetL l W)) := fun W hW => copy25 A c vs l W (h.below hW) hz
  have C26 : Hid (∀ B d us W, Below w.heap.size w W → RdL W B us l → Calls Tryd.prog 26 #[.slice B l.length d, v.v] W (RetLE (addL l s) (addE l s) W)) := fun B d us W hW hr => add26 B d us l v s W hr (hv.below hW)
  have C27 : Hid (∀ W, Below w.heap.size w W → Calls Tryd.prog 27 #[.slice A l.length c, v.v] W (RetLE (addL l s) (addE l s) W)) := fun W hW => add27 A c vs l v s W (h.below hW) (hv.below hW)
  have C28 : Hid (∀ B d us W, RdL W B us l → Calls Tryd.prog 28 #[.slice B l.length d, .int .i64 f] W (RetLE (dropL l f) (dropE l f) W)) := fun B d us W hr => drop28 B d us l f W hr
  have C29 : Hid (∀ W, Below w.heap.size w W → Calls Tryd.prog 29 #[.slice A l.length c, .int .i64 f] W (RetLE (dropL l f) (dropE l f) W)) := fun W hW => drop29 A c vs l f W (h.below hW)
  have HWL := Lib.hid h.wf
  have HWA : Hid (∀ x ∈ addL l s, WfS x) := fun x hx => by
    rcases mem_addL hx with hx | rfl
    · exact h.wf x hx
    · exact hv.wf
  have HWD : Hid (∀ x ∈ dropL l f, WfS x) := fun x hx => h.wf x (mem_dropL hx)
  have HL := Lib.hid h
  have HB0 := Lib.hid (balloc (Below.refl w.heap.size w) (.cells #[.int .i64 v.first, .int .i64 v.pages, .int .i64 v.size, .int .i64 v.al.n, .slice v.al.A v.al.m v.al.c, .int .i64 v.ma.n, .slice v.ma.A v.ma.m v.ma.c, .bool v.sw] 26))
  have HV0 := Lib.hid (VarS.made w v w.heap.size rfl)
  generalize addL l s = la at *
  generalize addE l s = ea at *
  generalize dropL l f = ld at *
  generalize dropE l f = ed at *
  obtain ⟨vf, vp, vz, ⟨n, A1, m1, c1⟩, ⟨n', B1, m2, d1⟩, sw⟩ := v
  unfold SpanV.v at C26 C27 ⊢
  simp only at C26 C27 HV0 HB0 ⊢
  clear h hv hT hz
  go_enter Tryd.func5, Tryd.ntmps5
  go_wp2_with (go_at_call 25; refine (C25.out _ HB0.out).mono ?_)
  rintro e w1 ⟨v1, rfl, hO, hb⟩
  obtain ⟨A1', c1', us1, rfl, _, hr⟩ := hO.shape HWL.out
  have HB1 := Lib.hid (bthen HB0.out hb)
  have HV1 := Lib.hid (HV0.out.below hb)
  have HG := Lib.hid hr
  clear hb hO hr
  obtain ⟨k0, k1, k2, k3, k4, k5, k6, k7⟩ := HV1.out
  simp only at k0 k1 k2 k3 k4 k5 k6 k7
  go_wp2_with (go_at_call 26; refine (C26.out _ _ _ _ HB1.out HG.out).mono ?_)
  rintro e w2 ⟨v2, rfl, hO, hb⟩
  obtain ⟨A2, c2, us2, rfl, _, hr⟩ := hO.shape HWA.out
  have HB2 := Lib.hid (bthen HB1.out hb)
  have HV2 := Lib.hid (HV1.out.below hb)
  have HR2 := Lib.hid hr
  have HC2 := Lib.hid hb
  clear hb hO hr k0 k1 k2 k3 k4 k5 k6 k7
  obtain ⟨k0, k1, k2, k3, k4, k5, k6, k7⟩ := HV2.out
  simp only at k0 k1 k2 k3 k4 k5 k6 k7
  go_wp2_with (go_at_call 27; refine (C27.out _ HB2.out).mono ?_)
  rintro e w3 ⟨v3, rfl, hO, hb⟩
  obtain ⟨A3, c3, us3, rfl, _, hr⟩ := hO.shape HWA.out
  have HB3 := Lib.hid (bthen HB2.out hb)
  have HV3 := Lib.hid (HV2.out.below hb)
  have HR3 := Lib.hid hr
  have HC3 := Lib.hid hb
  clear hb hO hr k0 k1 k2 k3 k4 k5 k6 k7
  go_wp2_with (go_at_call 28; refine (C28.out _ _ _ _ (HG.out.below (bthen HC2.out HC3.out))).mono ?_)
  rintro e w4 ⟨v4, rfl, hO, hb⟩
  obtain ⟨A4, c4, us4, rfl, _, hr⟩ := hO.shape HWD.out
  have HB4 := Lib.hid (bthen HB3.out hb)
  have HR4 := Lib.hid hr
  have HC4 := Lib.hid hb
  clear hb hO hr
  go_wp2_with (go_at_call 29; refine (C29.out _ HB4.out).mono ?_)
  rintro e w5 ⟨v5, rfl, hO, hb⟩
  obtain ⟨A5, c5, us5, rfl, _, hr⟩ := hO.shape HWD.out
  have HB5 := Lib.hid (bthen HB4.out hb)
  have HR5 := Lib.hid hr
  have HC5 := Lib.hid hb
  clear hb hO hr
  go_wp2_with (go_at_call 17; refine (C17.out _ HB5.out).mono ?_)
  rintro e w6 ⟨rfl, hb⟩
  have HB6 := Lib.hid (bthen HB5.out hb)
  have HC6 := Lib.hid hb
  clear hb
  have HR2' := Lib.hid ((((HR2.out.below HC3.out).below HC4.out).below HC5.out).below HC6.out)
  have HR3' := Lib.hid (((HR3.out.below HC4.out).below HC5.out).below HC6.out)
  have HR4' := Lib.hid ((HR4.out.below HC5.out).below HC6.out)
  have HR5' := Lib.hid (HR5.out.below HC6.out)
  have HG' := Lib.hid (((((HG.out.below HC2.out).below HC3.out).below HC4.out).below HC5.out).below HC6.out)
  clear HR2 HR3 HR4 HR5 HG HC2 HC3 HC4 HC5 HV1 HV2 HV3 HC6
  have HC6 := Lib.hid (Below.refl w6.heap.size w6)
  have CS7 := Lib.hid (same30 _ _ c2 c3 _ _ _ _ _ (HR2'.out) (HR3'.out))
  rw [decide_eq_true rfl] at CS7
  go_wp2_with (go_at_call 30; refine CS7.out.mono ?_)
  rintro e w7 ⟨rfl, hb⟩
  have HB7 := Lib.hid (bthen HB6.out hb)
  have HC7 := Lib.hid (bthen HC6.out hb)
  clear hb CS7
  have CS8 := Lib.hid (same30 _ _ c4 c5 _ _ _ _ _ (HR4'.out.below HC7.out) (HR5'.out.below HC7.out))
  rw [decide_eq_true rfl] at CS8
  go_wp2_with (go_at_call 30; refine CS8.out.mono ?_)
  rintro e w8 ⟨rfl, hb⟩
  have HB8 := Lib.hid (bthen HB7.out hb)
  have HC8 := Lib.hid (bthen HC7.out hb)
  clear hb CS8
  have CS9 := Lib.hid (same30 _ _ c1' c _ _ _ _ _ (HG'.out.below HC8.out) (HL.out.below HB8.out))
  rw [decide_eq_true rfl] at CS9
  go_wp2_with (go_at_call 30; refine CS9.out.mono ?_)
  rintro e w9 ⟨rfl, hb⟩
  have HB9 := Lib.hid (bthen HB8.out hb)
  have HC9 := Lib.hid (bthen HC8.out hb)
  clear hb CS9
  go_wp2
  go_ret
  exact ⟨rfl, HB9.out⟩
end Go.Proofs.YtchbbldanmmpjaaDoor
