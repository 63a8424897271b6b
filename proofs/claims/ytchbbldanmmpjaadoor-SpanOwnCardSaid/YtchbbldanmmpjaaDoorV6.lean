/- The walk of the law SpanOwn. -/
import Derived.Test.YtchbbldanmmpjaaDoorU6
import Derived.HandedShaped
namespace Go.Proofs.YtchbbldanmmpjaaDoor
open Go.RowKit
set_option linter.unusedVariables false
set_option linter.unusedSimpArgs false

/-! ### Cells that hold a number of a kind, and rows whose cells do -/
def Kd (w : World) (p : Addr) (k : IntKind) : Prop := (∃ x : Int, w.cell? p = some (.int k x)) ∧ w.frozen? p = false
theorem Kd.set {w : World} {p q : Addr} {k k' : IntKind} (h : Kd w p k) (h' : Kd w q k') (x : Int) : Kd (w.setCell p (.int k x)) q k' := by
  refine ⟨?_, by rw [World.frozen?_setCell]; exact h'.2⟩
  by_cases e : p = q
  · subst e
    obtain ⟨⟨a, ha⟩, _⟩ := h
    obtain ⟨⟨b, hb⟩, _⟩ := h'
    rw [ha] at hb
    injection hb with hb
    injection hb with hk _
    subst hk
    exact ⟨x, World.cell?_setCell_same _ _ _ ha⟩
  · obtain ⟨⟨b, hb⟩, _⟩ := h'
    exact ⟨b, (World.cell?_setCell_other (h := e) ..).trans hb⟩
theorem Kd.slice {w : World} {p q : Addr} {k : IntKind} (h : Kd w p k) {A : Option Addr} {n c : Nat} (hq : w.cell? q = some (.slice A n c)) (v : Value) : (w.setCell p v).cell? q = some (.slice A n c) := by
  rw [World.cell?_setCell_other]
  · exact hq
  · intro e
    subst e
    obtain ⟨⟨x, hx⟩, _⟩ := h
    rw [hx] at hq
    cases hq
def WRD (w : World) (base : Nat) (A : Option Addr) (m : Nat) : Prop := m ≤ 9223372036854775807 ∧ (0 < m → ∃ g, A = some ⟨g, 0, none⟩ ∧ base ≤ g ∧ ∀ q, q < m → Kd w ⟨g, q, none⟩ .u64)
def SPN (w : World) (base : Nat) (A : Option Addr) (n : Nat) : Prop := n ≤ 9223372036854775807 ∧ (0 < n → ∃ g, A = some ⟨g, 0, none⟩ ∧ base ≤ g ∧ ∀ i, i < n → Kd w ⟨g, i * 8 + 2, none⟩ .i64 ∧ ∃ B m d, w.cell? ⟨g, i * 8 + 4, none⟩ = some (.slice B m d) ∧ WRD w base B m)
theorem WRD.set {w : World} {base m : Nat} {A : Option Addr} {p : Addr} {k : IntKind} (h : WRD w base A m) (hp : Kd w p k) (x : Int) : WRD (w.setCell p (.int k x)) base A m :=
  ⟨h.1, fun hm => by
    obtain ⟨g, e, hb, hc⟩ := h.2 hm
    exact ⟨g, e, hb, fun q hq => hp.set (hc q hq) x⟩⟩
theorem SPN.set {w : World} {base n : Nat} {A : Option Addr} {p : Addr} {k : IntKind} (h : SPN w base A n) (hp : Kd w p k) (x : Int) : SPN (w.setCell p (.int k x)) base A n :=
  ⟨h.1, fun hn => by
    obtain ⟨g, e, hb, hc⟩ := h.2 hn
    refine ⟨g, e, hb, fun i hi => ?_⟩
    obtain ⟨h1, B, m, d, h2, h3⟩ := hc i hi
    exact ⟨hp.set h1 x, B, m, d, hp.slice h2 _, h3.set hp x⟩⟩
theorem OwU.wrd {w : World} {base : Nat} {A : Option Addr} {c : Nat} {m : Nat} {l : List Int} (h : OwU w base (.slice A m c) l) (hm : m = l.length) : WRD w base A m := by
  subst hm
  have hr : RdU w A l := by obtain ⟨A', c', e, _, hr⟩ := h.shape; injection e with e; subst e; exact hr
  refine ⟨hr.len, fun hn => ?_⟩
  rcases h.2 with ⟨_, h1⟩ | ⟨g, cap, cur, he, hb, hh, _⟩
  · omega
  · simp only [Value.slice.injEq] at he
    obtain ⟨rfl, _, rfl⟩ := he
    refine ⟨g, rfl, hb, fun q hq => ?_⟩
    obtain ⟨b, o, e, _, h3⟩ := RdU.at_ hr (List.getElem?_eq_getElem hq)
    simp only [Option.some.injEq, Addr.mk.injEq, and_true] at e
    obtain ⟨rfl, rfl⟩ := e
    rw [Nat.zero_add] at h3
    exact ⟨⟨_, h3⟩, by simp [World.frozen?, hh]⟩
theorem OwL.spn {w : World} {base : Nat} {A : Option Addr} {n c : Nat} {l : List SpanB} (h : OwL w base (.slice A n c) l) : SPN w base A n := by
  obtain ⟨vs, ho, hN⟩ := h
  have hr : RdS w A vs ∧ n = vs.length := by
    obtain ⟨A', c', e, _, hr⟩ := ho.shape
    injection e with e1 e2 e3
    subst e1
    exact ⟨hr, e2⟩
  obtain ⟨hr, rfl⟩ := hr
  refine ⟨hr.len, fun hn => ?_⟩
  rcases ho.2 with ⟨_, h1⟩ | ⟨g, cap, cur, he, hb, hh, _⟩
  · omega
  · simp only [Value.slice.injEq] at he
    obtain ⟨rfl, _, rfl⟩ := he
    refine ⟨g, rfl, hb, fun i hi => ?_⟩
    obtain ⟨b, o, e, _, _, _, h2, _, h4, _⟩ := RdS.at_ hr (List.getElem?_eq_getElem hi)
    simp only [Option.some.injEq, Addr.mk.injEq, and_true] at e
    obtain ⟨rfl, rfl⟩ := e
    rw [Nat.zero_add] at h2 h4
    have hx := hN.2 i vs[i] (l[i]'(by rw [← hN.1]; exact hi)) (List.getElem?_eq_getElem hi) (List.getElem?_eq_getElem _)
    exact ⟨⟨⟨_, h2⟩, by simp [World.frozen?, hh]⟩, _, _, _, h4, hx.al.wrd hx.am⟩
structure INV (w1 wr : World) (G : Nat) (S : List (Option Addr × Nat × Nat)) : Prop where
  below : Below w1.heap.size w1 wr
  slot : ∀ j A n c, S[j]? = some (A, n, c) → wr.cell? ⟨G, j, none⟩ = some (.slice A n c) ∧ SPN wr w1.heap.size A n
theorem INV.set {w1 wr : World} {G : Nat} {S : List (Option Addr × Nat × Nat)} (h : INV w1 wr G S) {p : Addr} {k : IntKind} (hb : w1.heap.size ≤ p.block) (hp : Kd wr p k) (x : Int) : INV w1 (wr.setCell p (.int k x)) G S :=
  ⟨h.below.setCell hb _, fun j A n c e => ⟨hp.slice (h.slot j A n c e).1 _, (h.slot j A n c e).2.set hp x⟩⟩

/-! ### The region that copies them -/
theorem OwU.put8_lo {w : World} {base : Nat} {v : Value} {l : List Int} (h : OwU w base v l) {b : Nat} (hb : b < base) (y : SpanV) : OwU (put8 w b y) base v l :=
  (((((((h.set_lo hb _).set_lo hb _).set_lo hb _).set_lo hb _).set_lo hb _).set_lo hb _).set_lo hb _).set_lo hb _
theorem OwN.put8_lo {w : World} {base : Nat} {v : SpanV} {s : SpanB} (h : OwN w base v s) {b : Nat} (hb : b < base) (y : SpanV) : OwN (put8 w b y) base v s :=
  ⟨h.first, h.pages, h.size, h.sw, h.an, h.am, h.ac, h.al.put8_lo hb y, h.mn, h.mm, h.mc, h.ma.put8_lo hb y⟩
theorem OwS.set_lo {w : World} {base : Nat} {v : Value} {l : List SpanV} (h : OwS w base v l) {p : Addr} (hp : p.block < base) (u : Value) : OwS (w.setCell p u) base v l := ownsRow_setCell_below h hp u
theorem OwL.put8_lo {w : World} {base : Nat} {v : Value} {l : List SpanB} (h : OwL w base v l) {b : Nat} (hb : b < base) (y : SpanV) : OwL (put8 w b y) base v l := by
  obtain ⟨vs, h1, h2⟩ := h
  exact ⟨vs, (((((((h1.set_lo hb _).set_lo hb _).set_lo hb _).set_lo hb _).set_lo hb _).set_lo hb _).set_lo hb _).set_lo hb _, h2.1, fun i x s hx hs => (h2.2 i x s hx hs).put8_lo hb y⟩
theorem below_put8 {B : Nat} {w w1 : World} (h : Below B w w1) {b : Nat} (hb : B ≤ b) (y : SpanV) : Below B w (put8 w1 b y) :=
  (((((((h.setCell hb _).setCell hb _).setCell hb _).setCell hb _).setCell hb _).setCell hb _).setCell hb _).setCell hb _
theorem VarS.put8_ne {w : World} {b c : Nat} {x y : SpanV} (h : VarS w c x) (ne : b ≠ c) : VarS (put8 w b y) c x :=
  (((((((h.set_ne ne _).set_ne ne _).set_ne ne _).set_ne ne _).set_ne ne _).set_ne ne _).set_ne ne _).set_ne ne _
def CutO (w : World) (v : SpanV) (l : List SpanB) (s : SpanB) (t7 t8 : Value) (wx : World) : Prop := ∃ A c us b x, t7 = .slice A l.length c ∧ t8 = .pointer (some ⟨b, 0, none⟩) ∧ RdL wx A us l ∧ VarS wx b x ∧ RdN wx x s ∧ VarS wx w.heap.size v ∧ Below w.heap.size w wx
theorem cutO_al {w w5 : World} {v x : SpanV} {l : List SpanB} {s : SpanB} {A : Option Addr} {c base : Nat} {us : List SpanV} (hl : RdL w5 A us l) (hx : OwN w5 base x s) (hw : WfS s) (hv : VarS w5 w.heap.size v) (hb : Below w.heap.size w w5) :
    CutO w v l s (.slice A l.length c) (.pointer (some ⟨w5.heap.size, 0, none⟩)) (w5.alloc (.cells #[.int .i64 x.first, .int .i64 x.pages, .int .i64 x.size, .int .i64 x.al.n, .slice x.al.A x.al.m x.al.c, .int .i64 x.ma.n, .slice x.ma.A x.ma.m x.ma.c, .bool x.sw] 26)) :=
  ⟨A, c, us, _, x, rfl, rfl, hl.below (balloc (Below.refl _ _) _), VarS.made w5 x _ rfl, (hx.rd hw).below (balloc (Below.refl _ _) _), hv.al _, balloc hb _⟩
/-- The variable was made between the calls. -/
theorem cutO_mid {w w2 w5 : World} {v x : SpanV} {l : List SpanB} {s : SpanB} {A : Option Addr} {c : Nat} {us : List SpanV} (hl : RdL w2 A us l) (h2 : Below w2.heap.size w2 w5) (hz : VarS w5 w2.heap.size zeroV) (hx : OwN w5 (w2.heap.size + 1) x s) (hw : WfS s) (hv : VarS w5 w.heap.size v) (hb : Below w.heap.size w w5) (hlt : w.heap.size < w2.heap.size) :
    CutO w v l s (.slice A l.length c) (.pointer (some ⟨w2.heap.size, 0, none⟩)) (put8 w5 w2.heap.size x) :=
  ⟨A, c, us, _, x, rfl, rfl, hl.below (below_put8 h2 (Nat.le_refl _) x), hz.put x, (hx.put8_lo (Nat.lt_succ_self _) x).rd hw, hv.put8_ne (by omega), below_put8 hb (by omega) x⟩
/-- The variable was made ahead of the calls. -/
theorem cutO_pre {w w5 : World} {v x : SpanV} {l : List SpanB} {s : SpanB} {A : Option Addr} {c b : Nat} (hl : OwL w5 (b + 1) (.slice A l.length c) l) (hwl : ∀ s ∈ l, WfS s) (hz : VarS w5 b zeroV) (hx : OwN w5 (b + 1) x s) (hw : WfS s) (hv : VarS w5 w.heap.size v) (hb : Below w.heap.size w w5) (hlt : w.heap.size < b) :
    CutO w v l s (.slice A l.length c) (.pointer (some ⟨b, 0, none⟩)) (put8 w5 b x) := by
  obtain ⟨A', c', us, e, _, hr⟩ := (hl.put8_lo (Nat.lt_succ_self _) x).shape hwl
  injection e with e1 e2 e3
  subst e1
  exact ⟨A, c, us, _, x, rfl, rfl, hr, hz.put x, (hx.put8_lo (Nat.lt_succ_self _) x).rd hw, hv.put8_ne (by omega), below_put8 hb (by omega) x⟩

set_option maxRecDepth 100000 in
set_option maxHeartbeats 16000000 in
theorem own8 (A : Option Addr) (c : Nat) (vs : List SpanV) (l : List SpanB) (v : SpanV) (s : SpanB) (f : Int) (w : World) (h : RdL w A vs l) (hv : RdN w v s) (hT : Tab w) (hz : smallL l) (hzs : smallS s) :
    Calls Tryd.prog 8 #[.slice A l.length c, v.v, .int .i64 f] w (Ret (.bool true) w) := by
  have hl := h.len
  have C17 : Hid (∀ W, Below w.heap.size w W → Calls Tryd.prog 17 #[] W (Ret (.bool true) W)) := fun W hW => lives17 W (hT.below hW)
  have C25 : Hid (∀ W, Below w.heap.size w W → Calls Tryd.prog 25 #[.slice A l.length c] W (RetL l W)) := fun W hW => copy25 A c vs l W (h.below hW) hz
  have C31 : Hid (∀ W, Below w.heap.size w W → Calls Tryd.prog 31 #[v.v] W (RetN s W)) := fun W hW => one31 v s W (hv.below hW) hzs
  have C26 : Hid (∀ W, Below w.heap.size w W → Calls Tryd.prog 26 #[.slice A l.length c, v.v] W (RetLE (addL l s) (addE l s) W)) := fun W hW => add26 A c vs l v s W (h.below hW) (hv.below hW)
  have C28 : Hid (∀ W, Below w.heap.size w W → Calls Tryd.prog 28 #[.slice A l.length c, .int .i64 f] W (RetLE (dropL l f) (dropE l f) W)) := fun W hW => drop28 A c vs l f W (h.below hW)
  have C18 : Hid (∀ W x, Below w.heap.size w W → RdN W x s → Calls Tryd.prog 18 #[v.v, x.v] W (Ret (.bool true) W)) := fun W x hW hx => by
    have := same18 v x s s W (hv.below hW) hx
    rwa [show sameS s s = true from sameS_iff.2 rfl] at this
  have HWL := Lib.hid h.wf
  have HWS := Lib.hid hv.wf
  have HL := Lib.hid h
  have HB0 := Lib.hid (balloc (Below.refl w.heap.size w) (.cells #[.int .i64 v.first, .int .i64 v.pages, .int .i64 v.size, .int .i64 v.al.n, .slice v.al.A v.al.m v.al.c, .int .i64 v.ma.n, .slice v.ma.A v.ma.m v.ma.c, .bool v.sw] 26))
  have HV0 := Lib.hid (VarS.made w v w.heap.size rfl)
  generalize addL l s = la at *
  generalize addE l s = ea at *
  generalize dropL l f = ld at *
  generalize dropE l f = ed at *
  obtain ⟨vf, vp, vz, ⟨n, A1, m1, c1⟩, ⟨n', B1, m2, d1⟩, sw⟩ := v
  unfold SpanV.v at C26 C31 C18 ⊢
  simp only at C26 C31 C18 HV0 HB0 ⊢
  clear h hv hT hz hzs
  go_enter Tryd.func8, Tryd.ntmps8
  go_wp2_with (go_at_call 17; refine (C17.out _ HB0.out).mono ?_)
  rintro e w1 ⟨rfl, hb1⟩
  have HB1 := Lib.hid (bthen HB0.out hb1)
  have HV1 := Lib.hid (HV0.out.below hb1)
  have hlt1 : w.heap.size < w1.heap.size := HV1.out.lt
  clear hb1 C17
  go_upto_region 3 with fail
  obtain ⟨k0, k1, k2, k3, k4, k5, k6, k7⟩ := HV1.out
  simp only at k0 k1 k2 k3 k4 k5 k6 k7
  have HD : Hid (Below w1.heap.size w1 w1.drew) := (Below.refl _ _).drew
  have HDA : Hid (∀ o, Below w1.heap.size w1 (w1.drew.alloc o)) := fun o => balloc (Below.refl _ _).drew o
  go_cut [7, 8] (fun t7 t8 wx => CutO w ⟨vf, vp, vz, ⟨n, A1, m1, c1⟩, ⟨n', B1, m2, d1⟩, sw⟩ l s t7 t8 wx)
  case first =>
    go_region_with (first
      | (go_at_call 25; refine (C25.out _ (bthen HB1.out ?hbb)).mono ?_; (case hbb => first | exact HD.out | exact HDA.out _); rintro e w2 ⟨v2, rfl, hO2, hb2⟩; obtain ⟨A2, c2, us2, rfl, hc2, hr2⟩ := hO2.shape HWL.out; have HB2 := Lib.hid (bthen (by first | exact HD.out | exact HDA.out _) hb2); have HR2 := Lib.hid hr2; have HO2 := Lib.hid hO2; have HBB2 := Lib.hid hb2; have HV2 := Lib.hid (HV1.out.below HB2.out); obtain ⟨j0, j1, j2, j3, j4, j5, j6, j7⟩ := HV2.out; simp only at j0 j1 j2 j3 j4 j5 j6 j7; (try (have HZ2 : Hid (VarS w2 w1.heap.size zeroV) := VarS.below (VarS.made w1.drew zeroV w1.heap.size rfl) hb2; have FZ2 : Hid (FreeS w2 w1.heap.size) := FreeS.below (FreeS.made w1.drew (.int .i64 0) (.int .i64 0) (.int .i64 0) (.int .i64 0) (.slice none 0 0) (.int .i64 0) (.slice none 0 0) (.bool false) w1.heap.size rfl) hb2 (by simp); obtain ⟨y0, y1, y2, y3, y4, y5, y6, y7⟩ := HZ2.out; unfold zeroV at y0 y1 y2 y3 y4 y5 y6 y7; simp only at y0 y1 y2 y3 y4 y5 y6 y7; have fz := FZ2.out; unfold FreeS at fz; have z1 : w1.heap.size < w2.heap.size := (by have := hb2.size; simp at this; omega))); have z2 : w1.heap.size ≤ w2.heap.size := HB2.out.size; have z2' : w.heap.size < w2.heap.size := (by omega); clear hr2 hO2 hb2 hc2 C25)
      | (go_at_call 31; refine (C31.out _ (bthen HB1.out ?hbb)).mono ?_; (case hbb => first | exact HB2.out | exact balloc HB2.out _); rintro e w5 ⟨x, rfl, hx, hb5⟩; have HB5 : Hid (Below w1.heap.size w1 w5) := bthen (by first | exact HB2.out | exact balloc HB2.out _) hb5; have HX5 := Lib.hid hx; have HBB5 := Lib.hid hb5; have HB25 : Hid (Below w2.heap.size w2 w5) := bthen (by first | exact Below.refl _ _ | exact balloc (Below.refl _ _) _) hb5; have HV5 := Lib.hid (HV2.out.below HB25.out); obtain ⟨hcc5, hff5⟩ := bcell hb5; have z5 : w2.heap.size ≤ w5.heap.size := (by have := hb5.size; (try simp at this); omega); clear hx hb5 C31; unfold SpanV.v))
    all_goals
      go_wp2_with fail
      go_meet
      first
        | (with_reducible exact cutO_al (HR2.out.below HB25.out) HX5.out HWS.out HV5.out (bthen HB1.out HB5.out))
        | exact cutO_mid HR2.out HB25.out (VarS.below (VarS.made w2 zeroV w2.heap.size rfl) HBB5.out) (HX5.out.mono (base' := w2.heap.size + 1) (by simp)) HWS.out HV5.out (bthen HB1.out HB5.out) z2'
        | exact cutO_pre ((HO2.out.below HB25.out).mono (base' := w1.heap.size + 1) (by simp)) HWL.out (HZ2.out.below HB25.out) (HX5.out.mono (base' := w1.heap.size + 1) (by omega)) HWS.out HV5.out (bthen HB1.out HB5.out) hlt1
  case rest =>
    obtain ⟨A2, c2, us, b, x, rfl, rfl, hr2, hvx, hx, hv, hb⟩ := hcut
    have HRK := Lib.hid hr2
    have HVX := Lib.hid hvx
    have HX := Lib.hid hx
    have HVC := Lib.hid hv
    have HBC := Lib.hid hb
    clear hr2 hvx hx hv hb HB1 HV1 HD HDA C25 C31 k0 k1 k2 k3 k4 k5 k6 k7 hlt1
    obtain ⟨k0, k1, k2, k3, k4, k5, k6, k7⟩ := HVC.out
    simp only at k0 k1 k2 k3 k4 k5 k6 k7
    go_wp2_with (go_at_call 26; refine (C26.out _ HBC.out).mono ?_)
    rintro e w6 ⟨v6, rfl, hO6, hb6⟩
    have HB6 := Lib.hid hb6
    have HW6 := Lib.hid (bthen HBC.out hb6)
    have HO6 := Lib.hid hO6
    clear hO6 hb6 k0 k1 k2 k3 k4 k5 k6 k7 C26
    go_wp2_with (go_at_call 28; refine (C28.out _ HW6.out).mono ?_)
    rintro e w7 ⟨v7, rfl, hO7, hb7⟩
    obtain ⟨us7, ho7, hN7⟩ := hO7
    obtain ⟨A7, c7, rfl, hc7, hr7⟩ := ho7.shape
    obtain ⟨us6, ho6, hN6⟩ := HO6.out.below hb7
    obtain ⟨A6, c6, rfl, hc6, hr6⟩ := ho6.shape
    have HB7 := Lib.hid (bthen HB6.out hb7)
    have hn6 := hr6.len
    have hn7 := hr7.len
    have hba : Below w7.heap.size w7 (w7.alloc (.cells #[.slice A6 us6.length c6, .slice A7 us7.length c7] 27)) := balloc (Below.refl _ _) _
    have HI : Hid (INV wc (w7.alloc (.cells #[.slice A6 us6.length c6, .slice A7 us7.length c7] 27)) w7.heap.size [(A6, us6.length, c6), (A7, us7.length, c7)]) := by
      refine ⟨bthen HB7.out hba, fun j B n d e => ?_⟩
      match j, e with
      | 0, e => cases e; exact ⟨by go_simp, (OwL.below ⟨us6, ho6, hN6⟩ hba).spn⟩
      | 1, e => cases e; exact ⟨by go_simp, ((OwL.mono ⟨us7, ho7, hN7⟩ HB6.out.size).below hba).spn⟩
      | j + 2, e => simp at e
    have HS : Hid (∀ j, j < 2 → ∃ B n d, [(A6, us6.length, c6), (A7, us7.length, c7)][j]? = some (B, n, d)) := by
      intro j hj
      exact ⟨_, _, _, List.getElem?_eq_getElem (by simpa using hj)⟩
    clear hb7 ho7 hN7 hc7 hr7 ho6 hN6 hc6 hr6 hba HO6 HB6 HW6 C28
    generalize [(A6, us6.length, c6), (A7, us7.length, c7)] = S at *
    go_wp2_with fail
    generalize w7.heap.size = G at *
    go_loopw [39] (fun i wr => ∃ j : Nat, j ≤ 2 ∧ i = .int .i64 j ∧ Hid (INV wc wr G S)) (fun i _ => 2 - (intOf i).toNat)
    case atStart => exact ⟨0, by omega, rfl, HI.out⟩
    case round =>
      obtain ⟨j, hj, rfl, HV⟩ := hrel
      obtain ⟨wo, rfl⟩ : ∃ wo : World, wo = wr := ⟨_, rfl⟩
      clear HI
      by_cases hlt : j < 2
      · obtain ⟨B, n, d, hS⟩ := HS.out j hlt
        have f := (HV.out.slot j B n d hS).1
        have hn := (HV.out.slot j B n d hS).2.1
        have HSj : Hid (S[j]? = some (B, n, d)) := hS
        clear hS
        go_wp2_with fail
        go_loopw [45] (fun i wr => ∃ m : Nat, m ≤ n ∧ i = .int .i64 m ∧ Hid (INV wc wr G S)) (fun i _ => n - (intOf i).toNat)
        case atStart => exact ⟨0, Nat.zero_le _, rfl, HV.out⟩
        case round =>
          obtain ⟨m, hm, rfl, HV'⟩ := hrel
          obtain ⟨wi, rfl⟩ : ∃ wi : World, wi = wr := ⟨_, rfl⟩
          clear HV f
          by_cases hmn : m < n
          · obtain ⟨g, rfl, hg, hcel⟩ := (HV'.out.slot j B n d HSj.out).2.2 (by omega)
            obtain ⟨hk1, B', m', d', hsl, hwr⟩ := hcel m hmn
            have hm63 := hwr.1
            have HN := Lib.hid (HV'.out.set (p := ⟨g, m * 8 + 2, none⟩) hg hk1 99)
            have hsl2 := hk1.slice hsl (.int .i64 99)
            have HSL := Lib.hid hsl2
            obtain ⟨⟨y, hy'⟩, hfz⟩ := hk1
            have HG' := Lib.hid hg
            clear hcel hg hwr hsl HV'
            go_wp2_with fail
            clear hsl2 hy' hfz
            generalize hW : wi.setCell ⟨g, m * 8 + 2, none⟩ (.int .i64 99) = W at *
            clear hW
            go_loopw [59] (fun i wr => ∃ q : Nat, q ≤ m' ∧ i = .int .i64 q ∧ Hid (INV wc wr G S) ∧ Hid (wr.cell? ⟨g, m * 8 + 4, none⟩ = some (.slice B' m' d'))) (fun i _ => m' - (intOf i).toNat)
            case atStart => exact ⟨0, Nat.zero_le _, rfl, HN.out, HSL.out⟩
            case round =>
              obtain ⟨q, hq, rfl, HVq, HSq⟩ := hrel
              obtain ⟨wq, rfl⟩ : ∃ wq : World, wq = wr := ⟨_, rfl⟩
              clear HN HSL
              have hs := HSq.out
              by_cases hqm : q < m'
              · obtain ⟨g2, hg2, _, hcel2⟩ := (HVq.out.slot j _ n d HSj.out).2.2 (by omega)
                cases hg2
                obtain ⟨_, B2, m2', d2, hs2, hw2⟩ := hcel2 m hmn
                rw [hs] at hs2
                cases hs2
                obtain ⟨g', hB', hg', hcw⟩ := hw2.2 (by omega)
                subst hB'
                have hkq := hcw q hqm
                have HNq : Hid (∀ z : Int, INV wc (wq.setCell ⟨g', q, none⟩ (.int .u64 z)) G S) := fun z => HVq.out.set (p := ⟨g', q, none⟩) hg' hkq z
                have HSLq : Hid (∀ z : Int, (wq.setCell ⟨g', q, none⟩ (.int .u64 z)).cell? ⟨g, m * 8 + 4, none⟩ = some (.slice (some ⟨g', 0, none⟩) m' d')) := fun z => hkq.slice hs _
                obtain ⟨⟨y, hy⟩, hfz⟩ := hkq
                clear hcel2 hw2 hcw hg' HVq HSq
                go_wp2_with fail
                go_roundw
                case rel => exact ⟨q + 1, by omega, by go_num, HNq.out _, HSLq.out _⟩
                case measure => simp [intOf]; omega
              · obtain rfl : q = m' := by omega
                go_wp2_with fail
                go_roundw
                case rel => exact ⟨m + 1, by omega, by go_num, HVq.out⟩
                case measure => simp [intOf]; omega
          · have hmn' : m = n := by omega
            subst hmn'
            go_wp2_with fail
            go_roundw
            case rel => exact ⟨j + 1, by omega, by go_num, HV'.out⟩
            case measure => simp [intOf]; omega
      · have hj2 : j = 2 := by omega
        subst hj2
        have CS := Lib.hid (same30 _ _ c c2 _ _ _ _ wo (HL.out.below (bthen HBC.out HV.out.below)) (HRK.out.below HV.out.below))
        rw [decide_eq_true rfl] at CS
        go_wp2_with (go_at_call 30; refine CS.out.mono ?_)
        rintro e w8 ⟨rfl, hb8⟩
        have HB8 := Lib.hid (bthen HV.out.below hb8)
        have HW8 := Lib.hid (bthen HBC.out HB8.out)
        clear hb8 CS
        obtain ⟨k0, k1, k2, k3, k4, k5, k6, k7⟩ := HVC.out.below HB8.out
        obtain ⟨j0, j1, j2, j3, j4, j5, j6, j7⟩ := HVX.out.below HB8.out
        simp only at k0 k1 k2 k3 k4 k5 k6 k7
        have C18 := Lib.hid (C18.out _ x HW8.out (HX.out.below HB8.out))
        unfold SpanV.v at C18
        go_wp2_with (go_at_call 18; refine C18.out.mono ?_)
        rintro e w9 ⟨rfl, hb9⟩
        have HW9 := Lib.hid (bthen HW8.out hb9)
        clear hb9
        go_wp2
        go_ret
        exact ⟨rfl, HW9.out⟩
end Go.Proofs.YtchbbldanmmpjaaDoor
