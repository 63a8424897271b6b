/- Out of the texts of spans: SM SN SO SP SQ SR. -/
import Derived.Test.YtieijfefnedifaaGreatDoorMB3
import Derived.Deep.RegionWith
import Derived.Deep.DeepCutAuto
namespace Go.Proofs.YtieijfefnedifaaGreatDoor
open Go.RowKit
set_option linter.unusedVariables false
set_option linter.unusedSimpArgs false

theorem slot_bound {p z : Int} (h : shapedP p z = true) {k : Int} (h0 : 0 ≤ k) (hk : k < manyP z) : 0 ≤ k * z ∧ k * z ≤ 14 := by
  rcases shapedP_size h with rfl | rfl | rfl | rfl | rfl
  · omega
  · have : manyP 2 = 8 := by decide +kernel
    omega
  · have : manyP 4 = 4 := by decide +kernel
    omega
  · have : manyP 8 = 2 := by decide +kernel
    omega
  · have : manyP 16 = 1 := by decide +kernel
    omega
theorem size_bound {p z : Int} (h : shapedP p z = true) : 0 ≤ z ∧ z ≤ 16 := by
  rcases shapedP_size h with rfl | rfl | rfl | rfl | rfl <;> omega


def zeroS : SpanB := ⟨0, 0, 0, ⟨0, []⟩, ⟨0, []⟩, false⟩
def freshS (f p z : Int) : SpanB := ⟨f, p, z, ⟨manyP z, [0]⟩, ⟨manyP z, [0]⟩, true⟩
def fitS (f p z : Int) : Prop := shapedP p z = true ∧ 0 ≤ f ∧ f ≤ 1024 - p
instance (f p z : Int) : Decidable (fitS f p z) := by unfold fitS; infer_instance
def makeS (f p z : Int) : SpanB := if fitS f p z then freshS f p z else zeroS
def makeSE (f p z : Int) : Int := if fitS f p z then 0 else 2
def RetNE (s : SpanB) (x : Int) (w : World) (e : Ending) (w' : World) : Prop := ∃ v : SpanV, e = .returned (.tuple #[v.v, .int .i64 x]) ∧ OwN w' w.heap.size v s ∧ Below w.heap.size w w'
theorem makeB_many {p z : Int} (h : shapedP p z = true) : makeB (manyP z) = ⟨manyP z, [0]⟩ := by
  have hm := manyP_of h
  have e : ((manyP z + 63) / 64).toNat = 1 := by omega
  simp only [makeB, makeOk, e]
  rw [if_pos (by omega)]
  rfl
theorem okB_zero {n : Int} (h1 : 1 ≤ n) (h8 : n ≤ 8) : okB ⟨n, [0]⟩ = true := by
  unfold okB
  simp only [Bool.and_eq_true, decide_eq_true_eq, List.all_eq_true, List.mem_range, Bool.or_eq_true, Bool.not_eq_true']
  refine ⟨by omega, by omega, by simp; omega, fun i hi => .inr ?_⟩
  have : i < 64 := by simpa using hi
  unfold bitP
  rw [show i / 64 = 0 from by omega]
  simp
theorem right_fresh {f p z : Int} (h : shapedP p z = true) : rightP (freshS f p z) = (decide (0 ≤ f) && decide (f ≤ 1024 - p)) := by
  have hm := manyP_of h
  have ho := okB_zero hm.1 hm.2
  have hb : bothOk (freshS f p z).al (freshS f p z).ma := ⟨ho, ho, rfl⟩
  unfold rightP
  rw [decide_eq_true hb]
  show (shapedP p z && (decide (0 ≤ f) && (decide (f ≤ 1024 - p) && (true && ((manyP z == manyP z) && decide (andL [0] [0] = [0])))))) = _
  rw [h, show andL [0] [0] = [0] from by decide +kernel]
  simp
theorem wf_bit {n : Int} (h1 : 1 ≤ n) (h8 : n ≤ 8) : WfB ⟨n, [0]⟩ := ⟨by simp; omega, by simp; omega, by simp⟩

/-- A variable that holds a span. -/
structure VarS (W : World) (b : Nat) (x : SpanV) : Prop where
  c0 : W.cell? ⟨b, 0, none⟩ = some (.int .i64 x.first)
  c1 : W.cell? ⟨b, 1, none⟩ = some (.int .i64 x.pages)
  c2 : W.cell? ⟨b, 2, none⟩ = some (.int .i64 x.size)
  c3 : W.cell? ⟨b, 3, none⟩ = some (.int .i64 x.al.n)
  c4 : W.cell? ⟨b, 4, none⟩ = some (.slice x.al.A x.al.m x.al.c)
  c5 : W.cell? ⟨b, 5, none⟩ = some (.int .i64 x.ma.n)
  c6 : W.cell? ⟨b, 6, none⟩ = some (.slice x.ma.A x.ma.m x.ma.c)
  c7 : W.cell? ⟨b, 7, none⟩ = some (.bool x.sw)
def FreeS (W : World) (b : Nat) : Prop := ∀ j, j < 8 → W.frozen? ⟨b, j, none⟩ = false
def zeroV : SpanV := ⟨0, 0, 0, ⟨0, none, 0, 0⟩, ⟨0, none, 0, 0⟩, false⟩
theorem VarS.below {w w1 : World} {b : Nat} {x : SpanV} (h : VarS w b x) (hb : Below w.heap.size w w1) : VarS w1 b x :=
  ⟨cell_later hb h.c0, cell_later hb h.c1, cell_later hb h.c2, cell_later hb h.c3, cell_later hb h.c4, cell_later hb h.c5, cell_later hb h.c6, cell_later hb h.c7⟩
theorem VarS.made (W : World) (x : SpanV) (b : Nat) (hb : b = W.heap.size) : VarS (W.alloc (.cells #[.int .i64 x.first, .int .i64 x.pages, .int .i64 x.size, .int .i64 x.al.n, .slice x.al.A x.al.m x.al.c, .int .i64 x.ma.n, .slice x.ma.A x.ma.m x.ma.c, .bool x.sw] 44)) b x := by
  subst hb
  constructor <;> (show _ = _; go_simp)
theorem FreeS.made (W : World) (a0 a1 a2 a3 a4 a5 a6 a7 : Value) (b : Nat) (hb : b = W.heap.size) : FreeS (W.alloc (.cells #[a0, a1, a2, a3, a4, a5, a6, a7] 44)) b := by
  subst hb
  intro j hj
  go_simp
theorem FreeS.below {w w1 : World} {b : Nat} (h : FreeS w b) (hb : Below w.heap.size w w1) (hlt : b < w.heap.size) : FreeS w1 b := fun j hj => (hb.frozen (p := ⟨b, j, none⟩) hlt).trans (h j hj)
theorem VarS.lt {w : World} {b : Nat} {x : SpanV} (h : VarS w b x) : b < w.heap.size := World.block_lt_of_cell? w _ h.c0
theorem VarS.set_ne {w : World} {b : Nat} {x : SpanV} (h : VarS w b x) {p : Addr} (hne : p.block ≠ b) (u : Value) : VarS (w.setCell p u) b x := by
  have hp : ∀ j, p ≠ (⟨b, j, none⟩ : Addr) := fun j e => hne (by rw [e])
  exact ⟨(World.cell?_setCell_other (h := hp 0) ..).trans h.c0, (World.cell?_setCell_other (h := hp 1) ..).trans h.c1, (World.cell?_setCell_other (h := hp 2) ..).trans h.c2, (World.cell?_setCell_other (h := hp 3) ..).trans h.c3,
    (World.cell?_setCell_other (h := hp 4) ..).trans h.c4, (World.cell?_setCell_other (h := hp 5) ..).trans h.c5, (World.cell?_setCell_other (h := hp 6) ..).trans h.c6, (World.cell?_setCell_other (h := hp 7) ..).trans h.c7⟩
theorem OwU.al {w : World} {base : Nat} {v : Value} {l : List Int} (h : OwU w base v l) (o : Obj) : OwU (w.alloc o) base v l := h.below (balloc (Below.refl _ _) o)
theorem VarS.al {w : World} {b : Nat} {x : SpanV} (h : VarS w b x) (o : Obj) : VarS (w.alloc o) b x := h.below (balloc (Below.refl _ _) o)
theorem FreeS.al {w : World} {b : Nat} (h : FreeS w b) (hlt : b < w.heap.size) (o : Obj) : FreeS (w.alloc o) b := h.below (balloc (Below.refl _ _) o) hlt
theorem FreeS.set {w : World} {b : Nat} (h : FreeS w b) (p : Addr) (u : Value) : FreeS (w.setCell p u) b := fun j hj => (World.frozen?_setCell _ _ _ _).trans (h j hj)
/-- Eight cells, one by one. -/
def put8 (w : World) (b : Nat) (x : SpanV) : World := (((((((w.setCell ⟨b, 0, none⟩ (.int .i64 x.first)).setCell ⟨b, 1, none⟩ (.int .i64 x.pages)).setCell ⟨b, 2, none⟩ (.int .i64 x.size)).setCell ⟨b, 3, none⟩ (.int .i64 x.al.n)).setCell ⟨b, 4, none⟩ (.slice x.al.A x.al.m x.al.c)).setCell ⟨b, 5, none⟩ (.int .i64 x.ma.n)).setCell ⟨b, 6, none⟩ (.slice x.ma.A x.ma.m x.ma.c)).setCell ⟨b, 7, none⟩ (.bool x.sw)
theorem VarS.put {w : World} {b : Nat} {y : SpanV} (h : VarS w b y) (x : SpanV) : VarS (put8 w b x) b x := by
  obtain ⟨h0, h1, h2, h3, h4, h5, h6, h7⟩ := h
  unfold put8
  constructor <;> (show _ = _; go_simp)
def CutM (w : World) (B : Nat) (f p z : Int) (A1 : Option Addr) (c1 : Nat) (s : Value) (wx : World) : Prop := ∃ b A2 c2, s = .pointer (some ⟨b, 0, none⟩) ∧ w.heap.size < b ∧ 1 ≤ c2 ∧ VarS wx b ⟨f, p, z, ⟨manyP z, A1, 1, c1⟩, ⟨manyP z, A2, 1, c2⟩, true⟩ ∧
  OwU wx B (.slice A1 1 c1) [0] ∧ OwU wx B (.slice A2 1 c2) [0] ∧ Below w.heap.size w wx ∧ VarS wx w.heap.size zeroV ∧ FreeS wx w.heap.size
theorem OwU.set_ne {w : World} {base : Nat} {v : Value} {l : List Int} (h : OwU w base v l) {p : Addr} (hp : ∀ k, v.ownBlock = some k → k ≠ p.block) (u : Value) : OwU (w.setCell p u) base v l := by
  refine World.ownsRow.kept h (row := some p.block) ⟨rfl, rfl, rfl, (by simp), fun k _ hk => Below.heap_setCell _ _ _ k (fun e => hk (by rw [e]))⟩ ?_
  cases hv : v.ownBlock with
  | none => exact .inl rfl
  | some k => exact .inr (fun e => hp k hv (by cases e; rfl))
theorem cutM_al {w w5 : World} {B : Nat} {f p z : Int} {A1 A2 : Option Addr} {c1 c2 : Nat} (z6 : w.heap.size < w5.heap.size) (hc : 1 ≤ c2) (h1 : OwU w5 B (.slice A1 1 c1) [0]) (h2 : OwU w5 B (.slice A2 1 c2) [0])
    (hb : Below w.heap.size w w5) (hz : VarS w5 w.heap.size zeroV) (hf : FreeS w5 w.heap.size) : CutM w B f p z A1 c1 (.pointer (some ⟨w5.heap.size, 0, none⟩))
      (w5.alloc (.cells #[.int .i64 f, .int .i64 p, .int .i64 z, .int .i64 (manyP z), .slice A1 1 c1, .int .i64 (manyP z), .slice A2 1 c2, .bool true] 44)) :=
  ⟨_, A2, c2, rfl, z6, hc, VarS.made w5 ⟨f, p, z, ⟨manyP z, A1, 1, c1⟩, ⟨manyP z, A2, 1, c2⟩, true⟩ _ rfl, h1.al _, h2.al _, balloc hb _, hz.al _, hf.al z6 _⟩
theorem cutM_put {w w5 : World} {B b : Nat} {f p z : Int} {A1 A2 : Option Addr} {c1 c2 : Nat} (z6 : w.heap.size < b) (hv : VarS w5 b zeroV) (hc : 1 ≤ c2) (h1 : OwU w5 B (.slice A1 1 c1) [0]) (n1 : ∀ k, (Value.slice A1 1 c1).ownBlock = some k → k ≠ b)
    (h2 : OwU w5 B (.slice A2 1 c2) [0]) (n2 : ∀ k, (Value.slice A2 1 c2).ownBlock = some k → k ≠ b)
    (hb : Below w.heap.size w w5) (hz : VarS w5 w.heap.size zeroV) (hf : FreeS w5 w.heap.size) : CutM w B f p z A1 c1 (.pointer (some ⟨b, 0, none⟩))
      ((((((((w5.setCell ⟨b, 0, none⟩ (.int .i64 f)).setCell ⟨b, 1, none⟩ (.int .i64 p)).setCell ⟨b, 2, none⟩ (.int .i64 z)).setCell ⟨b, 3, none⟩ (.int .i64 (manyP z))).setCell ⟨b, 4, none⟩ (.slice A1 1 c1)).setCell ⟨b, 5, none⟩ (.int .i64 (manyP z))).setCell ⟨b, 6, none⟩ (.slice A2 1 c2)).setCell ⟨b, 7, none⟩ (.bool true)) := by
  have e : w.heap.size ≤ b := Nat.le_of_lt z6
  have ne : b ≠ w.heap.size := by omega
  refine ⟨b, A2, c2, rfl, z6, hc, VarS.put hv ⟨f, p, z, ⟨manyP z, A1, 1, c1⟩, ⟨manyP z, A2, 1, c2⟩, true⟩, ?_, ?_, ?_, ?_, ?_⟩
  · exact (((((((h1.set_ne n1 _).set_ne n1 _).set_ne n1 _).set_ne n1 _).set_ne n1 _).set_ne n1 _).set_ne n1 _).set_ne n1 _
  · exact (((((((h2.set_ne n2 _).set_ne n2 _).set_ne n2 _).set_ne n2 _).set_ne n2 _).set_ne n2 _).set_ne n2 _).set_ne n2 _
  · exact (((((((hb.setCell e _).setCell e _).setCell e _).setCell e _).setCell e _).setCell e _).setCell e _).setCell e _
  · exact (((((((hz.set_ne ne _).set_ne ne _).set_ne ne _).set_ne ne _).set_ne ne _).set_ne ne _).set_ne ne _).set_ne ne _
  · exact (((((((hf.set _ _).set _ _).set _ _).set _ _).set _ _).set _ _).set _ _).set _ _

set_option maxRecDepth 100000 in
set_option maxHeartbeats 8000000 in
theorem make11 (f p z : Int) (w : World) (hf : -9223372036854775808 ≤ f ∧ f ≤ 9223372036854775807) : Calls Tryz.prog 68 #[.int .i64 f, .int .i64 p, .int .i64 z] w (RetNE (makeS f p z) (makeSE f p z) w) := by
  have HB0 : Hid (Below w.heap.size w (w.alloc (.cells #[.int .i64 0, .int .i64 0, .int .i64 0, .int .i64 0, .slice none 0 0, .int .i64 0, .slice none 0 0, .bool false] 44))) := balloc (Below.refl _ _) _
  by_cases hsh : shapedP p z = true
  · have hm := manyP_of hsh
    have HMB := Lib.hid (makeB_many hsh)
    have HME : Hid (makeE (manyP z) = 0) := by show _ = _; unfold makeE; rw [if_pos (show makeOk _ from ⟨by omega, by omega⟩)]
    have HWF := Lib.hid (wf_bit hm.1 hm.2)
    have hpp := shapedP_pages hsh
    have hzz := size_bound hsh
    have HSH := Lib.hid hsh
    clear hsh hm
    go_enter Tryz.func68, Tryz.ntmps68
    go_wp2_with (go_at_call 99; refine (shaped34 _ _ _).mono ?_)
    rintro e w1 ⟨rfl, hb1⟩
    rw [HSH.out]
    obtain ⟨hc1, hf1, hs1⟩ := bcellB (B := w.heap.size + 1) hb1 (by simp)
    have HB1 := Lib.hid (bthen HB0.out hb1)
    have HA1 := Lib.hid hb1
    clear hb1
    go_wp2_with (go_at_call 100; refine (slots36 _ _).mono ?_)
    rintro e w2 ⟨rfl, hb2⟩
    obtain ⟨hc2, hf2, hs2⟩ := bcellB hb2 hs1
    have HB2 := Lib.hid (bthen HB1.out hb2)
    have HA2 := Lib.hid (bthen HA1.out hb2)
    clear hb2 HA1
    go_wp2_with (go_at_call 58; refine (make35 _ _).mono ?_)
    rw [HMB.out, HME.out]
    rintro e w3 ⟨⟨n1, A1, m1, c1⟩, rfl, hn1, hm1, hcap1, ho1, hb3⟩
    simp only at hn1 hm1 hcap1 ho1
    obtain ⟨hc3, hf3, hs3⟩ := bcellB hb3 hs2
    have z0 : w.heap.size < w3.heap.size := hs3
    have HB3 := Lib.hid (bthen HB2.out hb3)
    have HA3 := Lib.hid (bthen HA2.out hb3)
    clear HA2
    subst hn1
    have hm1' : m1 = 1 := hm1
    subst hm1'
    have HO1 : Hid (OwU w3 (w.heap.size + 1) (.slice A1 1 c1) [0]) := ho1.mono hs2
    have HC1 := Lib.hid hcap1
    clear hb3 ho1 hcap1 hm1
    unfold BitV.v
    simp only
    go_upto_region 4 with fail
    have HB4 := Lib.hid (balloc HB3.out (.cells #[.int .i64 (manyP z), .slice A1 1 c1] 26))
    have HO4 := Lib.hid (HO1.out.below (balloc (Below.refl _ _) (.cells #[.int .i64 (manyP z), .slice A1 1 c1] 26)))
    have CO : Hid (∀ W, Below (w3.alloc (.cells #[.int .i64 (manyP z), .slice A1 1 c1] 26)).heap.size (w3.alloc (.cells #[.int .i64 (manyP z), .slice A1 1 c1] 26)) W → Calls Tryz.prog 88 #[.agg #[.int .i64 (manyP z), .slice A1 1 c1]] W (RetB ⟨manyP z, [0]⟩ W)) :=
      fun W hW => own37 ⟨manyP z, A1, 1, c1⟩ ⟨manyP z, [0]⟩ W ⟨rfl, rfl, HC1.out, HWF.out.lo, HWF.out.hi, HWF.out.words, (HO4.out.rd rfl).below hW⟩ (by simp)
    have HG1 : Hid (∀ k, (Value.slice A1 1 c1).ownBlock = some k → k < w3.heap.size) := fun k hk => (HO1.out.lt k hk).2
    have HZ4 := Lib.hid (VarS.al ((VarS.made w zeroV w.heap.size rfl).below HA3.out) (.cells #[.int .i64 (manyP z), .slice A1 1 c1] 26))
    have HF4 := Lib.hid (FreeS.al ((FreeS.made w (.int .i64 0) (.int .i64 0) (.int .i64 0) (.int .i64 0) (.slice none 0 0) (.int .i64 0) (.slice none 0 0) (.bool false) w.heap.size rfl).below HA3.out (by simp)) z0 (.cells #[.int .i64 (manyP z), .slice A1 1 c1] 26))
    go_cut [10] (fun s wx => CutM w (w.heap.size + 1) f p z A1 c1 s wx)
    case first =>
      go_region_with (go_at_call 88; refine (CO.out _ ?hbb).mono ?_; (case hbb => first | exact (Below.refl _ _).drew | exact (balloc (Below.refl _ _).drew _) | exact (balloc (Below.refl _ _) _).drew); rintro e w5 ⟨⟨n2, A2, m2, c2⟩, rfl, hn2, hm2, hcap2, ho2, hb5⟩; obtain ⟨hc5, hf5⟩ := bcell hb5; have z5 : w3.heap.size < w5.heap.size := (by have := hb5.size; simp at this; omega); have z6 : w.heap.size < w5.heap.size := (by omega); have hm2' : m2 = 1 := hm2; have hn2' : n2 = manyP z := hn2; subst hm2'; subst hn2'; have HB5 := Lib.hid (bthen (bthen HB4.out (by first | exact (Below.refl _ _).drew | exact (balloc (Below.refl _ _).drew _) | exact (balloc (Below.refl _ _) _).drew)) hb5); have HO45 := Lib.hid (OwU.below (OwU.below HO4.out (by first | exact (Below.refl _ _).drew | exact (balloc (Below.refl _ _).drew _) | exact (balloc (Below.refl _ _) _).drew)) hb5); have HO5 := Lib.hid ho2; have HC5 := Lib.hid hcap2; have HBB5 := Lib.hid hb5; have HO5m := Lib.hid (ho2.mono (base' := w.heap.size + 1) (by simp; omega)); have HZ5 := Lib.hid (VarS.below (VarS.below HZ4.out (by first | exact (Below.refl _ _).drew | exact (balloc (Below.refl _ _).drew _) | exact (balloc (Below.refl _ _) _).drew)) hb5); have HF5 := Lib.hid (FreeS.below (FreeS.below HF4.out (by first | exact (Below.refl _ _).drew | exact (balloc (Below.refl _ _).drew _) | exact (balloc (Below.refl _ _) _).drew) (by simp; omega)) hb5 (by simp; omega)); clear hb5 ho2 hn2 hm2 hcap2; unfold BitV.v; simp only)
      all_goals
        go_wp2_with fail
        go_meet
        first
          | (with_reducible exact cutM_al z6 HC5.out HO45.out HO5m.out HB5.out HZ5.out HF5.out)
          | exact cutM_put (by omega) (by first | exact VarS.below (VarS.made ((w3.alloc (.cells #[.int .i64 (manyP z), .slice A1 1 c1] 26)).drew) zeroV (w3.heap.size + 1) (by simp)) HBB5.out | exact VarS.below (VarS.below (VarS.made (w3.alloc (.cells #[.int .i64 (manyP z), .slice A1 1 c1] 26)) zeroV (w3.heap.size + 1) (by simp)) (Below.refl _ _).drew) HBB5.out) HC5.out HO45.out (fun k hk => by have := HG1.out k hk; omega) HO5m.out (fun k hk => by have h := (HO5.out.lt k hk).1; simp at h; omega) HB5.out HZ5.out HF5.out
    case rest =>
      obtain ⟨b, A2, c2, rfl, hb0, hc2', hv, ho1, ho2, hbx, hz, hfr⟩ := hcut
      have CR : Hid (Calls Tryz.prog 97 #[(SpanV.v ⟨f, p, z, ⟨manyP z, A1, 1, c1⟩, ⟨manyP z, A2, 1, c2⟩, true⟩)] wc (Ret (.bool (rightP (freshS f p z))) wc)) :=
        right38 _ _ wc ⟨rfl, rfl, rfl, rfl, ⟨rfl, rfl, HC1.out, HWF.out.lo, HWF.out.hi, HWF.out.words, ho1.rd rfl⟩, ⟨rfl, rfl, hc2', HWF.out.lo, HWF.out.hi, HWF.out.words, ho2.rd rfl⟩, hf, by show _ ∧ _; simp only [freshS]; omega, by show _ ∧ _; simp only [freshS]; omega⟩
      rw [right_fresh HSH.out] at CR
      unfold SpanV.v at CR
      simp only at CR
      have hbl := hv.lt
      have hzl := hz.lt
      obtain ⟨k0, k1, k2, k3, k4, k5, k6, k7⟩ := hv
      obtain ⟨y0, y1, y2, y3, y4, y5, y6, y7⟩ := hz
      unfold zeroV at y0 y1 y2 y3 y4 y5 y6 y7
      simp only at k0 k1 k2 k3 k4 k5 k6 k7 y0 y1 y2 y3 y4 y5 y6 y7
      have fr : ∀ j, j < 8 → wc.frozen? ⟨w.heap.size, j, none⟩ = false := hfr
      have HO1' := Lib.hid ho1
      have HO2' := Lib.hid ho2
      have HBX := Lib.hid hbx
      have HC2 := Lib.hid hc2'
      clear ho1 ho2 hbx hc2' hfr
      by_cases hfit : 0 ≤ f ∧ f ≤ 1024 - p
      · have E1 : Hid (makeS f p z = freshS f p z) := by show _ = _; unfold makeS; rw [if_pos ⟨HSH.out, hfit.1, hfit.2⟩]
        have E2 : Hid (makeSE f p z = 0) := by show _ = _; unfold makeSE; rw [if_pos ⟨HSH.out, hfit.1, hfit.2⟩]
        rw [decide_eq_true hfit.1, decide_eq_true hfit.2] at CR
        clear hfit
        go_wp2_with (go_at_call 97; refine CR.out.mono ?_)
        rintro e w6 ⟨rfl, hb6⟩
        obtain ⟨hc6, hf6⟩ := bcell hb6
        have HB6 := Lib.hid (bthen HBX.out hb6)
        have HO1s := Lib.hid (HO1'.out.below hb6)
        have HO2s := Lib.hid (HO2'.out.below hb6)
        clear hb6
        go_wp2
        refine bodyPost_ret (v := .tuple #[.agg #[.int .i64 f, .int .i64 p, .int .i64 z, .int .i64 (manyP z), .slice A1 1 c1, .int .i64 (manyP z), .slice A2 1 c2, .bool true], .int .i64 0]) (by simp [results, Tryz.results68, go_sem, hc6, y0, y1, y2, y3, y4, y5, y6, y7, hzl]) rfl ?_
        rw [E1.out, E2.out]
        refine ⟨⟨f, p, z, ⟨manyP z, A1, 1, c1⟩, ⟨manyP z, A2, 1, c2⟩, true⟩, rfl, ⟨rfl, rfl, rfl, rfl, rfl, rfl, HC1.out, ?_, rfl, rfl, HC2.out, ?_⟩, ?_⟩
        · refine OwU.mono (base := w.heap.size + 1) ?_ (by omega)
          repeat (refine OwU.set_lo ?_ (by simp) _)
          exact HO1s.out
        · refine OwU.mono (base := w.heap.size + 1) ?_ (by omega)
          repeat (refine OwU.set_lo ?_ (by simp) _)
          exact HO2s.out
        · repeat (refine Below.setCell ?_ (by simp) _)
          exact HB6.out
      · have E1 : Hid (makeS f p z = zeroS) := by show _ = _; unfold makeS; rw [if_neg (fun h => hfit ⟨h.2.1, h.2.2⟩)]
        have E2 : Hid (makeSE f p z = 2) := by show _ = _; unfold makeSE; rw [if_neg (fun h => hfit ⟨h.2.1, h.2.2⟩)]
        rw [show (decide (0 ≤ f) && decide (f ≤ 1024 - p)) = false from by rw [← Bool.decide_and]; exact decide_eq_false hfit] at CR
        clear hfit
        go_wp2_with (go_at_call 97; refine CR.out.mono ?_)
        rintro e w6 ⟨rfl, hb6⟩
        obtain ⟨hc6, hf6⟩ := bcell hb6
        have HB6 := Lib.hid (bthen HBX.out hb6)
        clear hb6
        go_wp2
        refine bodyPost_ret (v := .tuple #[.agg #[.int .i64 0, .int .i64 0, .int .i64 0, .int .i64 0, .slice none 0 0, .int .i64 0, .slice none 0 0, .bool false], .int .i64 2]) (by simp [results, Tryz.results68, go_sem, hc6, y0, y1, y2, y3, y4, y5, y6, y7, hzl]) rfl ?_
        rw [E1.out, E2.out]
        refine ⟨⟨0, 0, 0, ⟨0, none, 0, 0⟩, ⟨0, none, 0, 0⟩, false⟩, rfl, ⟨rfl, rfl, rfl, rfl, rfl, rfl, Nat.le_refl _, OwU.nil_ _ _, rfl, rfl, Nat.le_refl _, OwU.nil_ _ _⟩, ?_⟩
        repeat (refine Below.setCell ?_ (by simp) _)
        exact HB6.out
  · have hsh : shapedP p z = false := by simpa using hsh
    have E1 : Hid (makeS f p z = zeroS) := by show _ = _; unfold makeS; rw [if_neg (fun h => by have h := h.1; rw [hsh] at h; cases h)]
    have E2 : Hid (makeSE f p z = 2) := by show _ = _; unfold makeSE; rw [if_neg (fun h => by have h := h.1; rw [hsh] at h; cases h)]
    have HSH := Lib.hid hsh
    clear hsh
    go_enter Tryz.func68, Tryz.ntmps68
    go_wp2_with (go_at_call 99; refine (shaped34 _ _ _).mono ?_)
    rintro e w1 ⟨rfl, hb1⟩
    rw [HSH.out]
    obtain ⟨hc1, hf1, hs1⟩ := bcellB (B := w.heap.size + 1) hb1 (by simp)
    have HB1 := Lib.hid (bthen HB0.out hb1)
    clear hb1
    go_wp2
    refine bodyPost_ret (v := .tuple #[.agg #[.int .i64 0, .int .i64 0, .int .i64 0, .int .i64 0, .slice none 0 0, .int .i64 0, .slice none 0 0, .bool false], .int .i64 2]) (by simp [results, Tryz.results68, go_sem, hc1]) rfl ?_
    rw [E1.out, E2.out]
    refine ⟨⟨0, 0, 0, ⟨0, none, 0, 0⟩, ⟨0, none, 0, 0⟩, false⟩, rfl, ⟨rfl, rfl, rfl, rfl, rfl, rfl, Nat.le_refl _, OwU.nil_ _ _, rfl, rfl, Nat.le_refl _, OwU.nil_ _ _⟩, ?_⟩
    repeat (refine Below.setCell ?_ (by simp) _)
    exact HB1.out


def nR (z : Int) : Int := if 0 < z ∧ z ≤ 16 then manyP z else 1
theorem nR_bound (z : Int) : 1 ≤ nR z ∧ nR z ≤ 16 := by
  unfold nR
  by_cases h : 0 < z ∧ z ≤ 16
  · rw [if_pos h]
    have hz : z = 1 ∨ z = 2 ∨ z = 3 ∨ z = 4 ∨ z = 5 ∨ z = 6 ∨ z = 7 ∨ z = 8 ∨ z = 9 ∨ z = 10 ∨ z = 11 ∨ z = 12 ∨ z = 13 ∨ z = 14 ∨ z = 15 ∨ z = 16 := by omega
    rcases hz with rfl | rfl | rfl | rfl | rfl | rfl | rfl | rfl | rfl | rfl | rfl | rfl | rfl | rfl | rfl | rfl <;> decide +kernel
  · rw [if_neg h]; omega
theorem nR_many {p z : Int} (h : shapedP p z = true) : nR z = manyP z := by
  rcases shapedP_size h with rfl | rfl | rfl | rfl | rfl <;> decide +kernel
def candS (f p z : Int) : SpanB := ⟨f, p, z, ⟨nR z, [0]⟩, ⟨nR z, [0]⟩, true⟩
theorem makeB_nR (z : Int) : makeB (nR z) = ⟨nR z, [0]⟩ := by
  have hm := nR_bound z
  have e : ((nR z + 63) / 64).toNat = 1 := by omega
  simp only [makeB, makeOk, e]
  rw [if_pos (by omega)]
  rfl
theorem right_cand (f p z : Int) : rightP (candS f p z) = decide (fitS f p z) := by
  by_cases h : shapedP p z = true
  · have e : candS f p z = freshS f p z := by unfold candS freshS; rw [nR_many h]
    rw [e, right_fresh h]
    unfold fitS
    rw [← Bool.decide_and]
    simp [h]
  · have h' : shapedP p z = false := by simpa using h
    rw [decide_eq_false (fun hf : fitS f p z => h hf.1)]
    show (shapedP p z && _) = false
    rw [h']
    rfl
theorem wf_bit16 {n : Int} (h1 : 1 ≤ n) (h8 : n ≤ 16) : WfB ⟨n, [0]⟩ := ⟨by simp; omega, by simp; omega, by simp⟩


def sameS (a b : SpanB) : Bool := (a.first == b.first) && ((a.pages == b.pages) && ((a.size == b.size) && (sameB a.al b.al && (sameB a.ma b.ma && (a.sw == b.sw)))))
theorem sameB_iff {a b : BitB} : sameB a b = true ↔ a = b := by unfold sameB; exact decide_eq_true_iff
theorem sameS_iff {a b : SpanB} : sameS a b = true ↔ a = b := by
  unfold sameS
  simp only [Bool.and_eq_true, beq_iff_eq, sameB_iff]
  cases a; cases b
  simp
set_option maxRecDepth 100000 in
set_option maxHeartbeats 8000000 in
theorem same18 (v u : SpanV) (a b : SpanB) (w : World) (ha : RdN w v a) (hb : RdN w u b) : Calls Tryz.prog 54 #[v.v, u.v] w (Ret (.bool (sameS a b)) w) := by
  have CA : Hid (∀ W, Below w.heap.size w W → Calls Tryz.prog 53 #[v.al.v, u.al.v] W (Ret (.bool (sameB a.al b.al)) W)) := fun W hW => same45 v.al u.al a.al b.al W (ha.al.below hW) (hb.al.below hW)
  have CM : Hid (∀ W, Below w.heap.size w W → Calls Tryz.prog 53 #[v.ma.v, u.ma.v] W (Ret (.bool (sameB a.ma b.ma)) W)) := fun W hW => same45 v.ma u.ma a.ma b.ma W (ha.ma.below hW) (hb.ma.below hW)
  obtain ⟨f, p, z, ⟨n, A, m, ca⟩, ⟨n', B, m', cb⟩, sw⟩ := v
  obtain ⟨rfl, rfl, rfl, rfl, _, _, _, _, _⟩ := ha
  obtain ⟨f2, p2, z2, ⟨n2, A2, m2, ca2⟩, ⟨n2', B2, m2', cb2⟩, sw2⟩ := u
  obtain ⟨rfl, rfl, rfl, rfl, _, _, _, _, _⟩ := hb
  unfold SpanV.v
  unfold BitV.v at CA CM
  simp only at CA CM ⊢
  have HB0 : Hid (Below w.heap.size w ((w.alloc (.cells #[.int .i64 a.first, .int .i64 a.pages, .int .i64 a.size, .int .i64 n, .slice A m ca, .int .i64 n', .slice B m' cb, .bool a.sw] 44)).alloc (.cells #[.int .i64 b.first, .int .i64 b.pages, .int .i64 b.size, .int .i64 n2, .slice A2 m2 ca2, .int .i64 n2', .slice B2 m2' cb2, .bool b.sw] 44))) := balloc (balloc (Below.refl _ _) _) _
  have E : Hid (sameS a b = ((a.first == b.first) && ((a.pages == b.pages) && ((a.size == b.size) && (sameB a.al b.al && (sameB a.ma b.ma && (a.sw == b.sw))))))) := Eq.refl (sameS a b)
  cases h1 : a.first == b.first
  · rw [h1, Bool.false_and] at E
    go_enter Tryz.func54, Tryz.ntmps54
    go_wp2
    go_ret
    rw [E.out]
    exact ⟨rfl, HB0.out⟩
  · cases h2 : a.pages == b.pages
    · rw [h1, h2, Bool.true_and, Bool.false_and] at E
      go_enter Tryz.func54, Tryz.ntmps54
      go_wp2
      go_ret
      rw [E.out]
      exact ⟨rfl, HB0.out⟩
    · cases h3 : a.size == b.size
      · rw [h1, h2, h3, Bool.true_and, Bool.true_and, Bool.false_and] at E
        go_enter Tryz.func54, Tryz.ntmps54
        go_wp2
        go_ret
        rw [E.out]
        exact ⟨rfl, HB0.out⟩
      · rw [h1, h2, h3, Bool.true_and, Bool.true_and, Bool.true_and] at E
        go_enter Tryz.func54, Tryz.ntmps54
        go_wp2_with fail
        refine (CA.out _ HB0.out).mono ?_
        rintro e w1 ⟨rfl, hb1⟩
        obtain ⟨hc1, hf1, hs1⟩ := bcellB (B := w.heap.size + 2) hb1 (by simp)
        have HB1 := Lib.hid (bthen HB0.out hb1)
        clear hb1 CA
        cases h4 : sameB a.al b.al
        · rw [h4, Bool.false_and] at E
          clear h4
          go_wp2
          go_ret
          rw [E.out]
          exact ⟨rfl, HB1.out⟩
        · rw [h4, Bool.true_and] at E
          clear h4
          go_wp2_with fail
          refine (CM.out _ HB1.out).mono ?_
          rintro e w2 ⟨rfl, hb2⟩
          obtain ⟨hc2, hf2, hs2⟩ := bcellB hb2 hs1
          have HB2 := Lib.hid (bthen HB1.out hb2)
          clear hb2 CM
          cases h5 : sameB a.ma b.ma
          · rw [h5, Bool.false_and] at E
            clear h5
            go_wp2
            go_ret
            rw [E.out]
            exact ⟨rfl, HB2.out⟩
          · rw [h5, Bool.true_and] at E
            clear h5
            go_wp2
            go_ret
            rw [E.out]
            exact ⟨rfl, HB2.out⟩


def putW (x : Int) (j : Nat) (t : Bool) : Int := match t with | true => Go.bits .or .u64 x (IntKind.u64.wrap (2 ^ j)) | false => Go.bits .andNot .u64 x (IntKind.u64.wrap (2 ^ j))
def RetP (l : List Int) (base g m c : Nat) (w : World) (e : Ending) (w' : World) : Prop := e = .returned (.tuple #[]) ∧ OwU w' base (.slice (some ⟨g, 0, none⟩) m c) l ∧ w.grownBy w' (some g)
set_option maxRecDepth 100000 in
set_option maxHeartbeats 8000000 in
theorem put68 (b base g m c i : Nat) (l : List Int) (x : Int) (t : Bool) (w : World) (hc : w.cell? ⟨b, 1, none⟩ = some (.slice (some ⟨g, 0, none⟩) m c)) (ho : OwU w base (.slice (some ⟨g, 0, none⟩) m c) l) (hm : l.length = m)
    (hx : l[i / 64]? = some x) (hi : i ≤ 1000000) : Calls Tryz.prog 92 #[.pointer (some ⟨b, 0, none⟩), .int .i64 i, .bool t] w (RetP (l.set (i / 64) (putW x (i % 64) t)) base g m c w) := by
  have HO := Lib.hid ho
  have hlt : i / 64 < m := by rw [← hm]; exact (List.getElem?_eq_some_iff.1 hx).1
  obtain ⟨b1, o1, e1, _, cx⟩ := (ho.rd hm).at_ hx
  cases e1
  simp only [Nat.zero_add] at cx
  have hl := (ho.rd hm).len
  rw [hm] at hl
  have HX := Lib.hid hx
  have HM := Lib.hid hm
  have q3 : ((i / 64 : Nat) : Int) < (m : Int) := by omega
  clear ho hm hx
  have hw1 := wrap_in (x := (i : Int) / 64) (by omega)
  have hw2 : (i : Int).tmod 64 = (i : Int) % 64 := Int.tmod_eq_emod_of_nonneg (by omega)
  have q4 : 0 ≤ (i : Int) / 64 := by omega
  have q5 : ((i : Int) / 64).toNat = i / 64 := by omega
  have q6 : (i : Int) / 64 < (m : Int) := by omega
  have q7 : 0 ≤ (i : Int) % 64 := by omega
  have q8 : (i : Int) % 64 < 64 := by omega
  have q9 : ((i : Int) % 64).toNat = i % 64 := by omega
  have q10 : (i : Int) % 64 ≤ 64 := by omega
  clear q3
  have HOd := Lib.hid (HO.out.below (Below.refl w.heap.size w).drew)
  cases t
  · go_enter Tryz.func92, Tryz.ntmps92
    go_wp2
    go_still_tail 14, (by kernel_rfl)
    clear hw1 hw2 q5 q9
    refine wpl_stU rfl (.tmp 34) (.tmp 33) rfl base g m c l HOd.out HM.out (i / 64) _ rfl rfl hlt ?_
    intro w2 ho hg
    have H2 := Lib.hid ho
    have HG := Lib.hid (gtrans (gbelow (Below.refl w.heap.size w).drew _) hg)
    clear ho hg
    go_wp2
    go_end0
    exact ⟨rfl, H2.out, HG.out⟩
  · go_enter Tryz.func92, Tryz.ntmps92
    go_wp2
    go_still_tail 14, (by kernel_rfl)
    clear hw1 hw2 q5 q9
    refine wpl_stU rfl (.tmp 20) (.tmp 19) rfl base g m c l HOd.out HM.out (i / 64) _ rfl rfl hlt ?_
    intro w2 ho hg
    have H2 := Lib.hid ho
    have HG := Lib.hid (gtrans (gbelow (Below.refl w.heap.size w).drew _) hg)
    clear ho hg
    go_wp2
    go_end0
    exact ⟨rfl, H2.out, HG.out⟩


def putIn (b : BitB) (i : Int) : Prop := 0 ≤ i ∧ i < b.n
instance (b : BitB) (i : Int) : Decidable (putIn b i) := by unfold putIn; infer_instance
def setW (l : List Int) (i : Nat) (t : Bool) : List Int := match l[i / 64]? with | some x => l.set (i / 64) (putW x (i % 64) t) | none => l
def putB (b : BitB) (i : Int) (t : Bool) : BitB := if okB b = true then (if putIn b i then ⟨b.n, setW b.w i.toNat t⟩ else b) else ⟨0, []⟩
def putE (b : BitB) (i : Int) : Int := if okB b = true then (if putIn b i then 0 else 1) else 2
theorem setW_len (l : List Int) (i : Nat) (t : Bool) : (setW l i t).length = l.length := by
  unfold setW
  split <;> simp
theorem gcellB {W w1 : World} {B g : Nat} (hg : W.grownBy w1 (some g)) (hB : B ≤ W.heap.size) (h : B ≤ g) : (∀ b o, b < B → w1.cell? ⟨b, o, none⟩ = W.cell? ⟨b, o, none⟩) ∧ (∀ b o, b < B → w1.frozen? ⟨b, o, none⟩ = W.frozen? ⟨b, o, none⟩) ∧ B ≤ w1.heap.size := by
  refine ⟨fun b o hb => ?_, fun b o hb => gfrozen hg (show b < _ by omega) (by simp; omega), by have := hg.size; omega⟩
  exact World.cell?_of_block (hg.block b (by omega) (by simp; omega))

set_option maxRecDepth 100000 in
set_option maxHeartbeats 8000000 in
theorem put44 (v : BitV) (b : BitB) (i : Int) (t : Bool) (w : World) (h : RdB w v b) : Calls Tryz.prog 50 #[v.v, .int .i64 i, .bool t] w (RetBE (putB b i t) (putE b i) w) := by
  have CC : Hid (∀ W, Below w.heap.size w W → Calls Tryz.prog 91 #[v.v] W (Ret (.int .i64 (okE b)) W)) := fun W hW => check62 v b W (h.below hW)
  have CO : Hid (okB b = true → ∀ W, Below w.heap.size w W → Calls Tryz.prog 88 #[v.v] W (RetB b W)) := fun hk W hW => own37 v b W (h.below hW) (by have := okB_parts hk; omega)
  have hbn := h.n
  obtain ⟨n, A, m, ca⟩ := v
  simp only at hbn
  subst hbn
  unfold BitV.v at CC CO ⊢
  simp only at CC CO ⊢
  clear h
  have HB0 : Hid (Below w.heap.size w ((w.alloc (.cells #[.int .i64 b.n, .slice A m ca] 26)).alloc (.cells #[.int .i64 0, .slice none 0 0] 26))) := balloc (balloc (Below.refl _ _) _) _
  by_cases hok : okB b = true
  · have CO := Lib.hid (CO.out hok)
    rw [okE_0 hok] at CC
    have hparts := okB_parts hok
    by_cases hin : putIn b i
    · have E2 : Hid (putE b i = 0) := by show _ = _; unfold putE; rw [if_pos hok, if_pos hin]
      have hin' := hin
      obtain ⟨q0, q1⟩ := hin'
      obtain ⟨k, rfl⟩ := Int.eq_ofNat_of_zero_le q0
      have E1 : Hid (putB b k t = ⟨b.n, setW b.w k t⟩) := by show _ = _; unfold putB; rw [if_pos hok, if_pos hin]; rfl
      have hkl : k / 64 < b.w.length := by omega
      have hx : b.w[k / 64]? = some b.w[k / 64] := List.getElem?_eq_getElem hkl
      generalize b.w[k / 64] = x at hx
      have ES : Hid (setW b.w k t = b.w.set (k / 64) (putW x (k % 64) t)) := by show _ = _; unfold setW; rw [hx]
      have HX := Lib.hid hx
      have HK : Hid (k ≤ 1000000) := by show _ ≤ _; omega
      have HL0 : Hid (0 < b.w.length) := by show 0 < _; omega
      have q2 : ¬ (k : Int) < 0 := by omega
      have q3 : ¬ b.n ≤ (k : Int) := by omega
      clear hin hok hx hparts hkl
      go_enter Tryz.func50, Tryz.ntmps50
      go_wp2_with (go_at_call 91; refine (CC.out _ HB0.out).mono ?_)
      rintro e w1 ⟨rfl, hb1⟩
      obtain ⟨hc1, hf1, hs1⟩ := bcellB (B := w.heap.size + 2) hb1 (by simp)
      have HB1 := Lib.hid (bthen HB0.out hb1)
      clear hb1 CC
      go_wp2_with (go_at_call 88; refine (CO.out _ HB1.out).mono ?_)
      rintro e w2 ⟨⟨n2, A2, m2, c2⟩, rfl, hn2, hm2, hcap2, ho2, hb2⟩
      simp only at hn2 hm2 hcap2 ho2
      obtain ⟨hc2, hf2, hs2⟩ := bcellB hb2 hs1
      have HB2 := Lib.hid (bthen HB1.out hb2)
      subst hn2
      have HM2 := Lib.hid hm2
      have HC2 := Lib.hid hcap2
      obtain ⟨g, eg⟩ := own_form ho2 HL0.out
      subst eg
      have hg1 := (ho2.lt g rfl)
      have HO2 : Hid (OwU w2 (w.heap.size + 2) (.slice (some ⟨g, 0, none⟩) m2 c2) b.w) := ho2.mono hs1
      have HG : Hid (w.heap.size + 2 ≤ g ∧ g < w2.heap.size) := ⟨Nat.le_trans hs1 hg1.1, hg1.2⟩
      have z0 : w.heap.size < w2.heap.size := by omega
      have z1 : w.heap.size + 1 < w2.heap.size := by omega
      clear hb2 hm2 hcap2 ho2 hg1 CO
      unfold BitV.v
      simp only
      have HO3 := Lib.hid (HO2.out.al (.cells #[.int .i64 b.n, .slice (some ⟨g, 0, none⟩) m2 c2] 141))
      have HB3 := Lib.hid (balloc HB2.out (.cells #[.int .i64 b.n, .slice (some ⟨g, 0, none⟩) m2 c2] 141))
      have K0 : Hid ((w2.alloc (.cells #[.int .i64 b.n, .slice (some ⟨g, 0, none⟩) m2 c2] 141)).cell? ⟨w2.heap.size, 0, none⟩ = some (.int .i64 b.n)) := by show _ = _; go_simp
      have K1 : Hid ((w2.alloc (.cells #[.int .i64 b.n, .slice (some ⟨g, 0, none⟩) m2 c2] 141)).cell? ⟨w2.heap.size, 1, none⟩ = some (.slice (some ⟨g, 0, none⟩) m2 c2)) := by show _ = _; go_simp
      have HS3 : Hid (w.heap.size + 2 ≤ (w2.alloc (.cells #[.int .i64 b.n, .slice (some ⟨g, 0, none⟩) m2 c2] 141)).heap.size) := by show _ ≤ _; simp; omega
      go_wp2_with (go_at_call 92; refine (put68 w2.heap.size (w.heap.size + 2) g m2 c2 k b.w x t _ K1.out HO3.out HM2.out.symm HX.out HK.out).mono ?_)
      rintro e w4 ⟨rfl, ho4, hg4⟩
      obtain ⟨hc4, hf4, hs4⟩ := gcellB hg4 HS3.out HG.out.1
      have k0 := gcell hg4 K0.out (by have := HG.out.2; simp; omega)
      have k1 := gcell hg4 K1.out (by have := HG.out.2; simp; omega)
      have HB4 := Lib.hid (bgrown HB3.out hg4 (fun k' hk' => by cases hk'; have := HG.out.1; omega))
      have HO4 := Lib.hid ho4
      clear ho4 hg4 K0 K1
      go_wp2
      refine bodyPost_ret (v := .tuple #[.agg #[.int .i64 b.n, .slice (some ⟨g, 0, none⟩) m2 c2], .int .i64 0]) (by simp [results, Tryz.results50, go_sem, hc4, hc2, hc1, z0, z1]) rfl ?_
      rw [E1.out, E2.out]
      rw [ES.out]
      refine ⟨⟨b.n, some ⟨g, 0, none⟩, m2, c2⟩, rfl, rfl, ?_, HC2.out, ?_, ?_⟩
      · show m2 = (List.set _ _ _).length
        rw [List.length_set]
        exact HM2.out
      · refine OwU.mono (base := w.heap.size + 2) ?_ (by omega)
        repeat (refine OwU.set_lo ?_ (by simp) _)
        exact HO4.out
      · repeat (refine Below.setCell ?_ (by first | (simp; done) | (simp; omega)) _)
        exact HB4.out
    · have E2 : Hid (putE b i = 1) := by show _ = _; unfold putE; rw [if_pos hok, if_neg hin]
      have E1 : Hid (putB b i t = b) := by show _ = _; unfold putB; rw [if_pos hok, if_neg hin]
      have hi' : i < 0 ∨ (¬ i < 0 ∧ b.n ≤ i) := by unfold putIn at hin; omega
      clear hin hok
      rcases hi' with h | ⟨h0, h⟩
      all_goals
        go_enter Tryz.func50, Tryz.ntmps50
        go_wp2_with (go_at_call 91; refine (CC.out _ HB0.out).mono ?_)
        rintro e w1 ⟨rfl, hb1⟩
        obtain ⟨hc1, hf1, hs1⟩ := bcellB (B := w.heap.size + 2) hb1 (by simp)
        have HB1 := Lib.hid (bthen HB0.out hb1)
        clear hb1 CC
        go_wp2_with (go_at_call 88; refine (CO.out _ HB1.out).mono ?_)
        rintro e w2 ⟨⟨n2, A2, m2, c2⟩, rfl, hn2, hm2, hcap2, ho2, hb2⟩
        simp only at hn2 hm2 hcap2 ho2
        obtain ⟨hc2, hf2, hs2⟩ := bcellB hb2 hs1
        have HB2 := Lib.hid (bthen HB1.out hb2)
        subst hn2
        have HM2 := Lib.hid hm2
        have HC2 := Lib.hid hcap2
        have HO2 : Hid (OwU w2 (w.heap.size + 2) (.slice A2 m2 c2) b.w) := ho2.mono hs1
        have z0 : w.heap.size < w2.heap.size := by omega
        have z1 : w.heap.size + 1 < w2.heap.size := by omega
        have HB3 := Lib.hid (balloc HB2.out (.cells #[.int .i64 b.n, .slice A2 m2 c2] 141))
        have HO3 := Lib.hid (HO2.out.al (.cells #[.int .i64 b.n, .slice A2 m2 c2] 141))
        clear hb2 hm2 hcap2 ho2 CO
        unfold BitV.v
        simp only
        go_wp2
        refine bodyPost_ret (v := .tuple #[.agg #[.int .i64 b.n, .slice A2 m2 c2], .int .i64 1]) (by simp [results, Tryz.results50, go_sem, hc2, hc1, z0, z1]) rfl ?_
        rw [E1.out, E2.out]
        refine ⟨⟨b.n, A2, m2, c2⟩, rfl, rfl, HM2.out, HC2.out, ?_, ?_⟩
        · refine OwU.mono (base := w.heap.size + 2) ?_ (by omega)
          refine OwU.al ?_ _
          repeat (refine OwU.set_lo ?_ (by simp) _)
          exact HO2.out
        · refine balloc ?_ _
          repeat (refine Below.setCell ?_ (by first | (simp; done) | (simp; omega)) _)
          exact HB2.out
  · have hok' : okB b = false := by simpa using hok
    have E2 : Hid (putE b i = 2) := by show _ = _; unfold putE; rw [if_neg hok]
    have E1 : Hid (putB b i t = ⟨0, []⟩) := by show _ = _; unfold putB; rw [if_neg hok]
    rw [okE_2 hok'] at CC
    clear hok hok' CO
    go_enter Tryz.func50, Tryz.ntmps50
    go_wp2_with (go_at_call 91; refine (CC.out _ HB0.out).mono ?_)
    rintro e w1 ⟨rfl, hb1⟩
    obtain ⟨hc1, hf1, hs1⟩ := bcellB (B := w.heap.size + 2) hb1 (by simp)
    have HB1 := Lib.hid (bthen HB0.out hb1)
    clear hb1 CC
    go_wp2
    refine bodyPost_ret (v := .tuple #[.agg #[.int .i64 0, .slice none 0 0], .int .i64 2]) (by simp [results, Tryz.results50, go_sem, hc1]) rfl ?_
    rw [E1.out, E2.out]
    refine ⟨⟨0, none, 0, 0⟩, rfl, rfl, rfl, Nat.le_refl _, OwU.nil_ _ _, ?_⟩
    repeat (refine Below.setCell ?_ (by first | (simp; done) | (simp; omega)) _)
    exact HB1.out

end Go.Proofs.YtieijfefnedifaaGreatDoor
