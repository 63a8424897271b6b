/- Rows of faults and of verify's objects; the walk of tell. -/
import Derived.Test.YtieijfefnedifaaGreatDoorMDADD
import Derived.Deep.AppendLies
namespace Go.Proofs.YtieijfefnedifaaGreatDoor
open Go.RowKit
set_option linter.unusedVariables false
set_option linter.unusedSimpArgs false

structure Flt where
  k : Nat
  a : Nat
deriving DecidableEq
def Flt.cs (f : Flt) : List Value := [.int .u8 f.k, .int .u64 f.a]
theorem Flt.cs_len (f : Flt) : f.cs.length = 2 := rfl
def flF (l : List Flt) : List Value := l.flatMap Flt.cs
theorem flF_len (l : List Flt) : (flF l).length = l.length * 2 := flat_len Flt.cs 2 Flt.cs_len l
theorem flF_get (l : List Flt) (i j : Nat) (hj : j < 2) : (flF l)[i * 2 + j]? = (l[i]?).bind fun x => x.cs[j]? := flat_get Flt.cs 2 Flt.cs_len l i j hj
theorem flF_append (l m : List Flt) : flF (l ++ m) = flF l ++ flF m := by simp [flF]
theorem flF_one (l : List Flt) : ∀ u ∈ flF l, u.oneCell' = true := by
  intro u hu
  simp only [flF, List.mem_flatMap, Flt.cs, List.mem_cons, List.not_mem_nil, or_false] at hu
  obtain ⟨s, _, rfl | rfl⟩ := hu <;> rfl
theorem infoF : (Tryz.prog.info? 48).map (fun i => (i.zero, i.size, i.bytes)) = some (some (.agg #[.int .u8 0, .int .u64 0]), 2, 16) := by kernel_rfl
def RdF (w : World) (A : Option Addr) (l : List Flt) : Prop := Rd w 2 A l.length (flF l)
theorem RdF.below {w w1 : World} {A : Option Addr} {l : List Flt} (h : RdF w A l) (hb : Below w.heap.size w w1) : RdF w1 A l := Rd.below h hb
theorem RdF.at_ {w : World} {A : Option Addr} {l : List Flt} (h : RdF w A l) {i : Nat} {s : Flt} (hs : l[i]? = some s) : ∃ b o, A = some ⟨b, o, none⟩ ∧ b < w.heap.size ∧ w.cell? ⟨b, o + i * 2, none⟩ = some (.int .u8 s.k) ∧ w.cell? ⟨b, o + i * 2 + 1, none⟩ = some (.int .u64 s.a) := by
  have hi : i < l.length := (List.getElem?_eq_some_iff.1 hs).1
  obtain ⟨b, o, e, hb, hc⟩ := h.2.2 (by omega)
  refine ⟨b, o, e, hb, ?_, ?_⟩
  · exact hc (i * 2 + 0) _ (by rw [flF_get l i 0 (by omega), hs]; rfl)
  · exact hc (i * 2 + 1) _ (by rw [flF_get l i 1 (by omega), hs]; rfl)
def OwF (w : World) (base : Nat) (v : Value) (l : List Flt) : Prop := w.ownsRow base 48 2 v l.length (flF l)
theorem OwF.nil_ (w : World) (base : Nat) : OwF w base (.slice none 0 0) [] := World.ownsRow_nil w base 48 2
theorem OwF.below {w w1 : World} {base : Nat} {v : Value} {l : List Flt} (h : OwF w base v l) (hb : Below w.heap.size w w1) : OwF w1 base v l := own_below h hb
theorem OwF.rd {w : World} {base n c : Nat} {A : Option Addr} {l : List Flt} (h : OwF w base (.slice A n c) l) (hn : l.length = n) : RdF w A l := by
  subst hn
  exact own_rd h
theorem OwF.set_lo {w : World} {base : Nat} {v : Value} {l : List Flt} (h : OwF w base v l) {p : Addr} (hp : p.block < base) (u : Value) : OwF (w.setCell p u) base v l := ownsRow_setCell_below h hp u
structure VObj where
  i : Nat
  k : Nat
  a : Nat
  r : Nat
  n : Int
  m : Int
  cur : Bool
  ok : Bool
deriving DecidableEq
def VObj.cs (o : VObj) : List Value := [.int .i64 o.i, .int .i64 o.k, .int .u64 o.a, .int .u64 o.r, .int .i64 o.n, .int .u64 o.m, .bool o.cur, .bool o.ok]
def VObj.v (o : VObj) : Value := .agg #[.int .i64 o.i, .int .i64 o.k, .int .u64 o.a, .int .u64 o.r, .int .i64 o.n, .int .u64 o.m, .bool o.cur, .bool o.ok]
theorem VObj.cs_len (o : VObj) : o.cs.length = 8 := rfl
def flQ (l : List VObj) : List Value := l.flatMap VObj.cs
theorem flQ_len (l : List VObj) : (flQ l).length = l.length * 8 := flat_len VObj.cs 8 VObj.cs_len l
theorem flQ_get (l : List VObj) (i j : Nat) (hj : j < 8) : (flQ l)[i * 8 + j]? = (l[i]?).bind fun x => x.cs[j]? := flat_get VObj.cs 8 VObj.cs_len l i j hj
theorem flQ_append (l m : List VObj) : flQ (l ++ m) = flQ l ++ flQ m := by simp [flQ]
theorem flQ_one (l : List VObj) : ∀ u ∈ flQ l, u.oneCell' = true := by
  intro u hu
  simp only [flQ, List.mem_flatMap, VObj.cs, List.mem_cons, List.not_mem_nil, or_false] at hu
  obtain ⟨s, _, rfl | rfl | rfl | rfl | rfl | rfl | rfl | rfl⟩ := hu <;> rfl
theorem infoQ : (Tryz.prog.info? 124).map (fun i => (i.zero, i.size, i.bytes)) = some (some (.agg #[.int .i64 0, .int .i64 0, .int .u64 0, .int .u64 0, .int .i64 0, .int .u64 0, .bool false, .bool false]), 8, 56) := by kernel_rfl
def RdQ (w : World) (A : Option Addr) (l : List VObj) : Prop := Rd w 8 A l.length (flQ l)
theorem RdQ.below {w w1 : World} {A : Option Addr} {l : List VObj} (h : RdQ w A l) (hb : Below w.heap.size w w1) : RdQ w1 A l := Rd.below h hb
def OwQ (w : World) (base : Nat) (v : Value) (l : List VObj) : Prop := w.ownsRow base 124 8 v l.length (flQ l)
theorem OwQ.nil_ (w : World) (base : Nat) : OwQ w base (.slice none 0 0) [] := World.ownsRow_nil w base 124 8
theorem OwQ.below {w w1 : World} {base : Nat} {v : Value} {l : List VObj} (h : OwQ w base v l) (hb : Below w.heap.size w w1) : OwQ w1 base v l := own_below h hb
theorem OwQ.rd {w : World} {base n c : Nat} {A : Option Addr} {l : List VObj} (h : OwQ w base (.slice A n c) l) (hn : l.length = n) : RdQ w A l := by
  subst hn
  exact own_rd h
theorem OwQ.set_lo {w : World} {base : Nat} {v : Value} {l : List VObj} (h : OwQ w base v l) {p : Addr} (hp : p.block < base) (u : Value) : OwQ (w.setCell p u) base v l := ownsRow_setCell_below h hp u
theorem own_grown {w w1 : World} {base n : Nat} {e : TypeId} {size : Nat} {v : Value} {xs : List Value} {r : Option Nat} (h : w.ownsRow base e size v n xs) (hg : w.grownBy w1 r) (hne : ∀ k, v.ownBlock = some k → r ≠ some k) : w1.ownsRow base e size v n xs := by
  refine ⟨h.1, ?_⟩
  rcases h.2 with h' | ⟨g, cap, cur, hv, hb, hh, rest⟩
  · exact Or.inl h'
  · refine Or.inr ⟨g, cap, cur, hv, hb, ?_, rest⟩
    have hk : v.ownBlock = some g := by rw [hv]; rfl
    rw [hg.block g ((Array.getElem?_eq_some_iff.1 hh).1) (fun e => hne g hk e.symm)]
    exact hh
/-! ### verify's sight -/
structure SgAt (w : World) (b : Nat) (v : HeapV) (f o : Value) : Prop where
  c0 : w.cell? ⟨b, 0, none⟩ = some (.slice v.aA v.aN v.aC)
  c1 : w.cell? ⟨b, 1, none⟩ = some (.int .i64 v.us.n)
  c2 : w.cell? ⟨b, 2, none⟩ = some (.slice v.us.A v.us.m v.us.c)
  c3 : w.cell? ⟨b, 3, none⟩ = some (.slice v.sA v.sN v.sC)
  c4 : w.cell? ⟨b, 4, none⟩ = some f
  c5 : w.cell? ⟨b, 5, none⟩ = some o
theorem SgAt.below {w w1 : World} {b : Nat} {v : HeapV} {f o : Value} (h : SgAt w b v f o) (hb : Below w.heap.size w w1) : SgAt w1 b v f o :=
  ⟨cell_later hb h.c0, cell_later hb h.c1, cell_later hb h.c2, cell_later hb h.c3, cell_later hb h.c4, cell_later hb h.c5⟩
structure Sgt (w0 w : World) (b : Nat) (v : HeapV) (fs : List Flt) (FA : Option Addr) (fc : Nat) (os : List VObj) (OA : Option Addr) (oc : Nat) : Prop where
  st : SgAt w b v (.slice FA fs.length fc) (.slice OA os.length oc)
  fo : OwF w (b + 1) (.slice FA fs.length fc) fs
  oo : OwQ w (b + 1) (.slice OA os.length oc) os
  fr : ∀ j, w.frozen? ⟨b, j, none⟩ = false
  lo : Below w0.heap.size w0 w
  lt : b < w.heap.size
  hb : w0.heap.size ≤ b
theorem Sgt.later {w0 w w1 : World} {b fc oc : Nat} {v : HeapV} {fs : List Flt} {FA OA : Option Addr} {os : List VObj} (s : Sgt w0 w b v fs FA fc os OA oc) (hb : Below w.heap.size w w1) : Sgt w0 w1 b v fs FA fc os OA oc :=
  ⟨s.st.below hb, s.fo.below hb, s.oo.below hb, fun j => (hb.frozen (p := ⟨b, j, none⟩) s.lt).trans (s.fr j), bthenB s.lo s.lo.size hb, Nat.lt_of_lt_of_le s.lt hb.size, s.hb⟩
/-- All blocks but the sight's own, and its faults', are as they were. -/
structure Keeps (w w1 : World) (b : Nat) (r : Option Nat) : Prop where
  block : ∀ q, q < w.heap.size → q ≠ b → r ≠ some q → w1.heap[q]? = w.heap[q]?
  size : w.heap.size ≤ w1.heap.size
  be : Below b w w1
def TellP (w0 w : World) (b : Nat) (v : HeapV) (fs : List Flt) (FA : Option Addr) (fl fc : Nat) (os : List VObj) (OA : Option Addr) (oc : Nat) (e : Ending) (w' : World) : Prop :=
  e = .returned (.tuple #[]) ∧ ∃ g cap, Sgt w0 w' b v fs (some ⟨g, 0, none⟩) cap os OA oc ∧ ((Value.slice FA fl fc).ownBlock = some g ∨ w.heap.size ≤ g) ∧ Keeps w w' b (Value.slice FA fl fc).ownBlock
theorem flt_cells (W : World) (f : Flt) : ∀ j u, f.cs[j]? = some u → (W.alloc (.cells #[.int .u8 f.k, .int .u64 f.a] 48)).cell? ⟨W.heap.size, j, none⟩ = some u := by
  intro j u hu
  have hj : j < 2 := (List.getElem?_eq_some_iff.1 hu).1
  have hc : j = 0 ∨ j = 1 := by omega
  rcases hc with rfl | rfl <;> (simp [Flt.cs] at hu; subst hu; go_simp)
end Go.Proofs.YtieijfefnedifaaGreatDoor

/- The walk of tell. -/
namespace Go.Proofs.YtieijfefnedifaaGreatDoor
open Go.RowKit
set_option linter.unusedVariables false
set_option linter.unusedSimpArgs false

theorem wpl_appF1 {ops : Array Oper} {rest : List Oper} {o : Oper} {a : Act} {w : World} {Q : Exit → Act → World → Prop} (hgd : o.guard = none) (s x : Operand)
    (ho : o.op = .call { callee := .builtin .append, args := #[s, x], argTypes := #[33, 33] })
    (base : Nat) (v : Value) (l0 : List Flt) (f : Flt) (B : Nat) (hs : a.eval s = v) (hx : a.eval x = .slice (some ⟨B, 0, none⟩) 1 1) (hown : OwF w base v l0) (hr : ∀ j u, f.cs[j]? = some u → w.cell? ⟨B, j, none⟩ = some u)
    (hlen : l0.length ≤ 1000000) (hbase : base ≤ w.heap.size)
    (h : ∀ g cap w', OwF w' base (.slice (some ⟨g, 0, none⟩) (l0.length + 1) cap) (l0 ++ [f]) → w.grownBy w' v.ownBlock → (v.ownBlock = some g ∨ g = w.heap.size) → wpList Tryz.prog ops Q rest (a.put o.dst (.slice (some ⟨g, 0, none⟩) (l0.length + 1) cap)) w') :
    wpList Tryz.prog ops Q (o :: rest) a w := by
  obtain ⟨i, hi, hz0, hz1, hz2⟩ := info_parts infoF
  refine wpList_append_lies (P := Tryz.prog) w hgd s x 33 ho base 48 i _ 2 16 Tryz.underlying33 hi hz0 hz1 hz2 rfl (by omega) v l0.length (flF l0) hs hown ⟨B, 0, none⟩ 1 1 (flF [f]) hx rfl (fun j u hu => ?_) (flF_one _) (by omega) (by simp only [maxLen]; omega) (by omega) hbase _ rfl
    (fun g cap w' h1 h2 h3 _ => h g cap w' (by unfold OwF; rw [List.length_append, flF_append]; exact h1) h2 h3)
  have hu2 : f.cs[j]? = some u := by simpa [flF] using hu
  rw [addOff, Nat.zero_add, hr j u hu2]
theorem Sgt.app {w0 w w1 : World} {b fc oc g cap : Nat} {v : HeapV} {fs : List Flt} {FA OA : Option Addr} {os : List VObj} {f : Flt} (s : Sgt w0 w b v fs FA fc os OA oc) (hg : w.grownBy w1 (Value.slice FA fs.length fc).ownBlock)
    (ho : OwF w1 (b + 1) (.slice (some ⟨g, 0, none⟩) (fs.length + 1) cap) (fs ++ [f])) : Sgt w0 (w1.setCell ⟨b, 4, none⟩ (.slice (some ⟨g, 0, none⟩) (fs.length + 1) cap)) b v (fs ++ [f]) (some ⟨g, 0, none⟩) cap os OA oc := by
  have hlo : ∀ r, (Value.slice FA fs.length fc).ownBlock = some r → b + 1 ≤ r := fun r hr => (World.ownsRow.lt s.fo r hr).1
  have hne : some b ≠ (Value.slice FA fs.length fc).ownBlock := by
    intro e
    have := hlo b e.symm
    omega
  have hlt := s.lt
  have n4 : ∀ i : Nat, i ≠ 4 → (⟨b, 4, none⟩ : Addr) ≠ ⟨b, i, none⟩ := fun i h e => h (congrArg Addr.off e).symm
  obtain ⟨c0, c1, c2, c3, c4, c5⟩ := s.st
  refine ⟨⟨?_, ?_, ?_, ?_, ?_, ?_⟩, ?_, ?_, ?_, ?_, ?_, s.hb⟩
  · exact (World.cell?_setCell_other (h := n4 0 (by omega)) ..).trans (hg.cell c0 hne)
  · exact (World.cell?_setCell_other (h := n4 1 (by omega)) ..).trans (hg.cell c1 hne)
  · exact (World.cell?_setCell_other (h := n4 2 (by omega)) ..).trans (hg.cell c2 hne)
  · exact (World.cell?_setCell_other (h := n4 3 (by omega)) ..).trans (hg.cell c3 hne)
  · rw [List.length_append]
    exact World.cell?_setCell_same _ _ _ (hg.cell c4 hne)
  · exact (World.cell?_setCell_other (h := n4 5 (by omega)) ..).trans (hg.cell c5 hne)
  · rw [List.length_append]
    exact ho.set_lo (by simp) _
  · refine OwQ.set_lo ?_ (by simp) _
    exact own_grown s.oo hg (fun k hk => own_tag s.oo s.fo (by decide) hk)
  · intro j
    rw [World.frozen?_setCell]
    exact (gfrozen hg (a := ⟨b, j, none⟩) hlt hne).trans (s.fr j)
  · exact (s.lo.grown hg s.lo.size (fun r hr => by have := hlo r hr; have := s.hb; omega)).setCell (p := ⟨b, 4, none⟩) s.hb _
  · have := hg.size
    simp
    omega
set_option maxRecDepth 100000 in
set_option maxHeartbeats 8000000 in
theorem tell75 (w0 w : World) (b fc oc : Nat) (v : HeapV) (fs : List Flt) (FA OA : Option Addr) (os : List VObj) (f : Flt) (s : Sgt w0 w b v fs FA fc os OA oc) (hl : fs.length ≤ 1000000) :
    Calls Tryz.prog 75 #[.pointer (some ⟨b, 0, none⟩), .int .u8 f.k, .int .u64 f.a] w (TellP w0 w b v (fs ++ [f]) FA fs.length fc os OA oc) := by
  have HS := Lib.hid s
  have s4 := s.st.c4
  have hb := s.lt
  have hl2 := hl
  generalize hn : fs.length = n at s4
  clear s
  obtain ⟨wA, hwA⟩ : ∃ wA, wA = w.alloc (.cells #[.int .u8 f.k, .int .u64 f.a] 48) := ⟨_, rfl⟩
  have hba : Below w.heap.size w wA := by rw [hwA]; exact balloc (Below.refl _ _) _
  have HBA := Lib.hid hba
  have HSA := Lib.hid (HS.out.later hba)
  have HCA : Hid (∀ j u, f.cs[j]? = some u → wA.cell? ⟨w.heap.size, j, none⟩ = some u) := by rw [hwA]; exact flt_cells w f
  have HZA : Hid (wA.heap.size = w.heap.size + 1) := by show _ = _; rw [hwA]; simp
  have HN := Lib.hid hn
  clear hba hn
  go_enter Tryz.func75, Tryz.ntmps75
  rw [hwA] at HSA HCA HZA
  go_wp2_with (refine wpl_appF1 rfl (.tmp 10) (.tmp 14) rfl (b + 1) (.slice FA n fc) fs f w.heap.size rfl rfl (by rw [← HN.out]; exact HSA.out.fo) HCA.out hl2 (by rw [HZA.out]; omega) ?_)
  intro g cap w1 ho hg hat
  rw [← hwA] at hg HSA HCA HZA
  rw [← HN.out] at hg hat
  have hne : some b ≠ (Value.slice FA fs.length fc).ownBlock := fun e => by have := (World.ownsRow.lt HSA.out.fo b e.symm).1; omega
  have c4 := hg.cell HSA.out.st.c4 hne
  have f4 := (gfrozen hg (a := ⟨b, 4, none⟩) HSA.out.lt hne).trans (HSA.out.fr 4)
  have l4 := World.block_lt_of_cell? _ _ c4
  have HX := Lib.hid (HSA.out.app hg ho)
  have HAT : Hid ((Value.slice FA fs.length fc).ownBlock = some g ∨ w.heap.size ≤ g) := by
    rcases hat with e | e
    · exact Or.inl e
    · exact Or.inr (by omega)
  have HK : Hid (Keeps w (w1.setCell ⟨b, 4, none⟩ (.slice (some ⟨g, 0, none⟩) (fs.length + 1) cap)) b (Value.slice FA fs.length fc).ownBlock) := by
    have hgs := hg.size
    have hz := HZA.out
    refine ⟨fun q hq hqb hqr => ?_, by simp; omega, ?_⟩
    · rw [Below.heap_setCell _ _ _ _ (by simpa using hqb), hg.block q (by omega) (fun e => hqr e.symm)]
      exact HBA.out.block q hq
    · refine Below.setCell (p := ⟨b, 4, none⟩) ?_ (Nat.le_refl _) _
      refine ((HBA.out.mono (Nat.le_of_lt hb)).grown hg (by omega) (fun r hr => ?_))
      have := (World.ownsRow.lt HSA.out.fo r hr).1
      omega
  clear ho hg hat hne hwA
  go_wp2
  go_end0
  exact ⟨rfl, g, cap, HX.out, by first | exact HAT.out | (rw [← HN.out]; exact HAT.out), by first | exact HK.out | (rw [← HN.out]; exact HK.out)⟩
end Go.Proofs.YtieijfefnedifaaGreatDoor

/- The walk of verify's frame. -/
namespace Go.Proofs.YtieijfefnedifaaGreatDoor
open Go.RowKit
set_option linter.unusedVariables false
set_option linter.unusedSimpArgs false

def frameOk (h : HeapB) : Bool := decide (h.ar.length ≤ 16384) && (okB h.us && (decide (1 ≤ h.us.n) && decide ((h.ar.length : Int) = 16 * h.us.n)))
def FrameP (w0 w : World) (b : Nat) (v : HeapV) (h : HeapB) (FA : Option Addr) (fc : Nat) (os : List VObj) (OA : Option Addr) (oc : Nat) (e : Ending) (w' : World) : Prop :=
  e = .returned (.bool (frameOk h)) ∧ (frameOk h = true → Sgt w0 w' b v [] FA fc os OA oc) ∧ (frameOk h = false → ∃ FA' fc', Sgt w0 w' b v [⟨1, 0⟩] FA' fc' os OA oc) ∧ Below b w w'
set_option maxRecDepth 100000 in
set_option maxHeartbeats 8000000 in
theorem frame37 (w0 w : World) (b fc oc : Nat) (v : HeapV) (h : HeapB) (FA OA : Option Addr) (os : List VObj) (s : Sgt w0 w b v [] FA fc os OA oc) (hr : RdH w0 v h) :
    Calls Tryz.prog 37 #[.pointer (some ⟨b, 0, none⟩)] w (FrameP w0 w b v h FA fc os OA oc) := by
  have HS := Lib.hid s
  have hw := hr.below s.lo
  have CA : Hid (∀ W, Calls Tryz.prog 74 #[.agg #[.slice v.aA v.aN v.aC]] W (Ret (.int .i64 (arE v.aN)) W)) := fun W => archeck _ _ _ W
  have CP : Hid (∀ W, Below w.heap.size w W → Calls Tryz.prog 59 #[v.us.v] W (Ret (.int .i64 (okE h.us)) W)) := fun W hW => pgcheck _ _ W (hw.us.below hW)
  have hn := hr.n
  have hun := hr.us.n
  have s0 := s.st.c0
  have s1 := s.st.c1
  have s2 := s.st.c2
  have hb := s.lt
  have EF : Hid (frameOk h = (decide (h.ar.length ≤ 16384) && (okB h.us && (decide (1 ≤ h.us.n) && decide ((h.ar.length : Int) = 16 * h.us.n))))) := rfl
  rw [hn] at s0 CA
  rw [hun] at s1
  unfold BitV.v at CP
  rw [hun] at CP
  clear s hr hw hn hun
  by_cases ha : h.ar.length ≤ 16384
  · rw [show arE h.ar.length = 0 from by unfold arE; rw [if_pos ha]] at CA
    by_cases hu : okB h.us = true
    · rw [okE_0 hu] at CP
      have hup := okB_parts hu
      have hw0 : IntKind.i64.wrap (16 * h.us.n) = 16 * h.us.n := wrap_in (by omega)
      by_cases hN : h.us.n < 1
      · have E : Hid (frameOk h = false) := by show _ = _; rw [EF.out, decide_eq_false (show ¬ 1 ≤ h.us.n by omega)]; simp
        clear ha hu hup
        go_enter Tryz.func37, Tryz.ntmps37
        go_wp2_with (go_at_call 74; refine (CA.out _).mono ?_)
        rintro e w1 ⟨rfl, hb1⟩
        obtain ⟨hc1, hf1, hs1⟩ := bcellB (B := w.heap.size) hb1 (Nat.le_refl _)
        have HB1 := Lib.hid hb1
        have y1 : b < w1.heap.size := by omega
        clear hb1
        go_wp2_with (go_at_call 59; refine (CP.out _ HB1.out).mono ?_)
        rintro e w2 ⟨rfl, hb2⟩
        obtain ⟨hc2, hf2, hs2⟩ := bcellB (B := w.heap.size) hb2 hs1
        have HB2 := Lib.hid (bthen HB1.out hb2)
        have y2 : b < w2.heap.size := by omega
        clear hb2
        have CT := Lib.hid (tell75 w0 w2 b fc oc v [] FA OA os ⟨1, 0⟩ (HS.out.later HB2.out) (by simp))
        go_wp2_with (go_at_call 75; refine CT.out.mono ?_)
        rintro e w9 ⟨rfl, g, cap, hs9, -, hk9⟩
        have HS9 := Lib.hid hs9
        have HB9 : Hid (Below b w w9) := (HB2.out.mono (Nat.le_of_lt hb)).trans hk9.be
        clear hs9 hk9 CT
        go_wp2
        go_ret
        exact ⟨by rw [E.out]; rfl, (fun hh => by rw [E.out] at hh; cases hh), (fun _ => ⟨_, _, HS9.out⟩), HB9.out⟩
      · by_cases hl : (h.ar.length : Int) = 16 * h.us.n
        · have E : Hid (frameOk h = true) := by show _ = _; rw [EF.out, decide_eq_true ha, hu, decide_eq_true (show 1 ≤ h.us.n by omega), decide_eq_true hl]; rfl
          have hq : ((h.ar.length : Int) == 16 * h.us.n) = true := by simpa using hl
          clear ha hu hup hl
          go_enter Tryz.func37, Tryz.ntmps37
          go_wp2_with (go_at_call 74; refine (CA.out _).mono ?_)
          rintro e w1 ⟨rfl, hb1⟩
          obtain ⟨hc1, hf1, hs1⟩ := bcellB (B := w.heap.size) hb1 (Nat.le_refl _)
          have HB1 := Lib.hid hb1
          have y1 : b < w1.heap.size := by omega
          clear hb1
          go_wp2_with (go_at_call 59; refine (CP.out _ HB1.out).mono ?_)
          rintro e w2 ⟨rfl, hb2⟩
          obtain ⟨hc2, hf2, hs2⟩ := bcellB (B := w.heap.size) hb2 hs1
          have HB2 := Lib.hid (bthen HB1.out hb2)
          have y2 : b < w2.heap.size := by omega
          clear hb2
          go_wp2
          go_ret
          exact ⟨by rw [E.out]; rfl, (fun _ => HS.out.later HB2.out), (fun hh => by rw [E.out] at hh; cases hh), HB2.out.mono (Nat.le_of_lt hb)⟩
        · have E : Hid (frameOk h = false) := by show _ = _; rw [EF.out, decide_eq_false hl]; simp
          have hq : ((h.ar.length : Int) == 16 * h.us.n) = false := by simpa using hl
          clear ha hu hup hl
          go_enter Tryz.func37, Tryz.ntmps37
          go_wp2_with (go_at_call 74; refine (CA.out _).mono ?_)
          rintro e w1 ⟨rfl, hb1⟩
          obtain ⟨hc1, hf1, hs1⟩ := bcellB (B := w.heap.size) hb1 (Nat.le_refl _)
          have HB1 := Lib.hid hb1
          have y1 : b < w1.heap.size := by omega
          clear hb1
          go_wp2_with (go_at_call 59; refine (CP.out _ HB1.out).mono ?_)
          rintro e w2 ⟨rfl, hb2⟩
          obtain ⟨hc2, hf2, hs2⟩ := bcellB (B := w.heap.size) hb2 hs1
          have HB2 := Lib.hid (bthen HB1.out hb2)
          have y2 : b < w2.heap.size := by omega
          clear hb2
          have CT := Lib.hid (tell75 w0 w2 b fc oc v [] FA OA os ⟨1, 0⟩ (HS.out.later HB2.out) (by simp))
          go_wp2_with (go_at_call 75; refine CT.out.mono ?_)
          rintro e w9 ⟨rfl, g, cap, hs9, -, hk9⟩
          have HS9 := Lib.hid hs9
          have HB9 : Hid (Below b w w9) := (HB2.out.mono (Nat.le_of_lt hb)).trans hk9.be
          clear hs9 hk9 CT
          go_wp2
          go_ret
          exact ⟨by rw [E.out]; rfl, (fun hh => by rw [E.out] at hh; cases hh), (fun _ => ⟨_, _, HS9.out⟩), HB9.out⟩
    · have hu' : okB h.us = false := by simpa using hu
      have E : Hid (frameOk h = false) := by show _ = _; rw [EF.out, hu']; simp
      rw [okE_2 hu'] at CP
      clear ha hu hu'
      go_enter Tryz.func37, Tryz.ntmps37
      go_wp2_with (go_at_call 74; refine (CA.out _).mono ?_)
      rintro e w1 ⟨rfl, hb1⟩
      obtain ⟨hc1, hf1, hs1⟩ := bcellB (B := w.heap.size) hb1 (Nat.le_refl _)
      have HB1 := Lib.hid hb1
      have y1 : b < w1.heap.size := by omega
      clear hb1
      go_wp2_with (go_at_call 59; refine (CP.out _ HB1.out).mono ?_)
      rintro e w2 ⟨rfl, hb2⟩
      obtain ⟨hc2, hf2, hs2⟩ := bcellB (B := w.heap.size) hb2 hs1
      have HB2 := Lib.hid (bthen HB1.out hb2)
      have y2 : b < w2.heap.size := by omega
      clear hb2
      have CT := Lib.hid (tell75 w0 w2 b fc oc v [] FA OA os ⟨1, 0⟩ (HS.out.later HB2.out) (by simp))
      go_wp2_with (go_at_call 75; refine CT.out.mono ?_)
      rintro e w9 ⟨rfl, g, cap, hs9, -, hk9⟩
      have HS9 := Lib.hid hs9
      have HB9 : Hid (Below b w w9) := (HB2.out.mono (Nat.le_of_lt hb)).trans hk9.be
      clear hs9 hk9 CT
      go_wp2
      go_ret
      exact ⟨by rw [E.out]; rfl, (fun hh => by rw [E.out] at hh; cases hh), (fun _ => ⟨_, _, HS9.out⟩), HB9.out⟩
  · have E : Hid (frameOk h = false) := by show _ = _; rw [EF.out, decide_eq_false ha]; simp
    rw [show arE h.ar.length = 2 from by unfold arE; rw [if_neg ha]] at CA
    clear ha CP
    go_enter Tryz.func37, Tryz.ntmps37
    go_wp2_with (go_at_call 74; refine (CA.out _).mono ?_)
    rintro e w1 ⟨rfl, hb1⟩
    obtain ⟨hc1, hf1, hs1⟩ := bcellB (B := w.heap.size) hb1 (Nat.le_refl _)
    have HB1 := Lib.hid hb1
    have y1 : b < w1.heap.size := by omega
    clear hb1
    have CT := Lib.hid (tell75 w0 w1 b fc oc v [] FA OA os ⟨1, 0⟩ (HS.out.later HB1.out) (by simp))
    go_wp2_with (go_at_call 75; refine CT.out.mono ?_)
    rintro e w9 ⟨rfl, g, cap, hs9, -, hk9⟩
    have HS9 := Lib.hid hs9
    have HB9 : Hid (Below b w w9) := (HB1.out.mono (Nat.le_of_lt hb)).trans hk9.be
    clear hs9 hk9 CT
    go_wp2
    go_ret
    exact ⟨by rw [E.out]; rfl, (fun hh => by rw [E.out] at hh; cases hh), (fun _ => ⟨_, _, HS9.out⟩), HB9.out⟩
end Go.Proofs.YtieijfefnedifaaGreatDoor
