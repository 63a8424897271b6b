/- What bits and spans are, in cells and as numbers; plain. -/
import Derived.Test.YtchbbldanmmpjaaDoorW0
namespace Go.Proofs.YtchbbldanmmpjaaDoor
open Go.RowKit
set_option linter.unusedVariables false
set_option linter.unusedSimpArgs false

/-! ### Words -/
def us (l : List Int) : List Value := l.map (fun x => .int .u64 x)
theorem us_len (l : List Int) : (us l).length = l.length := by simp [us]
theorem us_one (l : List Int) : ∀ u ∈ us l, u.oneCell' = true := by
  intro u hu
  simp only [us, List.mem_map] at hu
  obtain ⟨x, _, rfl⟩ := hu
  rfl
theorem us_get (l : List Int) (i : Nat) (x : Int) (h : l[i]? = some x) : (us l)[i]? = some (.int .u64 x) := by simp [us, h]
def RdU (w : World) (A : Option Addr) (l : List Int) : Prop := Rd w 1 A l.length (us l)
theorem RdU.below {w w1 : World} {A : Option Addr} {l : List Int} (h : RdU w A l) (hb : Below w.heap.size w w1) : RdU w1 A l := Rd.below h hb
theorem RdU.len {w : World} {A : Option Addr} {l : List Int} (h : RdU w A l) : l.length ≤ 9223372036854775807 := h.2.1
theorem RdU.nil_ (w : World) (A : Option Addr) : RdU w A [] := Rd.nil_ w 1 A
theorem RdU.at_ {w : World} {A : Option Addr} {l : List Int} (h : RdU w A l) {i : Nat} {x : Int} (hs : l[i]? = some x) : ∃ b o, A = some ⟨b, o, none⟩ ∧ b < w.heap.size ∧ w.cell? ⟨b, o + i, none⟩ = some (.int .u64 x) := by
  have hi : i < l.length := (List.getElem?_eq_some_iff.1 hs).1
  obtain ⟨b, o, e, hb, hc⟩ := h.2.2 (by omega)
  exact ⟨b, o, e, hb, hc i _ (us_get l i x hs)⟩

/-! ### Bits: their value (V), and what they are (B) -/
structure BitV where
  n : Int
  A : Option Addr
  m : Nat
  c : Nat
structure BitB where
  n : Int
  w : List Int
deriving DecidableEq
def BitV.v (b : BitV) : Value := .agg #[.int .i64 b.n, .slice b.A b.m b.c]
structure RdB (w : World) (v : BitV) (b : BitB) : Prop where
  n : v.n = b.n
  m : v.m = b.w.length
  c : v.m ≤ v.c
  lo : -9223372036854775808 ≤ b.n
  hi : b.n ≤ 9223372036854775807
  words : ∀ x ∈ b.w, 0 ≤ x ∧ x < 18446744073709551616
  row : RdU w v.A b.w
theorem RdB.below {w w1 : World} {v : BitV} {b : BitB} (h : RdB w v b) (hb : Below w.heap.size w w1) : RdB w1 v b := ⟨h.n, h.m, h.c, h.lo, h.hi, h.words, h.row.below hb⟩

/-! ### Spans -/
structure SpanV where
  first : Int
  pages : Int
  size : Int
  al : BitV
  ma : BitV
  sw : Bool
structure SpanB where
  first : Int
  pages : Int
  size : Int
  al : BitB
  ma : BitB
  sw : Bool
deriving DecidableEq
def SpanV.v (s : SpanV) : Value := .agg #[.int .i64 s.first, .int .i64 s.pages, .int .i64 s.size, .int .i64 s.al.n, .slice s.al.A s.al.m s.al.c, .int .i64 s.ma.n, .slice s.ma.A s.ma.m s.ma.c, .bool s.sw]
def SpanV.cs (s : SpanV) : List Value := [.int .i64 s.first, .int .i64 s.pages, .int .i64 s.size, .int .i64 s.al.n, .slice s.al.A s.al.m s.al.c, .int .i64 s.ma.n, .slice s.ma.A s.ma.m s.ma.c, .bool s.sw]
theorem SpanV.cs_len (s : SpanV) : s.cs.length = 8 := rfl
def fl (l : List SpanV) : List Value := l.flatMap SpanV.cs
theorem fl_len (l : List SpanV) : (fl l).length = l.length * 8 := flat_len SpanV.cs 8 SpanV.cs_len l
theorem fl_get (l : List SpanV) (i j : Nat) (hj : j < 8) : (fl l)[i * 8 + j]? = (l[i]?).bind fun x => x.cs[j]? := flat_get SpanV.cs 8 SpanV.cs_len l i j hj
theorem fl_append (l m : List SpanV) : fl (l ++ m) = fl l ++ fl m := by simp [fl]
theorem fl_one (l : List SpanV) : ∀ u ∈ fl l, u.oneCell' = true := by
  intro u hu
  simp only [fl, List.mem_flatMap, SpanV.cs, List.mem_cons, List.not_mem_nil, or_false] at hu
  obtain ⟨s, _, rfl | rfl | rfl | rfl | rfl | rfl | rfl | rfl⟩ := hu <;> rfl
def RdS (w : World) (A : Option Addr) (l : List SpanV) : Prop := Rd w 8 A l.length (fl l)
theorem RdS.below {w w1 : World} {A : Option Addr} {l : List SpanV} (h : RdS w A l) (hb : Below w.heap.size w w1) : RdS w1 A l := Rd.below h hb
theorem RdS.nil_ (w : World) (A : Option Addr) : RdS w A [] := Rd.nil_ w 8 A
theorem RdS.len {w : World} {A : Option Addr} {l : List SpanV} (h : RdS w A l) : l.length ≤ 9223372036854775807 := h.2.1
theorem RdS.at_ {w : World} {A : Option Addr} {l : List SpanV} (h : RdS w A l) {i : Nat} {s : SpanV} (hs : l[i]? = some s) : ∃ b o, A = some ⟨b, o, none⟩ ∧ b < w.heap.size ∧
    w.cell? ⟨b, o + i * 8, none⟩ = some (.int .i64 s.first) ∧ w.cell? ⟨b, o + i * 8 + 1, none⟩ = some (.int .i64 s.pages) ∧ w.cell? ⟨b, o + i * 8 + 2, none⟩ = some (.int .i64 s.size) ∧
    w.cell? ⟨b, o + i * 8 + 3, none⟩ = some (.int .i64 s.al.n) ∧ w.cell? ⟨b, o + i * 8 + 4, none⟩ = some (.slice s.al.A s.al.m s.al.c) ∧
    w.cell? ⟨b, o + i * 8 + 5, none⟩ = some (.int .i64 s.ma.n) ∧ w.cell? ⟨b, o + i * 8 + 6, none⟩ = some (.slice s.ma.A s.ma.m s.ma.c) ∧ w.cell? ⟨b, o + i * 8 + 7, none⟩ = some (.bool s.sw) := by
  have hi : i < l.length := (List.getElem?_eq_some_iff.1 hs).1
  obtain ⟨b, o, e, hb, hc⟩ := h.2.2 (by omega)
  refine ⟨b, o, e, hb, ?_, ?_, ?_, ?_, ?_, ?_, ?_, ?_⟩
  · exact hc (i * 8 + 0) _ (by rw [fl_get l i 0 (by omega), hs]; rfl)
  · exact hc (i * 8 + 1) _ (by rw [fl_get l i 1 (by omega), hs]; rfl)
  · exact hc (i * 8 + 2) _ (by rw [fl_get l i 2 (by omega), hs]; rfl)
  · exact hc (i * 8 + 3) _ (by rw [fl_get l i 3 (by omega), hs]; rfl)
  · exact hc (i * 8 + 4) _ (by rw [fl_get l i 4 (by omega), hs]; rfl)
  · exact hc (i * 8 + 5) _ (by rw [fl_get l i 5 (by omega), hs]; rfl)
  · exact hc (i * 8 + 6) _ (by rw [fl_get l i 6 (by omega), hs]; rfl)
  · exact hc (i * 8 + 7) _ (by rw [fl_get l i 7 (by omega), hs]; rfl)
structure RdN (w : World) (v : SpanV) (s : SpanB) : Prop where
  first : v.first = s.first
  pages : v.pages = s.pages
  size : v.size = s.size
  sw : v.sw = s.sw
  al : RdB w v.al s.al
  ma : RdB w v.ma s.ma
  f1 : -9223372036854775808 ≤ s.first ∧ s.first ≤ 9223372036854775807
  p1 : -9223372036854775808 ≤ s.pages ∧ s.pages ≤ 9223372036854775807
  z1 : -9223372036854775808 ≤ s.size ∧ s.size ≤ 9223372036854775807
theorem RdN.below {w w1 : World} {v : SpanV} {s : SpanB} (h : RdN w v s) (hb : Below w.heap.size w w1) : RdN w1 v s := ⟨h.first, h.pages, h.size, h.sw, h.al.below hb, h.ma.below hb, h.f1, h.p1, h.z1⟩

/-! ### What the document says of bits -/
def bitP (b : BitB) (i : Nat) : Bool := match b.w[i / 64]? with | some x => x.toNat.testBit (i % 64) | none => false
def okB (b : BitB) : Bool := decide (0 ≤ b.n) && (decide (b.n ≤ 4096) && (decide ((b.w.length : Int) = (b.n + 63) / 64) && (List.range (64 * b.w.length)).all (fun i => decide ((i : Int) < b.n) || !bitP b i)))
end Go.Proofs.YtchbbldanmmpjaaDoor
