/- The walks of what asks for specials, and takes some. -/
import Derived.Test.YtiapiajldchnmaaW7
namespace Go.Proofs.Ytiapiajldchnmaa
open Go.RowKit
set_option linter.unusedVariables false
set_option linter.unusedSimpArgs false

theorem OwS.kept_ {W2 W3 : World} {base B : Nat} {v v2 : Value} {l l2 : List Sp} (h : OwS W2 base v l) (hv : ∀ k, v.ownBlock = some k → k < B) (h2 : OwS W2 B v2 l2) (hg : W2.grownBy W3 v2.ownBlock) : OwS W3 base v l := by
  refine World.ownsRow.kept h hg ?_
  cases e : v.ownBlock with
  | none => exact .inl rfl
  | some k =>
    refine .inr fun e2 => ?_
    have h1 := hv k e
    have h3 := (h2.lt k e2.symm).1
    omega
theorem OwS.apart {W W2 W3 : World} {base : Nat} {v v2 : Value} {l l2 : List Sp} (h : OwS W base v l) (hb : Below W.heap.size W W2) (h2 : OwS W2 W.heap.size v2 l2) (hg : W2.grownBy W3 v2.ownBlock) : OwS W3 base v l :=
  OwS.kept_ (h.below hb) (fun k hk => (h.lt k hk).2) h2 hg
theorem RetG.below {W W2 W3 : World} {v2 : Value} {l2 : List Sp} {B : Nat} (hb : Below B W W2) (hB : B ≤ W2.heap.size) (h2 : OwS W2 B v2 l2) (hg : W2.grownBy W3 v2.ownBlock) : Below B W W3 :=
  hb.grown hg hB (fun k hk => (h2.lt k hk).1)

def ofP (l : List Sp) (x : Int) : List Sp := if goodP l then l.filter (fun s => s.a == x) else []
theorem good_len {l : List Sp} (h : goodP l = true) : l.length ≤ 64 := by
  unfold goodP at h
  simp only [Bool.and_eq_true, decide_eq_true_eq] at h
  exact h.1
theorem checkP_ok {l : List Sp} (h : goodP l = true) : checkP l = 0 := by simp [checkP, h]
theorem checkP_no {l : List Sp} (h : goodP l = false) : checkP l = 2 := by simp [checkP, h]

def RetS2 (l : List Sp) (n : Int) (w : World) (e : Ending) (w' : World) : Prop := ∃ v, e = .returned (.tuple #[v, .int .i64 n]) ∧ OwS w' w.heap.size v l ∧ Below w.heap.size w w'
def RetS3 (l m : List Sp) (n : Int) (w : World) (e : Ending) (w' : World) : Prop := ∃ v u, e = .returned (.tuple #[v, u, .int .i64 n]) ∧ OwS w' w.heap.size v l ∧ OwS w' w.heap.size u m ∧ Below w.heap.size w w'

theorem of12 (l : List Sp) (A : Option Addr) (c : Nat) (x : Int) (w : World) (hr : RdS w A l) (hc : l.length ≤ c) : Calls Try.prog 12 #[.slice A l.length c, .int .u64 x] w (RetS2 (ofP l x) (checkP l) w) := by
  have hl := hr.len
  have C20 := Lib.hid (fun W h => check20 l A c W h hc)
  have HR := Lib.hid hr
  have hb0 : Below w.heap.size w (w.alloc (.cells #[.int .u64 x] 23)) := balloc (Below.refl _ _) _
  have f0 : Hid ((w.alloc (.cells #[.int .u64 x] 23)).cell? ⟨w.heap.size, 0, none⟩ = some (.int .u64 x)) := by show _ = _; go_simp
  clear hr
  cases hg : goodP l with
  | false =>
    have E : Hid (ofP l x = []) := by show _ = _; simp [ofP, hg]
    rw [checkP_no hg] at C20 ⊢
    clear hg
    go_enter Try.func12, Try.ntmps12
    go_wp2_with (go_at_call 20; refine (C20.out _ (HR.out.below hb0)).mono ?_; rintro e w' ⟨rfl, hb⟩)
    go_ret2
    exact ⟨_, rfl, by rw [E.out]; exact OwS.nil_ _ _, bthen hb0 hb⟩
  | true =>
    have HG := Lib.hid hg
    have hlen := good_len hg
    have E : Hid (ofP l x = l.filter (fun s => !(s.a != x))) := by show _ = _; simp only [ofP, hg, if_true, bne, Bool.not_not]
    rw [checkP_ok hg] at C20 ⊢
    clear hg
    go_enter Try.func12, Try.ntmps12
    go_wp2_with (first
      | (go_at_call 20; refine (C20.out _ (HR.out.below hb0)).mono ?_; rintro e w1 ⟨rfl, hb1⟩)
      | (go_at_call 22; refine (clone22 l A c _ (HR.out.below (bthen hb0 hb1)) (by omega)).mono ?_; rintro e w2 ⟨v2, rfl, ho2, hb2⟩)
      | (go_at_call 25; refine (delete25 l v2 w1.heap.size 26 #[.pointer (some ⟨w.heap.size, 0, none⟩)] (fun s => s.a != x) w2 ho2 hb2.size Try.call26 ?_).mono ?_))
    · intro s _ w' hgw
      refine clo26 s x _ w' (gcell hgw (cell_later hb2 (cell_later hb1 f0.out)) ?_)
      intro e
      have h1 := (ho2.lt _ e.symm).1
      have h2 := hb1.size
      simp at h2
      simp at h1
      omega
    rintro e w3 ⟨v3, rfl, ho3, hg3⟩
    have HB := RetG.below hb2 hb2.size ho2 hg3
    have H3 : Hid (OwS w3 w.heap.size v3 (ofP l x)) := by
      show OwS _ _ _ _
      rw [E.out]
      exact ho3.mono (bthen hb0 hb1).size
    have HBB := bthen (bthen hb0 hb1) HB
    clear ho2 ho3 hg3
    go_wp2
    go_ret2
    exact ⟨_, rfl, H3.out, HBB⟩

def takeL (l : List Sp) (x k : Int) : List Sp := if goodP l then l.filter (fun s => !isP x k s) else []
def takeO (l : List Sp) (x k : Int) : List Sp := if goodP l then l.filter (fun s => isP x k s) else []

set_option maxHeartbeats 1000000 in
theorem take14 (l : List Sp) (A : Option Addr) (c : Nat) (x k : Int) (w : World) (hr : RdS w A l) (hc : l.length ≤ c) :
    Calls Try.prog 14 #[.slice A l.length c, .int .u64 x, .int .u8 k] w (RetS3 (takeL l x k) (takeO l x k) (checkP l) w) := by
  have hl := hr.len
  have C20 := Lib.hid (fun W h => check20 l A c W h hc)
  have HR := Lib.hid hr
  have hb0 : Below w.heap.size w ((w.alloc (.cells #[.int .u64 x] 23)).alloc (.cells #[.int .u8 k] 24)) := balloc (balloc (Below.refl _ _) _) _
  have f0 : Hid (((w.alloc (.cells #[.int .u64 x] 23)).alloc (.cells #[.int .u8 k] 24)).cell? ⟨w.heap.size, 0, none⟩ = some (.int .u64 x)) := by show _ = _; go_simp
  have f1 : Hid (((w.alloc (.cells #[.int .u64 x] 23)).alloc (.cells #[.int .u8 k] 24)).cell? ⟨w.heap.size + 1, 0, none⟩ = some (.int .u8 k)) := by show _ = _; go_simp
  clear hr
  cases hg : goodP l with
  | false =>
    have E : Hid (takeL l x k = [] ∧ takeO l x k = []) := by show _ ∧ _; simp [takeL, takeO, hg]
    rw [checkP_no hg] at C20 ⊢
    clear hg
    go_enter Try.func14, Try.ntmps14
    go_wp2_with (go_at_call 20; refine (C20.out _ (HR.out.below hb0)).mono ?_; rintro e w' ⟨rfl, hb⟩)
    go_ret3
    exact ⟨_, _, rfl, by rw [E.out.1]; exact OwS.nil_ _ _, by rw [E.out.2]; exact OwS.nil_ _ _, bthen hb0 hb⟩
  | true =>
    have hlen := good_len hg
    have E : Hid (takeL l x k = l.filter (fun s => !isP x k s) ∧ takeO l x k = l.filter (fun s => !!isP x k s)) := by show _ ∧ _; exact ⟨by simp only [takeL, hg, if_true], by simp only [takeO, hg, if_true, Bool.not_not]⟩
    rw [checkP_ok hg] at C20 ⊢
    clear hg
    go_enter Try.func14, Try.ntmps14
    go_wp2_with (go_at_call 20; refine (C20.out _ (HR.out.below hb0)).mono ?_; rintro e w1 ⟨rfl, hb1⟩)
    have hb10 := bthen hb0 hb1
    have HW1 : Hid (Below w.heap.size w (w1.alloc (Obj.cells #[.func (.func 27) #[] #[.pointer (some ⟨w.heap.size, 0, none⟩), .pointer (some ⟨w.heap.size + 1, 0, none⟩)]] 49))) := balloc hb10 _
    have hba : Below w1.heap.size w1 (w1.alloc (Obj.cells #[.func (.func 27) #[] #[.pointer (some ⟨w.heap.size, 0, none⟩), .pointer (some ⟨w.heap.size + 1, 0, none⟩)]] 49)) := balloc (Below.refl _ _) _
    have F0 := Lib.hid (cell_later hba (cell_later hb1 f0.out))
    have F1 := Lib.hid (cell_later hba (cell_later hb1 f1.out))
    have F2 : (w1.alloc (Obj.cells #[.func (.func 27) #[] #[.pointer (some ⟨w.heap.size, 0, none⟩), .pointer (some ⟨w.heap.size + 1, 0, none⟩)]] 49)).cell? ⟨w1.heap.size, 0, none⟩ = some (.func (.func 27) #[] #[.pointer (some ⟨w.heap.size, 0, none⟩), .pointer (some ⟨w.heap.size + 1, 0, none⟩)]) := by go_simp
    have HL : Hid (w.heap.size + 1 < w1.heap.size ∧ w1.heap.size < (w1.alloc (Obj.cells #[.func (.func 27) #[] #[.pointer (some ⟨w.heap.size, 0, none⟩), .pointer (some ⟨w.heap.size + 1, 0, none⟩)]] 49)).heap.size) := by
      have h2 := hb1.size
      simp at h2
      refine ⟨by omega, by simp⟩
    generalize w1.alloc (Obj.cells #[.func (.func 27) #[] #[.pointer (some ⟨w.heap.size, 0, none⟩), .pointer (some ⟨w.heap.size + 1, 0, none⟩)]] 49) = W1 at *
    clear hba hb10 hb1 hb0 f0 f1
    have CLO : Hid (∀ w2 v2, OwS w2 W1.drew.heap.size v2 l → Below W1.drew.heap.size W1.drew w2 → ∀ s ∈ l, ∀ w', w2.grownBy w' v2.ownBlock →
        Calls Try.prog 27 (#[s.v] ++ #[.pointer (some ⟨w.heap.size, 0, none⟩), .pointer (some ⟨w.heap.size + 1, 0, none⟩)]) w' (Ret (.bool (isP x k s)) w')) := by
      intro w2 v2 ho2 hb2 s _ w' hgw
      have h9 := HL.out
      refine clo27 s x k _ _ w' (gcell hgw ((hb2.cell (by show w.heap.size < W1.heap.size; omega)).trans F0.out) ?_) (gcell hgw ((hb2.cell (by show w.heap.size + 1 < W1.heap.size; omega)).trans F1.out) ?_)
      · intro e
        have h1 : W1.heap.size ≤ w.heap.size := (ho2.lt _ e.symm).1
        omega
      · intro e
        have h1 : W1.heap.size ≤ w.heap.size + 1 := (ho2.lt _ e.symm).1
        omega
    go_region_with (first
      | (go_at_call 22; refine (clone22 l A c _ (HR.out.below HW1.out.drew) (by omega)).mono ?_; rintro e w2 ⟨v2, rfl, ho2, hb2⟩; have f2 := cell_later hb2 F2)
      | (go_at_call 25; refine (delete25 l v2 _ 27 #[.pointer (some ⟨w.heap.size, 0, none⟩), .pointer (some ⟨w.heap.size + 1, 0, none⟩)] (isP x k) w2 ho2 hb2.size Try.call27 (CLO.out w2 v2 ho2 hb2)).mono ?_; rintro e w3 ⟨v3, rfl, ho3, hg3⟩))
    all_goals
      have hb3 : Below w.heap.size w w3 := bthen HW1.out.drew (RetG.below hb2 hb2.size ho2 hg3)
      have hq : ∀ k', k' < W1.heap.size → w3.heap[k']? = W1.heap[k']? := fun k' hk' => (RetG.below hb2 hb2.size ho2 hg3).block k' hk'
      have hw3 : W1.heap.size ≤ w3.heap.size := (RetG.below hb2 hb2.size ho2 hg3).size
      have h9 := HL.out
      have g0 : w3.cell? ⟨w.heap.size, 0, none⟩ = some (.int .u64 x) := (World.cell?_of_block (hq w.heap.size (by omega))).trans F0.out
      have g1 : w3.cell? ⟨w.heap.size + 1, 0, none⟩ = some (.int .u8 k) := (World.cell?_of_block (hq (w.heap.size + 1) (by omega))).trans F1.out
      have g2 : w3.cell? ⟨w1.heap.size, 0, none⟩ = _ := (World.cell?_of_block (hq w1.heap.size (by omega))).trans F2
      have H0 := Lib.hid g0
      have H1 := Lib.hid g1
      have H2 := Lib.hid g2
      have HB3 := Lib.hid hb3
      have HO3 := Lib.hid ho3
      clear g0 g1 g2 hq h9 ho2 hg3 F2 hb2 ho3
      go_wp2_with (first
        | (go_at_call 22; refine (clone22 l A c _ (HR.out.below HB3.out) (by omega)).mono ?_; rintro e w4 ⟨v4, rfl, ho4, hb4⟩)
        | (go_at_call 25; refine (delete25 l v4 _ 28 #[.pointer (some ⟨w1.heap.size, 0, none⟩)] (fun s => !isP x k s) w4 ho4 hb4.size Try.call28 ?_).mono ?_))
      · intro s _ w' hgw
        refine clo28 s x k _ _ _ w' (gcell hgw (cell_later hb4 H0.out) ?_) (gcell hgw (cell_later hb4 H1.out) ?_) (gcell hgw (cell_later hb4 H2.out) ?_)
        · intro e
          have h1 : w3.heap.size ≤ w.heap.size := (ho4.lt _ e.symm).1
          have h9 := HL.out
          omega
        · intro e
          have h1 : w3.heap.size ≤ w.heap.size + 1 := (ho4.lt _ e.symm).1
          have h9 := HL.out
          omega
        · intro e
          have h1 : w3.heap.size ≤ w1.heap.size := (ho4.lt _ e.symm).1
          have h9 := HL.out
          omega
      rintro e w5 ⟨v5, rfl, ho5, hg5⟩
      have HB5 := bthen HB3.out (RetG.below hb4 hb4.size ho4 hg5)
      have HL5 : Hid (OwS w5 w.heap.size v3 (takeL l x k)) := by
        show OwS _ _ _ _
        rw [E.out.1]
        exact (HO3.out.apart hb4 ho4 hg5).mono HW1.out.size
      have HR5 : Hid (OwS w5 w.heap.size v5 (takeO l x k)) := by
        show OwS _ _ _ _
        rw [E.out.2]
        exact ho5.mono HB3.out.size
      clear ho4 ho5 hg5 hb4
      go_wp2
      go_ret3
      exact ⟨_, _, rfl, HL5.out, HR5.out, HB5⟩
end Go.Proofs.Ytiapiajldchnmaa
