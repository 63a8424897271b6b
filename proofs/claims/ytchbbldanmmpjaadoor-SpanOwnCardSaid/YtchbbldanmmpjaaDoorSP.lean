/- The walk of the reference's SameOne. -/
import Derived.Test.YtchbbldanmmpjaaDoorSO
namespace Go.Proofs.YtchbbldanmmpjaaDoor
open Go.RowKit
set_option linter.unusedVariables false
set_option linter.unusedSimpArgs false

def sameS (a b : SpanB) : Bool := (a.first == b.first) && ((a.pages == b.pages) && ((a.size == b.size) && (sameB a.al b.al && (sameB a.ma b.ma && (a.sw == b.sw)))))
theorem sameB_iff {a b : BitB} : sameB a b = true ↔ a = b := by unfold sameB; exact decide_eq_true_iff
theorem sameS_iff {a b : SpanB} : sameS a b = true ↔ a = b := by
  unfold sameS
  simp only [Bool.and_eq_true, beq_iff_eq, sameB_iff]
  cases a; cases b
  simp
set_option maxRecDepth 100000 in
set_option maxHeartbeats 8000000 in
theorem same18 (v u : SpanV) (a b : SpanB) (w : World) (ha : RdN w v a) (hb : RdN w u b) : Calls Tryd.prog 18 #[v.v, u.v] w (Ret (.bool (sameS a b)) w) := by
  have CA : Hid (∀ W, Below w.heap.size w W → Calls Tryd.prog 45 #[v.al.v, u.al.v] W (Ret (.bool (sameB a.al b.al)) W)) := fun W hW => same45 v.al u.al a.al b.al W (ha.al.below hW) (hb.al.below hW)
  have CM : Hid (∀ W, Below w.heap.size w W → Calls Tryd.prog 45 #[v.ma.v, u.ma.v] W (Ret (.bool (sameB a.ma b.ma)) W)) := fun W hW => same45 v.ma u.ma a.ma b.ma W (ha.ma.below hW) (hb.ma.below hW)
  obtain ⟨f, p, z, ⟨n, A, m, ca⟩, ⟨n', B, m', cb⟩, sw⟩ := v
  obtain ⟨rfl, rfl, rfl, rfl, _, _, _, _, _⟩ := ha
  obtain ⟨f2, p2, z2, ⟨n2, A2, m2, ca2⟩, ⟨n2', B2, m2', cb2⟩, sw2⟩ := u
  obtain ⟨rfl, rfl, rfl, rfl, _, _, _, _, _⟩ := hb
  unfold SpanV.v
  unfold BitV.v at CA CM
  simp only at CA CM ⊢
  have HB0 : Hid (Below w.heap.size w ((w.alloc (.cells #[.int .i64 a.first, .int .i64 a.pages, .int .i64 a.size, .int .i64 n, .slice A m ca, .int .i64 n', .slice B m' cb, .bool a.sw] 26)).alloc (.cells #[.int .i64 b.first, .int .i64 b.pages, .int .i64 b.size, .int .i64 n2, .slice A2 m2 ca2, .int .i64 n2', .slice B2 m2' cb2, .bool b.sw] 26))) := balloc (balloc (Below.refl _ _) _) _
  have E : Hid (sameS a b = ((a.first == b.first) && ((a.pages == b.pages) && ((a.size == b.size) && (sameB a.al b.al && (sameB a.ma b.ma && (a.sw == b.sw))))))) := Eq.refl (sameS a b)
  cases h1 : a.first == b.first
  · rw [h1, Bool.false_and] at E
    go_enter Tryd.func18, Tryd.ntmps18
    go_wp2
    go_ret
    rw [E.out]
    exact ⟨rfl, HB0.out⟩
  · cases h2 : a.pages == b.pages
    · rw [h1, h2, Bool.true_and, Bool.false_and] at E
      go_enter Tryd.func18, Tryd.ntmps18
      go_wp2
      go_ret
      rw [E.out]
      exact ⟨rfl, HB0.out⟩
    · cases h3 : a.size == b.size
      · rw [h1, h2, h3, Bool.true_and, Bool.true_and, Bool.false_and] at E
        go_enter Tryd.func18, Tryd.ntmps18
        go_wp2
        go_ret
        rw [E.out]
        exact ⟨rfl, HB0.out⟩
      · rw [h1, h2, h3, Bool.true_and, Bool.true_and, Bool.true_and] at E
        go_enter Tryd.func18, Tryd.ntmps18
        go_wp2_with fail
        refine (CA.out _ HB0.out).mono ?_
        rintro e w1 ⟨rfl, hb1⟩
        obtain ⟨hc1, hf1, hs1⟩ := bcellB (B := w.heap.size + 2) hb1 (by simp)
        have HB1 := Lib.hid (bthen HB0.out hb1)
        clear hb1 CA
        cases h4 : sameB a.al b.al
        · rw [h4, Bool.false_and] at E
          clear h4
          go_wp2
          go_ret
          rw [E.out]
          exact ⟨rfl, HB1.out⟩
        · rw [h4, Bool.true_and] at E
          clear h4
          go_wp2_with fail
          refine (CM.out _ HB1.out).mono ?_
          rintro e w2 ⟨rfl, hb2⟩
          obtain ⟨hc2, hf2, hs2⟩ := bcellB hb2 hs1
          have HB2 := Lib.hid (bthen HB1.out hb2)
          clear hb2 CM
          cases h5 : sameB a.ma b.ma
          · rw [h5, Bool.false_and] at E
            clear h5
            go_wp2
            go_ret
            rw [E.out]
            exact ⟨rfl, HB2.out⟩
          · rw [h5, Bool.true_and] at E
            clear h5
            go_wp2
            go_ret
            rw [E.out]
            exact ⟨rfl, HB2.out⟩
end Go.Proofs.YtchbbldanmmpjaaDoor
