/- The walk of bits.Count, at bits of one word. -/
import Derived.Test.YtchbbldanmmpjaaDoorUD
namespace Go.Proofs.YtchbbldanmmpjaaDoor
open Go.RowKit
set_option linter.unusedVariables false
set_option linter.unusedSimpArgs false

set_option maxRecDepth 100000 in
set_option maxHeartbeats 8000000 in
theorem count33 (v : BitV) (b : BitB) (x : Int) (w : World) (P Q : Int → Prop) (h : RdB w v b) (hok : okB b = true) (hx : b.w = [x])
    (C : ∀ W, Calls Tryd.prog 63 #[.int .u64 x] W (RetI P W)) (hPQ : ∀ n, P n → Q (wrap64 n)) :
    Calls Tryd.prog 33 #[v.v] w (RetIE Q w) := by
  have CC : Hid (∀ W, Below w.heap.size w W → Calls Tryd.prog 62 #[v.v] W (Ret (.int .i64 (okE b)) W)) := fun W hW => check62 v b W (h.below hW)
  rw [okE_0 hok] at CC
  have CO := Lib.hid C
  have HPQ := Lib.hid hPQ
  clear C hPQ
  obtain ⟨bb, oo, hA, hbb, hcell⟩ := h.row.at_ (i := 0) (x := x) (by rw [hx]; rfl)
  have hm := h.m
  rw [hx] at hm
  have hbn := h.n
  obtain ⟨n, A, m, ca⟩ := v
  simp only at hbn hA hm
  subst hbn
  subst hA
  replace hm : m = 1 := hm
  subst hm
  unfold BitV.v at CC ⊢
  simp only at CC ⊢
  rw [Nat.add_zero] at hcell
  have HX := Lib.hid hcell
  clear h hx hok hcell
  have HB0 : Hid (Below w.heap.size w (w.alloc (.cells #[.int .i64 b.n, .slice (some ⟨bb, oo, none⟩) 1 ca] 24))) := balloc (Below.refl _ _) _
  go_enter Tryd.func33, Tryd.ntmps33
  go_wp2_with (go_at_call 62; refine (CC.out _ HB0.out).mono ?_)
  rintro e w1 ⟨rfl, hb1⟩
  obtain ⟨hc1, hf1, hs1⟩ := bcellB (B := w.heap.size + 1) hb1 (by simp)
  have HB1 := Lib.hid (bthen HB0.out hb1)
  clear hb1 CC
  go_wp2
  obtain ⟨wo, hwo⟩ : ∃ wo : World, wo = w1 := ⟨w1, rfl⟩
  go_loopw [5, 16] (fun c i wr => ((i = .int .i64 (0 : Int) ∧ c = .int .i64 (0 : Int)) ∨ (i = .int .i64 (1 : Int) ∧ ∃ n : Int, c = .int .i64 n ∧ Hid (Q n))) ∧ Hid (Below w.heap.size w wr)) (fun c i _ => 1 - (intOf i).toNat)
  case atStart => exact ⟨.inl ⟨rfl, rfl⟩, HB1.out⟩
  case round =>
    obtain ⟨⟨rfl, rfl⟩ | ⟨rfl, n, rfl, hP⟩, HBr⟩ := hrel
    · have c0 := cell_later HBr.out HX.out
      go_wp2_with (go_at_call 63; refine (CO.out _).mono ?_)
      rintro e w2 ⟨n, hP, rfl, hb⟩
      have HB2 := Lib.hid (bthen HBr.out hb)
      have HQ := Lib.hid (HPQ.out n hP)
      clear hb CO hP
      go_wp2
      go_roundw
      case rel => exact ⟨.inr ⟨rfl, _, rfl, HQ.out⟩, HB2.out⟩
      case measure => simp [intOf]
    · go_wp2
      go_ret2
      exact ⟨_, hP.out, rfl, HBr.out⟩
end Go.Proofs.YtchbbldanmmpjaaDoor
