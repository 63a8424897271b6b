/- The walk of the reference's Copy of spans. -/
import Derived.Test.YtchbbldanmmpjaaDoorSI
namespace Go.Proofs.YtchbbldanmmpjaaDoor
open Go.RowKit
set_option linter.unusedVariables false
set_option linter.unusedSimpArgs false

theorem RdS.made (w : World) (x : SpanV) : RdS (w.alloc (.cells #[.int .i64 x.first, .int .i64 x.pages, .int .i64 x.size, .int .i64 x.al.n, .slice x.al.A x.al.m x.al.c, .int .i64 x.ma.n, .slice x.ma.A x.ma.m x.ma.c, .bool x.sw] 26)) (some ⟨w.heap.size, 0, none⟩) [x] := by
  have h := World.ownsRow_lit (base := w.heap.size) (e := 26) (size := 8) w #[.int .i64 x.first, .int .i64 x.pages, .int .i64 x.size, .int .i64 x.al.n, .slice x.al.A x.al.m x.al.c, .int .i64 x.ma.n, .slice x.ma.A x.ma.m x.ma.c, .bool x.sw] 1 (Nat.le_refl _) (by simp [maxLen]) rfl
  exact own_rd h
theorem smallS_at {l : List SpanB} (h : smallL l) {i : Nat} {s : SpanB} (hs : l[i]? = some s) : smallS s := h.2 s (List.mem_of_getElem? hs)

set_option maxRecDepth 100000 in
set_option maxHeartbeats 8000000 in
theorem copy25 (A : Option Addr) (c : Nat) (vs : List SpanV) (l : List SpanB) (w : World) (h : RdL w A vs l) (hz : smallL l) : Calls Tryd.prog 25 #[.slice A l.length c] w (RetL l w) := by
  have hl := h.len
  have H := Lib.hid h
  have HZ := Lib.hid hz
  clear h hz
  go_enter Tryd.func25, Tryd.ntmps25
  go_wp2
  obtain ⟨wo, hwo⟩ : ∃ wo : World, wo = w := ⟨w, rfl⟩
  go_loopw [3, 8] (fun v3 i wr => ∃ k : Nat, k ≤ l.length ∧ i = .int .i64 k ∧ Hid (OwL wr w.heap.size v3 (l.take k)) ∧ Hid (Below w.heap.size w wr)) (fun v3 i _ => l.length - (intOf i).toNat)
  case atStart => exact ⟨0, Nat.zero_le _, rfl, OwL.nil_ _ _, Below.refl _ _⟩
  case round =>
    obtain ⟨k, hk, rfl, HO, HBr⟩ := hrel
    by_cases hlt : k < l.length
    · have hs : l[k]? = some l[k] := List.getElem?_eq_getElem hlt
      have hts : l.take (k + 1) = l.take k ++ [l[k]] := List.take_succ_eq_append_getElem hlt
      generalize l[k] = s at hs hts
      obtain ⟨v, bk, o, hv, hR, hA, hbk, c0, c1, c2, c3, c4, c5, c6, c7⟩ := H.out.at_ hs
      replace c0 := cell_later HBr.out c0
      replace c1 := cell_later HBr.out c1
      replace c2 := cell_later HBr.out c2
      replace c3 := cell_later HBr.out c3
      replace c4 := cell_later HBr.out c4
      replace c5 := cell_later HBr.out c5
      replace c6 := cell_later HBr.out c6
      replace c7 := cell_later HBr.out c7
      have CO : Hid (∀ W, Below w.heap.size w W → Calls Tryd.prog 31 #[v.v] W (RetN s W)) := fun W hW => one31 v s W (hR.below hW) (smallS_at HZ.out hs)
      obtain ⟨f, p, z, ⟨n, A1, m, ca⟩, ⟨n', A2, m', cb⟩, sw⟩ := v
      unfold SpanV.v at CO
      simp only at c0 c1 c2 c3 c4 c5 c6 c7 CO
      subst hA
      have HT := Lib.hid hts
      clear hR hv hs hts
      have HB1 := Lib.hid (balloc HBr.out (.cells #[.int .i64 f, .int .i64 p, .int .i64 z, .int .i64 n, .slice A1 m ca, .int .i64 n', .slice A2 m' cb, .bool sw] 26))
      go_wp2_with (go_at_call 31; refine (CO.out _ HB1.out).mono ?_)
      rintro e w2 ⟨x, rfl, hx, hb2⟩
      obtain ⟨vs', hO, hN⟩ := HO.out
      have HB2 := Lib.hid (bthen HB1.out hb2)
      have hO2 := (hO.below (balloc (Below.refl _ _) _)).below hb2
      have hN2 := (hN.below (balloc (Below.refl _ _) _)).below hb2
      have hx2 := hx.mono (base' := w.heap.size) HB1.out.size
      have HO3 := Lib.hid (hO2.below (balloc (Below.refl w2.heap.size w2) (.cells #[.int .i64 x.first, .int .i64 x.pages, .int .i64 x.size, .int .i64 x.al.n, .slice x.al.A x.al.m x.al.c, .int .i64 x.ma.n, .slice x.ma.A x.ma.m x.ma.c, .bool x.sw] 26)))
      have HN3 := Lib.hid ((hN2.append (AllN.one hx2)).below (balloc (Below.refl w2.heap.size w2) (.cells #[.int .i64 x.first, .int .i64 x.pages, .int .i64 x.size, .int .i64 x.al.n, .slice x.al.A x.al.m x.al.c, .int .i64 x.ma.n, .slice x.ma.A x.ma.m x.ma.c, .bool x.sw] 26)))
      have HB3 := Lib.hid (balloc HB2.out (.cells #[.int .i64 x.first, .int .i64 x.pages, .int .i64 x.size, .int .i64 x.al.n, .slice x.al.A x.al.m x.al.c, .int .i64 x.ma.n, .slice x.ma.A x.ma.m x.ma.c, .bool x.sw] 26))
      have HX := Lib.hid (RdS.made w2 x)
      have HL := Lib.hid hN.1
      clear hO hN hO2 hN2 hx hx2 hb2
      unfold SpanV.v
      go_wp2_with (at_builtin; refine wpl_appS rfl (.tmp 12) (.tmp 15) rfl w.heap.size _ vs' [x] rfl HO3.out (some ⟨w2.heap.size, 0, none⟩) 1 rfl HX.out ?h1 HB3.out.size ?_)
      case h1 =>
        have h1 := HZ.out.1
        have h2 := HL.out
        rw [List.length_take] at h2
        simp only [List.length_singleton]
        omega
      intro v' w4 ho hg
      have HB4 := Lib.hid (bgrown HB3.out hg (fun k' hk' => (HO3.out.lt k' hk').1))
      have HO4 : Hid (OwL w4 w.heap.size v' (l.take (k + 1))) := by
        show OwL _ _ _ _
        rw [HT.out]
        exact ⟨_, ho, HN3.out.keep HO3.out hg⟩
      clear ho hg
      go_wp2
      go_roundw
      case rel => exact ⟨k + 1, by omega, by go_num, HO4.out, HB4.out⟩
      case measure => simp [intOf]; omega
    · obtain rfl : k = l.length := by omega
      have ho' := HO.out
      rw [List.take_length] at ho'
      have HO' := Lib.hid ho'
      clear ho' HO
      go_wp2
      go_ret
      exact ⟨_, rfl, HO'.out, HBr.out⟩
end Go.Proofs.YtchbbldanmmpjaaDoor
