/- The walk of the reference's Drop. -/
import Derived.Test.YtchbbldanmmpjaaDoorUG
namespace Go.Proofs.YtchbbldanmmpjaaDoor
open Go.RowKit
set_option linter.unusedVariables false
set_option linter.unusedSimpArgs false

theorem filter_snoc {α : Type} {p : α → Bool} {l : List α} {k : Nat} {s : α} (hs : l[k]? = some s) : (l.take (k + 1)).filter p = (l.take k).filter p ++ (if p s then [s] else []) := by
  have hk := (List.getElem?_eq_some_iff.1 hs).1
  rw [List.take_succ_eq_append_getElem hk, List.filter_append, (List.getElem?_eq_some_iff.1 hs).2]
  cases hp : p s <;> simp [hp]
/-- What is appended behind a row of spans. -/
theorem OwL.snoc {w w' : World} {base : Nat} {v v' : Value} {vs : List SpanV} {l : List SpanB} {x : SpanV} {s : SpanB} (ho : OwS w base v vs) (hN : AllN w base vs l) (hx : OwN w base x s) (h1 : OwS w' base v' (vs ++ [x])) (hg : w.grownBy w' v.ownBlock) : OwL w' base v' (l ++ [s]) :=
  ⟨_, h1, (hN.append (AllN.one hx)).keep ho hg⟩
set_option maxRecDepth 100000 in
set_option maxHeartbeats 8000000 in
theorem drop29 (A : Option Addr) (c : Nat) (vs : List SpanV) (l : List SpanB) (f : Int) (w : World) (h : RdL w A vs l) : Calls Tryd.prog 29 #[.slice A l.length c, .int .i64 f] w (RetLE (dropL l f) (dropE l f) w) := by
  have hl := h.len
  have CC : Hid (Calls Tryd.prog 20 #[.slice A l.length c] w (Ret (.int .i64 (chkE l)) w)) := check20 A c vs l w h
  by_cases hok : okL l = true
  · rw [show chkE l = 0 from by simp [chkE, hok]] at CC
    have HZ := Lib.hid (okL_small hok)
    have E1 : Hid (dropL l f = l.filter (fun s => !(s.first == f))) := by show _ = _; unfold dropL; rw [if_pos hok]
    have EE : Hid (dropE l f = if (l.filter (fun s => !(s.first == f))).length = l.length then 3 else 0) := by show _ = _; unfold dropE; rw [if_pos hok]
    have HLEN := Lib.hid (okL_len hok)
    have H := Lib.hid h
    clear h hok
    go_enter Tryd.func29, Tryd.ntmps29
    go_wp2_with (go_at_call 20; refine CC.out.mono ?_)
    rintro e w1 ⟨rfl, hb1⟩
    have HB1 := Lib.hid hb1
    clear hb1
    go_wp2
    obtain ⟨wo, hwo⟩ : ∃ wo : World, wo = w1 := ⟨w1, rfl⟩
    go_loopw [6, 14] (fun v3 i wr => ∃ k : Nat, k ≤ l.length ∧ i = .int .i64 k ∧ Hid (OwL wr w.heap.size v3 ((l.take k).filter (fun s => !(s.first == f)))) ∧ Hid (Below w.heap.size w wr)) (fun v3 i _ => l.length - (intOf i).toNat)
    case atStart => exact ⟨0, Nat.zero_le _, rfl, OwL.nil_ _ _, HB1.out⟩
    case round =>
      obtain ⟨k, hk, rfl, HO, HBr⟩ := hrel
      by_cases hlt : k < l.length
      · have hs : l[k]? = some l[k] := List.getElem?_eq_getElem hlt
        generalize l[k] = s at hs
        obtain ⟨v, bk, o, hv, hR, hA, hbk, c0, c1, c2, c3, c4, c5, c6, c7⟩ := H.out.at_ hs
        obtain ⟨hcr, hfr⟩ := bcell HBr.out
        have CO : Hid (∀ W, Below w.heap.size w W → Calls Tryd.prog 31 #[v.v] W (RetN s W)) := fun W hW => one31 v s W (hR.below hW) (smallS_at HZ.out hs)
        have HT := Lib.hid (filter_snoc (p := fun s => !(s.first == f)) hs)
        have h1 := hR.first
        obtain ⟨f', p, z, ⟨n, A1, m, ca⟩, ⟨n', A2, m', cb⟩, sw⟩ := v
        unfold SpanV.v at CO
        simp only at c0 c1 c2 c3 c4 c5 c6 c7 CO h1
        subst hA
        subst h1
        clear hR hv hs
        have HB1 := Lib.hid (balloc HBr.out (.cells #[.int .i64 s.first, .int .i64 p, .int .i64 z, .int .i64 n, .slice A1 m ca, .int .i64 n', .slice A2 m' cb, .bool sw] 26))
        by_cases hf : s.first = f
        · have HF : Hid ((l.take (k + 1)).filter (fun s => !(s.first == f)) = (l.take k).filter (fun s => !(s.first == f))) := by
            show _ = _
            rw [HT.out, hf]
            simp
          have e1 : (s.first != f) = false := by simpa using hf
          clear hf
          have HO2 := Lib.hid (HO.out.below (balloc (Below.refl wr.heap.size wr) (.cells #[.int .i64 s.first, .int .i64 p, .int .i64 z, .int .i64 n, .slice A1 m ca, .int .i64 n', .slice A2 m' cb, .bool sw] 26)))
          go_wp2
          go_roundw
          case rel => exact ⟨k + 1, by omega, by go_num, (by rw [HF.out]; exact HO2.out), HB1.out⟩
          case measure => simp [intOf]; omega
        · have HF : Hid ((l.take (k + 1)).filter (fun s => !(s.first == f)) = (l.take k).filter (fun s => !(s.first == f)) ++ [s]) := by
            show _ = _
            rw [HT.out, beq_eq_false_iff_ne.2 hf]
            simp
          have e1 : (s.first != f) = true := by rw [bne_iff_ne]; exact hf
          clear hf
          go_wp2_with (go_at_call 31; refine (CO.out _ HB1.out).mono ?_)
          rintro e w2 ⟨x, rfl, hx, hb2⟩
          obtain ⟨vs', hO, hN⟩ := HO.out
          have HB2 := Lib.hid (bthen HB1.out hb2)
          have hO2 := (hO.below (balloc (Below.refl _ _) _)).below hb2
          have hN2 := (hN.below (balloc (Below.refl _ _) _)).below hb2
          have hx2 := hx.mono (base' := w.heap.size) HB1.out.size
          have HO3 := Lib.hid (hO2.below (balloc (Below.refl w2.heap.size w2) (.cells #[.int .i64 x.first, .int .i64 x.pages, .int .i64 x.size, .int .i64 x.al.n, .slice x.al.A x.al.m x.al.c, .int .i64 x.ma.n, .slice x.ma.A x.ma.m x.ma.c, .bool x.sw] 26)))
          have HN3 := Lib.hid (hN2.below (balloc (Below.refl w2.heap.size w2) (.cells #[.int .i64 x.first, .int .i64 x.pages, .int .i64 x.size, .int .i64 x.al.n, .slice x.al.A x.al.m x.al.c, .int .i64 x.ma.n, .slice x.ma.A x.ma.m x.ma.c, .bool x.sw] 26)))
          have HX3 := Lib.hid (hx2.below (balloc (Below.refl w2.heap.size w2) (.cells #[.int .i64 x.first, .int .i64 x.pages, .int .i64 x.size, .int .i64 x.al.n, .slice x.al.A x.al.m x.al.c, .int .i64 x.ma.n, .slice x.ma.A x.ma.m x.ma.c, .bool x.sw] 26)))
          have HB3 := Lib.hid (balloc HB2.out (.cells #[.int .i64 x.first, .int .i64 x.pages, .int .i64 x.size, .int .i64 x.al.n, .slice x.al.A x.al.m x.al.c, .int .i64 x.ma.n, .slice x.ma.A x.ma.m x.ma.c, .bool x.sw] 26))
          have HX := Lib.hid (RdS.made w2 x)
          have HL := Lib.hid hN.1
          clear hO hN hO2 hN2 hx hx2 hb2
          unfold SpanV.v
          go_wp2_with (at_builtin; refine wpl_appS rfl (.tmp 22) (.tmp 25) rfl w.heap.size _ vs' [x] rfl HO3.out (some ⟨w2.heap.size, 0, none⟩) 1 rfl HX.out ?h1 HB3.out.size ?_)
          case h1 =>
            have h1 := HLEN.out
            have h2 := HL.out
            have h3 := List.length_filter_le (fun s : SpanB => !(s.first == f)) (l.take k)
            rw [List.length_take] at h3
            simp only [List.length_singleton]
            omega
          intro v' w4 ho hg
          have HB4 := Lib.hid (bgrown HB3.out hg (fun k' hk' => (HO3.out.lt k' hk').1))
          have HO4 := Lib.hid (OwL.snoc HO3.out HN3.out HX3.out ho hg)
          clear ho hg
          go_wp2
          go_roundw
          case rel => exact ⟨k + 1, by omega, by go_num, (by rw [HF.out]; exact HO4.out), HB4.out⟩
          case measure => simp [intOf]; omega
      · obtain rfl : k = l.length := by omega
        have ho' := HO.out
        rw [List.take_length] at ho'
        have HWF := Lib.hid H.out.wf
        obtain ⟨A3, c3, us, rfl, _, _⟩ := ho'.shape (fun s hs => HWF.out s ((List.mem_filter.1 hs).1))
        have HO' := Lib.hid ho'
        clear ho' HO
        by_cases hlen : (l.filter (fun s => !(s.first == f))).length = l.length
        · have E2 : Hid (dropE l f = 3) := by show _ = _; rw [EE.out, if_pos hlen]
          rw [hlen] at HO' ⊢
          clear hlen
          go_wp2
          go_ret2
          rw [E2.out]
          exact ⟨_, rfl, by rw [E1.out]; exact HO'.out, HBr.out⟩
        · have E2 : Hid (dropE l f = 0) := by show _ = _; rw [EE.out, if_neg hlen]
          have e1 : ((l.filter (fun s => !(s.first == f))).length == l.length) = false := by simpa using hlen
          have e2 : ((((l.filter (fun s => !(s.first == f))).length : Nat) : Int) == ((l.length : Nat) : Int)) = false := by rw [beq_eq_false_iff_ne]; omega
          generalize (l.filter (fun s => !(s.first == f))).length = q at *
          clear hlen
          go_wp2
          go_ret2
          rw [E2.out]
          exact ⟨_, rfl, by rw [E1.out]; exact HO'.out, HBr.out⟩
  · have E1 : Hid (dropL l f = []) := by show _ = _; unfold dropL; rw [if_neg hok]
    have E2 : Hid (dropE l f = 2) := by show _ = _; unfold dropE; rw [if_neg hok]
    rw [show chkE l = 2 from by simp [chkE, hok]] at CC
    clear h hok
    go_enter Tryd.func29, Tryd.ntmps29
    go_wp2_with (go_at_call 20; refine CC.out.mono ?_)
    rintro e w1 ⟨rfl, hb1⟩
    have HB1 := Lib.hid hb1
    clear hb1
    go_wp2
    go_ret2
    rw [E2.out]
    exact ⟨_, rfl, by rw [E1.out]; exact (OwL.nil_ _ _), HB1.out⟩
end Go.Proofs.YtchbbldanmmpjaaDoor
