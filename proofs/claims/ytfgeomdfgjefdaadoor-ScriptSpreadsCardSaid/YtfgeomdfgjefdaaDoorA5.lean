/- The walks of the two Fold. -/
import Derived.Test.YtfgeomdfgjefdaaDoorA4
namespace Go.Proofs.YtfgeomdfgjefdaaDoor
open Go.RowKit
set_option linter.unusedVariables false
set_option linter.unusedSimpArgs false

theorem wrap_in {x : Int} (h : -9223372036854775808 ≤ x ∧ x ≤ 9223372036854775807) : IntKind.i64.wrap x = x := by rw [IntKind.wrap_i64]; omega
abbrev evCells (s : Ev) : Array Value := #[.bool s.thr, .int .i64 s.who, .int .u8 s.kind, .int .i64 s.tw, .int .i64 s.times]
theorem VarE.set_ne {w : World} {b : Nat} {e : Ev} (h : VarE w b e) {p : Addr} (hp : p.block ≠ b) (u : Value) : VarE (w.setCell p u) b e := by
  have hn : ∀ j, p ≠ ⟨b, j, none⟩ := fun j e => hp (by rw [e])
  exact ⟨(World.cell?_setCell_other (h := hn 0) ..).trans h.c0, (World.cell?_setCell_other (h := hn 1) ..).trans h.c1, (World.cell?_setCell_other (h := hn 2) ..).trans h.c2, (World.cell?_setCell_other (h := hn 3) ..).trans h.c3, (World.cell?_setCell_other (h := hn 4) ..).trans h.c4, (World.frozen?_setCell _ _ _ _).trans h.fz⟩
theorem VarE.set_times {w : World} {b : Nat} {e : Ev} (h : VarE w b e) (t : Int) : VarE (w.setCell ⟨b, 4, none⟩ (.int .i64 t)) b { e with times := t } := by
  have hn : ∀ j, j ≠ 4 → (⟨b, 4, none⟩ : Addr) ≠ ⟨b, j, none⟩ := fun j hj e => hj (by injection e with _ e2; exact e2.symm)
  exact ⟨(World.cell?_setCell_other (h := hn 0 (by omega)) ..).trans h.c0, (World.cell?_setCell_other (h := hn 1 (by omega)) ..).trans h.c1, (World.cell?_setCell_other (h := hn 2 (by omega)) ..).trans h.c2, (World.cell?_setCell_other (h := hn 3 (by omega)) ..).trans h.c3, World.cell?_setCell_same _ _ _ h.c4, (World.frozen?_setCell _ _ _ _).trans h.fz⟩
theorem OwS.set_other {w : World} {base : Nat} {v : Value} {l : List Ev} (h : OwS w base v l) {p : Addr} (hp : v.ownBlock ≠ some p.block) (u : Value) : OwS (w.setCell p u) base v l := ownsRow_setCell_other h hp u
set_option maxRecDepth 100000 in
set_option maxHeartbeats 32000000 in
theorem fold14 (l : List Ev) (A : Option Addr) (c : Nat) (w : World) (hr : RdS w A l) : Calls Tryd.prog 14 #[.slice A l.length c] w (RetSE (foldP l).1 (foldP l).2 w) := by
  have hl := hr.len
  have HC := Lib.hid (check20 l A c w hr)
  have HR := Lib.hid hr
  clear hr
  by_cases hok : okL l
  · rw [show chkE l = 0 from if_pos hok] at HC
    have HP : Hid (foldP l = (foldN l, 0)) := if_pos hok
    have HOK := Lib.hid hok
    have hl2 : l.length ≤ 4096 := hok.1
    clear hok
    go_enter Tryd.func14, Tryd.ntmps14
    go_wp2_with (go_at_call 20; refine HC.out.mono ?_)
    rintro e w1 ⟨rfl, hb1⟩
    have HB1 := Lib.hid hb1
    clear hb1 HC
    go_wp2
    go_loopw [5, 17] (fun p i wr => ∃ (k : Nat), i = .int .i64 k ∧ k ≤ l.length ∧ Hid (OwS wr w.heap.size p (foldN (l.take k))) ∧ Hid (Below w.heap.size w wr)) (fun _ i _ => l.length - (intOf i).toNat)
    case atStart => exact ⟨0, rfl, Nat.zero_le _, OwS.nil_ _ _, HB1.out⟩
    case round =>
      obtain ⟨k, rfl, hk, HO, HB⟩ := hrel
      have HF := Lib.hid (foldN_ok HOK.out k)
      have hfl := HF.out.2
      have hbs := HB.out.size
      by_cases hlt : k < l.length
      · have hs : l[k]? = some l[k] := List.getElem?_eq_getElem hlt
        generalize l[k] = s at hs
        obtain ⟨b, o, rfl, hB, c0, c1, c2, c3, c4⟩ := (HR.out.below HB.out).at_ hs
        have HN := Lib.hid (foldN_succ hs)
        have hsk := HOK.out.2 s (List.mem_of_getElem? hs)
        have hs1 := hsk.1
        have hs2 := hsk.2.1
        have HV := Lib.hid (VarE.made wr s)
        have HBA : Hid (Below wr.heap.size wr (wr.alloc (.cells #[.bool s.thr, .int .i64 s.who, .int .u8 s.kind, .int .i64 s.tw, .int .i64 s.times] 41))) := balloc (Below.refl _ _) _
        generalize foldN (l.take k) = out at *
        obtain ⟨P, cp, rfl, hcp, hrp⟩ := HO.out.shape
        clear hs hsk hrp
        go_upto_region 9 with fail
        have HO2 := Lib.hid (HO.out.below HBA.out)
        generalize hW : wr.alloc (.cells #[.bool s.thr, .int .i64 s.who, .int .u8 s.kind, .int .i64 s.tw, .int .i64 s.times] 41) = wa at *
        clear hW c0 c1 c2 c3 c4 hB
        have HB5 := Lib.hid (bthen HB.out HBA.out)
        rcases nil_or_snoc out with rfl | ⟨r, x, rfl⟩
        · rw [addE_nil] at HN
          simp only [List.length_nil] at *
          refine region_up (by kernel_rfl) (by kernel_rfl) ?_
          iterate 3
            go_big_quiet_want
            apply Exists.intro
            refine ⟨fun W hW => ?_, ?_⟩
            · go_simp
              all_goals exact rfl
            simp only [Act.put, List.setIfInBounds_toArray, List.set_cons_succ, List.set_cons_zero]
            go_big_quiet_on
          iterate 6 go_big_quiet_skip
          go_big_quiet_want
          apply Exists.intro
          refine ⟨fun W hW => ?_, ?_⟩
          · go_simp
            all_goals exact rfl
          simp only [Act.put, List.setIfInBounds_toArray, List.set_cons_succ, List.set_cons_zero]
          go_big_quiet_on
          refine wpQuiet_nil ?_
          intro W hW
          have HV6 := Lib.hid (HV.out.below hW)
          have HB6 := Lib.hid (bthen HB5.out hW)
          have HO6 := Lib.hid (HO2.out.below hW)
          clear hW
          obtain ⟨k0, k1, k2, k3, k4, kz⟩ := HV6.out
          have mk := World.block_lt_of_cell? _ _ k0
          have HOA : Hid (OwS (W.alloc (.cells #[.bool s.thr, .int .i64 s.who, .int .u8 s.kind, .int .i64 s.tw, .int .i64 s.times] 41)) w.heap.size (.slice P 0 cp) []) := OwS.below HO6.out (balloc (Below.refl _ _) _)
          have HXA := Lib.hid (rd_ev W { s with times := s.times })
          have HBA : Hid (Below w.heap.size w (W.alloc (.cells #[.bool s.thr, .int .i64 s.who, .int .u8 s.kind, .int .i64 s.tw, .int .i64 s.times] 41))) := balloc HB6.out _
          have HZA := Lib.hid HBA.out.size
          have HYA : Hid ((([] : List Ev).length + [({ s with times := s.times } : Ev)].length) * 40 ≤ 140737488355328) := by show _ ≤ _; simp
          go_wp2_with (at_builtin; refine wpl_appS rfl (.tmp 60) (.tmp 62) rfl w.heap.size _ [] [{ s with times := s.times }] rfl HOA.out (some ⟨W.heap.size, 0, none⟩) 1 rfl HXA.out HYA.out HZA.out ?_)
          intro v' w9 ho hg
          have HB9 := Lib.hid (bownS HBA.out hg HOA.out)
          have HO9 := Lib.hid ho
          clear ho hg
          go_wp2
          go_roundw
          case rel => exact ⟨k + 1, by go_num, by omega, by rw [HN.out]; show OwS _ _ _ _; simpa using HO9.out, HB9.out⟩
          case measure => simp [intOf]; omega
        · have hx := HF.out.1 x (by simp)
          have hx1 := hx.1
          have hx2 := hx.2.1
          rw [addE_snoc] at HN
          rw [List.length_append, List.length_singleton] at *
          obtain ⟨g, rfl, hgb, hgl, hgc, -, -, -, -, -, -⟩ := HO.out.last rfl
          have hne : ¬ g = wr.heap.size := by omega
          have hne' : ¬ wr.heap.size = g := by omega
          have HNB : Hid ((Value.slice (some ⟨g, 0, none⟩) (r.length + 1) cp).ownBlock ≠ some wr.heap.size) := fun e => by
            injection e with e
            exact hne e
          generalize wr.heap.size = be at *
          have hn1 : (((r.length + 1 : Nat) : Int) - 1) = (r.length : Int) := by omega
          have hn2 : (r.length : Int) < ((r.length + 1 : Nat) : Int) := by omega
          have hn3 : r.length < r.length + 1 := by omega
          have hn0 : (0 : Int) ≤ (r.length : Int) := by omega
          have hn00 : ¬ (r.length : Int) < 0 := by omega
          have hn01 : decide ((r.length : Int) < 0) = false := decide_eq_false hn00
          generalize hnn : r.length + 1 = n at *
          have HNN := Lib.hid hnn.symm
          clear hnn
          have HLK := Lib.hid (fun W => like29 x s W)
          unfold Ev.v at HLK
          clear hx
          obtain ⟨g1, e1, _, _, _, c0, c1, c2, c3, c4, cf⟩ := HO2.out.last HNN.out
          injection e1 with e1
          injection e1 with e1 _
          subst e1
          have C0 := Lib.hid c0
          have C1 := Lib.hid c1
          have C2 := Lib.hid c2
          have C3 := Lib.hid c3
          have C4 := Lib.hid c4
          have V0 := Lib.hid HV.out.c0
          have V1 := Lib.hid HV.out.c1
          have V2 := Lib.hid HV.out.c2
          have V3 := Lib.hid HV.out.c3
          have V4 := Lib.hid HV.out.c4
          clear c0 c1 c2 c3 c4 cf
          cases hlike : likeE x s
          · rw [if_neg (by simp [hlike])] at HN
            simp only [hlike] at HLK
            clear hlike
            refine region_up (by kernel_rfl) (by kernel_rfl) ?_
            iterate 8
              go_big_quiet_want
              apply Exists.intro
              refine ⟨fun W hW => ?_, ?_⟩
              · have g0 := cell_later hW C0.out
                have g1 := cell_later hW C1.out
                have g2 := cell_later hW C2.out
                have g3 := cell_later hW C3.out
                have g4 := cell_later hW C4.out
                have g5 := cell_later hW V0.out
                have g6 := cell_later hW V1.out
                have g7 := cell_later hW V2.out
                have g8 := cell_later hW V3.out
                have g9 := cell_later hW V4.out
                go_simp
                all_goals exact rfl
              simp only [Act.put, List.setIfInBounds_toArray, List.set_cons_succ, List.set_cons_zero]
              go_big_quiet_on
            go_big_quiet_want
            apply Exists.intro
            refine ⟨fun W hW => ?_, ?_⟩
            · have g0 := cell_later hW C0.out
              have g1 := cell_later hW C1.out
              have g2 := cell_later hW C2.out
              have g3 := cell_later hW C3.out
              have g4 := cell_later hW C4.out
              have g5 := cell_later hW V0.out
              have g6 := cell_later hW V1.out
              have g7 := cell_later hW V2.out
              have g8 := cell_later hW V3.out
              have g9 := cell_later hW V4.out
              go_simp
              exact call_up hW (HLK.out W)
            simp only [Act.put, List.setIfInBounds_toArray, List.set_cons_succ, List.set_cons_zero]
            go_big_quiet_on
            go_big_quiet_want
            apply Exists.intro
            refine ⟨fun W hW => ?_, ?_⟩
            · have g0 := cell_later hW C0.out
              have g1 := cell_later hW C1.out
              have g2 := cell_later hW C2.out
              have g3 := cell_later hW C3.out
              have g4 := cell_later hW C4.out
              have g5 := cell_later hW V0.out
              have g6 := cell_later hW V1.out
              have g7 := cell_later hW V2.out
              have g8 := cell_later hW V3.out
              have g9 := cell_later hW V4.out
              go_simp
              all_goals exact rfl
            simp only [Act.put, List.setIfInBounds_toArray, List.set_cons_succ, List.set_cons_zero]
            go_big_quiet_on
            refine wpQuiet_nil ?_
            intro W hW
            have HV6 := Lib.hid (HV.out.below hW)
            have HB6 := Lib.hid (bthen HB5.out hW)
            have HO6 := Lib.hid (HO2.out.below hW)
            clear hW HLK
            obtain ⟨k0, k1, k2, k3, k4, kz⟩ := HV6.out
            have mk := World.block_lt_of_cell? _ _ k0
            have HOA : Hid (OwS (W.alloc (.cells #[.bool s.thr, .int .i64 s.who, .int .u8 s.kind, .int .i64 s.tw, .int .i64 s.times] 41)) w.heap.size (.slice (some ⟨g, 0, none⟩) n cp) (r ++ [x])) := OwS.below HO6.out (balloc (Below.refl _ _) _)
            have HXA := Lib.hid (rd_ev W { s with times := s.times })
            have HBA : Hid (Below w.heap.size w (W.alloc (.cells #[.bool s.thr, .int .i64 s.who, .int .u8 s.kind, .int .i64 s.tw, .int .i64 s.times] 41))) := balloc HB6.out _
            have HZA := Lib.hid HBA.out.size
            have HYA : Hid ((((r ++ [x]) : List Ev).length + [({ s with times := s.times } : Ev)].length) * 40 ≤ 140737488355328) := by show _ ≤ _; have := HNN.out; simp; omega
            go_wp2_with (at_builtin; refine wpl_appS rfl (.tmp 60) (.tmp 62) rfl w.heap.size _ (r ++ [x]) [{ s with times := s.times }] rfl HOA.out (some ⟨W.heap.size, 0, none⟩) 1 rfl HXA.out HYA.out HZA.out ?_)
            intro v' w9 ho hg
            have HB9 := Lib.hid (bownS HBA.out hg HOA.out)
            have HO9 := Lib.hid ho
            clear ho hg
            go_wp2
            go_roundw
            case rel => exact ⟨k + 1, by go_num, by omega, by rw [HN.out]; show OwS _ _ _ _; simpa using HO9.out, HB9.out⟩
            case measure => simp [intOf]; omega
          · rw [if_pos hlike] at HN
            simp only [hlike] at HLK
            clear hlike
            refine region_up (by kernel_rfl) (by kernel_rfl) ?_
            iterate 8
              go_big_quiet_want
              apply Exists.intro
              refine ⟨fun W hW => ?_, ?_⟩
              · have g0 := cell_later hW C0.out
                have g1 := cell_later hW C1.out
                have g2 := cell_later hW C2.out
                have g3 := cell_later hW C3.out
                have g4 := cell_later hW C4.out
                have g5 := cell_later hW V0.out
                have g6 := cell_later hW V1.out
                have g7 := cell_later hW V2.out
                have g8 := cell_later hW V3.out
                have g9 := cell_later hW V4.out
                go_simp
                all_goals exact rfl
              simp only [Act.put, List.setIfInBounds_toArray, List.set_cons_succ, List.set_cons_zero]
              go_big_quiet_on
            go_big_quiet_want
            apply Exists.intro
            refine ⟨fun W hW => ?_, ?_⟩
            · have g0 := cell_later hW C0.out
              have g1 := cell_later hW C1.out
              have g2 := cell_later hW C2.out
              have g3 := cell_later hW C3.out
              have g4 := cell_later hW C4.out
              have g5 := cell_later hW V0.out
              have g6 := cell_later hW V1.out
              have g7 := cell_later hW V2.out
              have g8 := cell_later hW V3.out
              have g9 := cell_later hW V4.out
              go_simp
              exact call_up hW (HLK.out W)
            simp only [Act.put, List.setIfInBounds_toArray, List.set_cons_succ, List.set_cons_zero]
            go_big_quiet_on
            go_big_quiet_want
            apply Exists.intro
            refine ⟨fun W hW => ?_, ?_⟩
            · have g0 := cell_later hW C0.out
              have g1 := cell_later hW C1.out
              have g2 := cell_later hW C2.out
              have g3 := cell_later hW C3.out
              have g4 := cell_later hW C4.out
              have g5 := cell_later hW V0.out
              have g6 := cell_later hW V1.out
              have g7 := cell_later hW V2.out
              have g8 := cell_later hW V3.out
              have g9 := cell_later hW V4.out
              go_simp
              all_goals exact rfl
            simp only [Act.put, List.setIfInBounds_toArray, List.set_cons_succ, List.set_cons_zero]
            go_big_quiet_on
            refine wpQuiet_nil ?_
            intro W hW
            have HV6 := Lib.hid (HV.out.below hW)
            have HB6 := Lib.hid (bthen HB5.out hW)
            have HO6 := Lib.hid (HO2.out.below hW)
            have C46 := Lib.hid (cell_later hW C4.out)
            have V46 := Lib.hid (cell_later hW V4.out)
            clear hW HLK C0 C1 C2 C3 C4 V0 V1 V2 V3 V4
            obtain ⟨w5, rfl⟩ : ∃ w5 : World, w5 = W := ⟨_, rfl⟩
            have hw2 : IntKind.i64.wrap (4096 - x.times) = 4096 - x.times := wrap_in (by omega)
            go_wp2
            by_cases hsum : x.times + s.times ≤ 4096
            · rw [if_pos hsum] at HN
              have hmin : min s.times (4096 - x.times) = s.times := by omega
              refine region_up (by kernel_rfl) (by kernel_rfl) ?_
              iterate 10
                go_big_quiet_want
                apply Exists.intro
                refine ⟨fun W hW => ?_, ?_⟩
                · have g0 := cell_later hW C46.out
                  have g1 := cell_later hW V46.out
                  go_simp
                  all_goals exact rfl
                simp only [Act.put, List.setIfInBounds_toArray, List.set_cons_succ, List.set_cons_zero]
                go_big_quiet_on
              refine wpQuiet_nil ?_
              intro W hW
              have HV7 := Lib.hid (HV6.out.below hW)
              have HB7 := Lib.hid (bthen HB6.out hW)
              have HO7 := Lib.hid (HO6.out.below hW)
              clear hW
              obtain ⟨g1, e1, _, _, _, c0, c1, c2, c3, c4, cf⟩ := HO7.out.last HNN.out
              injection e1 with e1
              injection e1 with e1 _
              subst e1
              obtain ⟨k0, k1, k2, k3, k4, kz⟩ := HV7.out
              have mk := World.block_lt_of_cell? _ _ k0
              have mg := World.block_lt_of_cell? _ _ c0
              go_upto_region 13 with fail
              have HO8 := Lib.hid ((HO7.out.set_last HNN.out (x.times + s.times)).set_other (p := ⟨be, 4, none⟩) HNB.out (.int .i64 0))
              have HV8 := Lib.hid ((HV7.out.set_ne (p := ⟨g, r.length * 5 + 4, none⟩) hne (.int .i64 (x.times + s.times))).set_times 0)
              have HB8 := Lib.hid ((HB7.out.setCell (p := ⟨g, r.length * 5 + 4, none⟩) hgb (.int .i64 (x.times + s.times))).setCell (p := ⟨be, 4, none⟩) (by omega) (.int .i64 0))
              have z8 := World.cell?_setCell_same _ _ (.int .i64 0) ((World.cell?_setCell_other W ⟨g, r.length * 5 + 4, none⟩ ⟨be, 4, none⟩ (.int .i64 (x.times + s.times)) (fun e => hne (by injection e))).trans k4)
              clear c0 c1 c2 c3 c4 cf k0 k1 k2 k3 k4 kz mk mg
              generalize (W.setCell ⟨g, r.length * 5 + 4, none⟩ (.int .i64 (x.times + s.times))).setCell ⟨be, 4, none⟩ (.int .i64 0) = W8 at *
              have mz := World.block_lt_of_cell? _ _ z8
              go_wp2
              go_roundw
              case rel => exact ⟨k + 1, by go_num, by omega, by rw [HN.out]; exact HO8.out, HB8.out⟩
              case measure => simp [intOf]; omega
            · rw [if_neg hsum] at HN
              have hmin : min s.times (4096 - x.times) = 4096 - x.times := by omega
              have hr1 : x.times + (4096 - x.times) = 4096 := by omega
              have hr3 : x.times + s.times - 4096 = s.times - (4096 - x.times) := by omega
              rw [hr3] at HN
              have hr2 : 0 < s.times - (4096 - x.times) := by omega
              clear hr3
              refine region_up (by kernel_rfl) (by kernel_rfl) ?_
              iterate 10
                go_big_quiet_want
                apply Exists.intro
                refine ⟨fun W hW => ?_, ?_⟩
                · have g0 := cell_later hW C46.out
                  have g1 := cell_later hW V46.out
                  go_simp
                  all_goals exact rfl
                simp only [Act.put, List.setIfInBounds_toArray, List.set_cons_succ, List.set_cons_zero]
                go_big_quiet_on
              refine wpQuiet_nil ?_
              intro W hW
              have HV7 := Lib.hid (HV6.out.below hW)
              have HB7 := Lib.hid (bthen HB6.out hW)
              have HO7 := Lib.hid (HO6.out.below hW)
              clear hW
              obtain ⟨g1, e1, _, _, _, c0, c1, c2, c3, c4, cf⟩ := HO7.out.last HNN.out
              injection e1 with e1
              injection e1 with e1 _
              subst e1
              obtain ⟨k0, k1, k2, k3, k4, kz⟩ := HV7.out
              have mk := World.block_lt_of_cell? _ _ k0
              have mg := World.block_lt_of_cell? _ _ c0
              go_upto_region 13 with fail
              have HO8 := Lib.hid ((HO7.out.set_last HNN.out 4096).set_other (p := ⟨be, 4, none⟩) HNB.out (.int .i64 (s.times - (4096 - x.times))))
              have HV8 := Lib.hid ((HV7.out.set_ne (p := ⟨g, r.length * 5 + 4, none⟩) hne (.int .i64 4096)).set_times (s.times - (4096 - x.times)))
              have HB8 := Lib.hid ((HB7.out.setCell (p := ⟨g, r.length * 5 + 4, none⟩) hgb (.int .i64 4096)).setCell (p := ⟨be, 4, none⟩) (by omega) (.int .i64 (s.times - (4096 - x.times))))
              have z8 := World.cell?_setCell_same _ _ (.int .i64 (s.times - (4096 - x.times))) ((World.cell?_setCell_other W ⟨g, r.length * 5 + 4, none⟩ ⟨be, 4, none⟩ (.int .i64 4096) (fun e => hne (by injection e))).trans k4)
              clear c0 c1 c2 c3 c4 cf k0 k1 k2 k3 k4 kz mk mg
              generalize (W.setCell ⟨g, r.length * 5 + 4, none⟩ (.int .i64 4096)).setCell ⟨be, 4, none⟩ (.int .i64 (s.times - (4096 - x.times))) = W8 at *
              have mz := World.block_lt_of_cell? _ _ z8
              obtain ⟨k0, k1, k2, k3, k4, kz⟩ := HV8.out
              have mk := World.block_lt_of_cell? _ _ k0
              have HOA : Hid (OwS (W8.alloc (.cells #[.bool s.thr, .int .i64 s.who, .int .u8 s.kind, .int .i64 s.tw, .int .i64 (s.times - (4096 - x.times))] 41)) w.heap.size (.slice (some ⟨g, 0, none⟩) n cp) (r ++ [({ x with times := 4096 } : Ev)])) := OwS.below HO8.out (balloc (Below.refl _ _) _)
              have HXA := Lib.hid (rd_ev W8 { s with times := (s.times - (4096 - x.times)) })
              have HBA : Hid (Below w.heap.size w (W8.alloc (.cells #[.bool s.thr, .int .i64 s.who, .int .u8 s.kind, .int .i64 s.tw, .int .i64 (s.times - (4096 - x.times))] 41))) := balloc HB8.out _
              have HZA := Lib.hid HBA.out.size
              have HYA : Hid ((((r ++ [({ x with times := 4096 } : Ev)]) : List Ev).length + [({ s with times := (s.times - (4096 - x.times)) } : Ev)].length) * 40 ≤ 140737488355328) := by show _ ≤ _; have := HNN.out; simp; omega
              go_wp2_with (at_builtin; refine wpl_appS rfl (.tmp 60) (.tmp 62) rfl w.heap.size _ (r ++ [({ x with times := 4096 } : Ev)]) [{ s with times := (s.times - (4096 - x.times)) }] rfl HOA.out (some ⟨W8.heap.size, 0, none⟩) 1 rfl HXA.out HYA.out HZA.out ?_)
              intro v' w9 ho hg
              have HB9 := Lib.hid (bownS HBA.out hg HOA.out)
              have HO9 := Lib.hid ho
              clear ho hg
              go_wp2
              go_roundw
              case rel => exact ⟨k + 1, by go_num, by omega, by rw [HN.out]; show OwS _ _ _ _; simpa using HO9.out, HB9.out⟩
              case measure => simp [intOf]; omega
      · obtain rfl : k = l.length := by omega
        rw [List.take_length] at HO
        obtain ⟨P, cp, rfl, _, _⟩ := HO.out.shape
        go_wp2
        refine bodyPost_ret (v := .tuple #[.slice P (foldN l).length cp, .int .i64 0]) (by simp [results, Tryd.results14, go_sem]) rfl ?_
        rw [HP.out]
        exact ⟨_, rfl, HO.out, HB.out⟩
  · rw [show chkE l = 2 from if_neg hok] at HC
    have HP : Hid (foldP l = ([], 2)) := if_neg hok
    clear hok
    go_enter Tryd.func14, Tryd.ntmps14
    go_wp2_with (go_at_call 20; refine HC.out.mono ?_)
    rintro e w1 ⟨rfl, hb1⟩
    have HB1 := Lib.hid hb1
    clear hb1
    go_wp2
    refine bodyPost_ret (v := .tuple #[.slice none 0 0, .int .i64 2]) (by simp [results, Tryd.results14, go_sem]) rfl ?_
    rw [HP.out]
    exact ⟨_, rfl, OwS.nil_ _ _, HB1.out⟩
set_option maxRecDepth 100000 in
set_option maxHeartbeats 32000000 in
theorem fold15 (l : List Ev) (hk : ∀ e ∈ l, 0 ≤ e.kind) (A : Option Addr) (c : Nat) (w : World) (hr : RdS w A l) : Calls Tryd.prog 15 #[.slice A l.length c] w (RetSE (foldP l).1 (foldP l).2 w) := by
  have hl := hr.len
  have HC := Lib.hid (check21 l hk A c w hr)
  have HR := Lib.hid hr
  clear hr
  by_cases hok : okL l
  · rw [show chkE l = 0 from if_pos hok] at HC
    have HP : Hid (foldP l = (foldN l, 0)) := if_pos hok
    have HOK := Lib.hid hok
    have hl2 : l.length ≤ 4096 := hok.1
    clear hok
    go_enter Tryd.func15, Tryd.ntmps15
    go_wp2_with (go_at_call 21; refine HC.out.mono ?_)
    rintro e w1 ⟨rfl, hb1⟩
    have HB1 := Lib.hid hb1
    clear hb1 HC
    go_wp2
    go_loopw [4, 14] (fun p i wr => ∃ (k : Nat), i = .int .i64 k ∧ k ≤ l.length ∧ Hid (OwS wr w.heap.size p (foldN (l.take k))) ∧ Hid (Below w.heap.size w wr)) (fun _ i _ => l.length - (intOf i).toNat)
    case atStart => exact ⟨0, rfl, Nat.zero_le _, OwS.nil_ _ _, HB1.out⟩
    case round =>
      obtain ⟨k, rfl, hk, HO, HB⟩ := hrel
      have HF := Lib.hid (foldN_ok HOK.out k)
      have hfl := HF.out.2
      have hbs := HB.out.size
      by_cases hlt : k < l.length
      · have hs : l[k]? = some l[k] := List.getElem?_eq_getElem hlt
        generalize l[k] = s at hs
        obtain ⟨b, o, rfl, hB, c0, c1, c2, c3, c4⟩ := (HR.out.below HB.out).at_ hs
        have HN := Lib.hid (foldN_succ hs)
        have hsk := HOK.out.2 s (List.mem_of_getElem? hs)
        have hs1 := hsk.1
        have hs2 := hsk.2.1
        have HV := Lib.hid (VarE.made wr s)
        have HBA : Hid (Below wr.heap.size wr (wr.alloc (.cells #[.bool s.thr, .int .i64 s.who, .int .u8 s.kind, .int .i64 s.tw, .int .i64 s.times] 41))) := balloc (Below.refl _ _) _
        generalize foldN (l.take k) = out at *
        obtain ⟨P, cp, rfl, hcp, hrp⟩ := HO.out.shape
        clear hs hsk hrp
        go_upto_region 8 with fail
        have HO2 := Lib.hid (HO.out.below HBA.out)
        generalize hW : wr.alloc (.cells #[.bool s.thr, .int .i64 s.who, .int .u8 s.kind, .int .i64 s.tw, .int .i64 s.times] 41) = wa at *
        clear hW c0 c1 c2 c3 c4 hB
        have HB5 := Lib.hid (bthen HB.out HBA.out)
        rcases nil_or_snoc out with rfl | ⟨r, x, rfl⟩
        · rw [addE_nil] at HN
          simp only [List.length_nil] at *
          refine region_up (by kernel_rfl) (by kernel_rfl) ?_
          iterate 3
            go_big_quiet_want
            apply Exists.intro
            refine ⟨fun W hW => ?_, ?_⟩
            · go_simp
              all_goals exact rfl
            simp only [Act.put, List.setIfInBounds_toArray, List.set_cons_succ, List.set_cons_zero]
            go_big_quiet_on
          iterate 7 go_big_quiet_skip
          go_big_quiet_want
          apply Exists.intro
          refine ⟨fun W hW => ?_, ?_⟩
          · go_simp
            all_goals exact rfl
          simp only [Act.put, List.setIfInBounds_toArray, List.set_cons_succ, List.set_cons_zero]
          go_big_quiet_on
          refine wpQuiet_nil ?_
          intro W hW
          have HV6 := Lib.hid (HV.out.below hW)
          have HB6 := Lib.hid (bthen HB5.out hW)
          have HO6 := Lib.hid (HO2.out.below hW)
          clear hW
          obtain ⟨k0, k1, k2, k3, k4, kz⟩ := HV6.out
          have mk := World.block_lt_of_cell? _ _ k0
          have HOA : Hid (OwS (W.alloc (.cells #[.bool s.thr, .int .i64 s.who, .int .u8 s.kind, .int .i64 s.tw, .int .i64 s.times] 41)) w.heap.size (.slice P 0 cp) []) := OwS.below HO6.out (balloc (Below.refl _ _) _)
          have HXA := Lib.hid (rd_ev W { s with times := s.times })
          have HBA : Hid (Below w.heap.size w (W.alloc (.cells #[.bool s.thr, .int .i64 s.who, .int .u8 s.kind, .int .i64 s.tw, .int .i64 s.times] 41))) := balloc HB6.out _
          have HZA := Lib.hid HBA.out.size
          have HYA : Hid ((([] : List Ev).length + [({ s with times := s.times } : Ev)].length) * 40 ≤ 140737488355328) := by show _ ≤ _; simp
          go_wp2_with (at_builtin; refine wpl_appS rfl (.tmp 32) (.tmp 34) rfl w.heap.size _ [] [{ s with times := s.times }] rfl HOA.out (some ⟨W.heap.size, 0, none⟩) 1 rfl HXA.out HYA.out HZA.out ?_)
          intro v' w9 ho hg
          have HB9 := Lib.hid (bownS HBA.out hg HOA.out)
          have HO9 := Lib.hid ho
          clear ho hg
          go_wp2
          go_roundw
          case rel => exact ⟨k + 1, by go_num, by omega, by rw [HN.out]; show OwS _ _ _ _; simpa using HO9.out, HB9.out⟩
          case measure => simp [intOf]; omega
        · have hx := HF.out.1 x (by simp)
          have hx1 := hx.1
          have hx2 := hx.2.1
          rw [addE_snoc] at HN
          rw [List.length_append, List.length_singleton] at *
          obtain ⟨g, rfl, hgb, hgl, hgc, -, -, -, -, -, -⟩ := HO.out.last rfl
          have hne : ¬ g = wr.heap.size := by omega
          have hne' : ¬ wr.heap.size = g := by omega
          have HNB : Hid ((Value.slice (some ⟨g, 0, none⟩) (r.length + 1) cp).ownBlock ≠ some wr.heap.size) := fun e => by
            injection e with e
            exact hne e
          generalize wr.heap.size = be at *
          have hn1 : (((r.length + 1 : Nat) : Int) - 1) = (r.length : Int) := by omega
          have hn2 : (r.length : Int) < ((r.length + 1 : Nat) : Int) := by omega
          have hn3 : r.length < r.length + 1 := by omega
          have hn0 : (0 : Int) ≤ (r.length : Int) := by omega
          have hn00 : ¬ (r.length : Int) < 0 := by omega
          have hn01 : decide ((r.length : Int) < 0) = false := decide_eq_false hn00
          generalize hnn : r.length + 1 = n at *
          have HNN := Lib.hid hnn.symm
          clear hnn
          have HLK := Lib.hid (fun W => like30 x s W)
          unfold Ev.v at HLK
          clear hx
          obtain ⟨g1, e1, _, _, _, c0, c1, c2, c3, c4, cf⟩ := HO2.out.last HNN.out
          injection e1 with e1
          injection e1 with e1 _
          subst e1
          have C0 := Lib.hid c0
          have C1 := Lib.hid c1
          have C2 := Lib.hid c2
          have C3 := Lib.hid c3
          have C4 := Lib.hid c4
          have V0 := Lib.hid HV.out.c0
          have V1 := Lib.hid HV.out.c1
          have V2 := Lib.hid HV.out.c2
          have V3 := Lib.hid HV.out.c3
          have V4 := Lib.hid HV.out.c4
          clear c0 c1 c2 c3 c4 cf
          cases hlike : likeE x s
          · rw [if_neg (by simp [hlike])] at HN
            simp only [hlike] at HLK
            clear hlike
            refine region_up (by kernel_rfl) (by kernel_rfl) ?_
            iterate 8
              go_big_quiet_want
              apply Exists.intro
              refine ⟨fun W hW => ?_, ?_⟩
              · have g0 := cell_later hW C0.out
                have g1 := cell_later hW C1.out
                have g2 := cell_later hW C2.out
                have g3 := cell_later hW C3.out
                have g4 := cell_later hW C4.out
                have g5 := cell_later hW V0.out
                have g6 := cell_later hW V1.out
                have g7 := cell_later hW V2.out
                have g8 := cell_later hW V3.out
                have g9 := cell_later hW V4.out
                go_simp
                all_goals exact rfl
              simp only [Act.put, List.setIfInBounds_toArray, List.set_cons_succ, List.set_cons_zero]
              go_big_quiet_on
            go_big_quiet_want
            apply Exists.intro
            refine ⟨fun W hW => ?_, ?_⟩
            · have g0 := cell_later hW C0.out
              have g1 := cell_later hW C1.out
              have g2 := cell_later hW C2.out
              have g3 := cell_later hW C3.out
              have g4 := cell_later hW C4.out
              have g5 := cell_later hW V0.out
              have g6 := cell_later hW V1.out
              have g7 := cell_later hW V2.out
              have g8 := cell_later hW V3.out
              have g9 := cell_later hW V4.out
              go_simp
              exact call_up hW (HLK.out W)
            simp only [Act.put, List.setIfInBounds_toArray, List.set_cons_succ, List.set_cons_zero]
            go_big_quiet_on
            iterate 2
              go_big_quiet_want
              apply Exists.intro
              refine ⟨fun W hW => ?_, ?_⟩
              · have g0 := cell_later hW C0.out
                have g1 := cell_later hW C1.out
                have g2 := cell_later hW C2.out
                have g3 := cell_later hW C3.out
                have g4 := cell_later hW C4.out
                have g5 := cell_later hW V0.out
                have g6 := cell_later hW V1.out
                have g7 := cell_later hW V2.out
                have g8 := cell_later hW V3.out
                have g9 := cell_later hW V4.out
                go_simp
                all_goals exact rfl
              simp only [Act.put, List.setIfInBounds_toArray, List.set_cons_succ, List.set_cons_zero]
              go_big_quiet_on
            refine wpQuiet_nil ?_
            intro W hW
            have HV6 := Lib.hid (HV.out.below hW)
            have HB6 := Lib.hid (bthen HB5.out hW)
            have HO6 := Lib.hid (HO2.out.below hW)
            clear hW HLK
            obtain ⟨k0, k1, k2, k3, k4, kz⟩ := HV6.out
            have mk := World.block_lt_of_cell? _ _ k0
            have HOA : Hid (OwS (W.alloc (.cells #[.bool s.thr, .int .i64 s.who, .int .u8 s.kind, .int .i64 s.tw, .int .i64 s.times] 41)) w.heap.size (.slice (some ⟨g, 0, none⟩) n cp) (r ++ [x])) := OwS.below HO6.out (balloc (Below.refl _ _) _)
            have HXA := Lib.hid (rd_ev W { s with times := s.times })
            have HBA : Hid (Below w.heap.size w (W.alloc (.cells #[.bool s.thr, .int .i64 s.who, .int .u8 s.kind, .int .i64 s.tw, .int .i64 s.times] 41))) := balloc HB6.out _
            have HZA := Lib.hid HBA.out.size
            have HYA : Hid ((((r ++ [x]) : List Ev).length + [({ s with times := s.times } : Ev)].length) * 40 ≤ 140737488355328) := by show _ ≤ _; have := HNN.out; simp; omega
            go_wp2_with (at_builtin; refine wpl_appS rfl (.tmp 32) (.tmp 34) rfl w.heap.size _ (r ++ [x]) [{ s with times := s.times }] rfl HOA.out (some ⟨W.heap.size, 0, none⟩) 1 rfl HXA.out HYA.out HZA.out ?_)
            intro v' w9 ho hg
            have HB9 := Lib.hid (bownS HBA.out hg HOA.out)
            have HO9 := Lib.hid ho
            clear ho hg
            go_wp2
            go_roundw
            case rel => exact ⟨k + 1, by go_num, by omega, by rw [HN.out]; show OwS _ _ _ _; simpa using HO9.out, HB9.out⟩
            case measure => simp [intOf]; omega
          · rw [if_pos hlike] at HN
            simp only [hlike] at HLK
            clear hlike
            refine region_up (by kernel_rfl) (by kernel_rfl) ?_
            iterate 8
              go_big_quiet_want
              apply Exists.intro
              refine ⟨fun W hW => ?_, ?_⟩
              · have g0 := cell_later hW C0.out
                have g1 := cell_later hW C1.out
                have g2 := cell_later hW C2.out
                have g3 := cell_later hW C3.out
                have g4 := cell_later hW C4.out
                have g5 := cell_later hW V0.out
                have g6 := cell_later hW V1.out
                have g7 := cell_later hW V2.out
                have g8 := cell_later hW V3.out
                have g9 := cell_later hW V4.out
                go_simp
                all_goals exact rfl
              simp only [Act.put, List.setIfInBounds_toArray, List.set_cons_succ, List.set_cons_zero]
              go_big_quiet_on
            go_big_quiet_want
            apply Exists.intro
            refine ⟨fun W hW => ?_, ?_⟩
            · have g0 := cell_later hW C0.out
              have g1 := cell_later hW C1.out
              have g2 := cell_later hW C2.out
              have g3 := cell_later hW C3.out
              have g4 := cell_later hW C4.out
              have g5 := cell_later hW V0.out
              have g6 := cell_later hW V1.out
              have g7 := cell_later hW V2.out
              have g8 := cell_later hW V3.out
              have g9 := cell_later hW V4.out
              go_simp
              exact call_up hW (HLK.out W)
            simp only [Act.put, List.setIfInBounds_toArray, List.set_cons_succ, List.set_cons_zero]
            go_big_quiet_on
            iterate 2
              go_big_quiet_want
              apply Exists.intro
              refine ⟨fun W hW => ?_, ?_⟩
              · have g0 := cell_later hW C0.out
                have g1 := cell_later hW C1.out
                have g2 := cell_later hW C2.out
                have g3 := cell_later hW C3.out
                have g4 := cell_later hW C4.out
                have g5 := cell_later hW V0.out
                have g6 := cell_later hW V1.out
                have g7 := cell_later hW V2.out
                have g8 := cell_later hW V3.out
                have g9 := cell_later hW V4.out
                go_simp
                all_goals exact rfl
              simp only [Act.put, List.setIfInBounds_toArray, List.set_cons_succ, List.set_cons_zero]
              go_big_quiet_on
            refine wpQuiet_nil ?_
            intro W hW
            have HV6 := Lib.hid (HV.out.below hW)
            have HB6 := Lib.hid (bthen HB5.out hW)
            have HO6 := Lib.hid (HO2.out.below hW)
            have C46 := Lib.hid (cell_later hW C4.out)
            have V46 := Lib.hid (cell_later hW V4.out)
            clear hW HLK C0 C1 C2 C3 C4 V0 V1 V2 V3 V4
            obtain ⟨w5, rfl⟩ : ∃ w5 : World, w5 = W := ⟨_, rfl⟩
            have hw2 : IntKind.i64.wrap (x.times + s.times) = x.times + s.times := wrap_in (by omega)
            go_wp2
            refine region_up (by kernel_rfl) (by kernel_rfl) ?_
            iterate 9
              go_big_quiet_want
              apply Exists.intro
              refine ⟨fun W hW => ?_, ?_⟩
              · have g0 := cell_later hW C46.out
                have g1 := cell_later hW V46.out
                go_simp
                all_goals exact rfl
              simp only [Act.put, List.setIfInBounds_toArray, List.set_cons_succ, List.set_cons_zero]
              go_big_quiet_on
            refine wpQuiet_nil ?_
            intro W hW
            have HV7 := Lib.hid (HV6.out.below hW)
            have HB7 := Lib.hid (bthen HB6.out hW)
            have HO7 := Lib.hid (HO6.out.below hW)
            clear hW hw2
            obtain ⟨g1, e1, _, _, _, c0, c1, c2, c3, c4, cf⟩ := HO7.out.last HNN.out
            injection e1 with e1
            injection e1 with e1 _
            subst e1
            have mg := World.block_lt_of_cell? _ _ c0
            by_cases hsum : x.times + s.times ≤ 4096
            · rw [if_pos hsum] at HN
              have HO8 := Lib.hid (HO7.out.set_last HNN.out (x.times + s.times))
              have HB8 := Lib.hid (HB7.out.setCell (p := ⟨g, r.length * 5 + 4, none⟩) hgb (.int .i64 (x.times + s.times)))
              go_wp2
              go_roundw
              case rel => exact ⟨k + 1, by go_num, by omega, by rw [HN.out]; exact HO8.out, HB8.out⟩
              case measure => simp [intOf]; omega
            · rw [if_neg hsum] at HN
              obtain ⟨k0, k1, k2, k3, k4, kz⟩ := HV7.out
              have mk := World.block_lt_of_cell? _ _ k0
              go_upto_region 15 with fail
              have HO8 := Lib.hid ((HO7.out.set_last HNN.out 4096).set_other (p := ⟨be, 4, none⟩) HNB.out (.int .i64 (x.times + s.times - 4096)))
              have HV8 := Lib.hid ((HV7.out.set_ne (p := ⟨g, r.length * 5 + 4, none⟩) hne (.int .i64 4096)).set_times (x.times + s.times - 4096))
              have HB8 := Lib.hid ((HB7.out.setCell (p := ⟨g, r.length * 5 + 4, none⟩) hgb (.int .i64 4096)).setCell (p := ⟨be, 4, none⟩) (by omega) (.int .i64 (x.times + s.times - 4096)))
              clear c0 c1 c2 c3 c4 cf k0 k1 k2 k3 k4 kz mk mg
              generalize (W.setCell ⟨g, r.length * 5 + 4, none⟩ (.int .i64 4096)).setCell ⟨be, 4, none⟩ (.int .i64 (x.times + s.times - 4096)) = W8 at *
              obtain ⟨k0, k1, k2, k3, k4, kz⟩ := HV8.out
              have mk := World.block_lt_of_cell? _ _ k0
              have HOA : Hid (OwS (W8.alloc (.cells #[.bool s.thr, .int .i64 s.who, .int .u8 s.kind, .int .i64 s.tw, .int .i64 (x.times + s.times - 4096)] 41)) w.heap.size (.slice (some ⟨g, 0, none⟩) n cp) (r ++ [({ x with times := 4096 } : Ev)])) := OwS.below HO8.out (balloc (Below.refl _ _) _)
              have HXA := Lib.hid (rd_ev W8 { s with times := (x.times + s.times - 4096) })
              have HBA : Hid (Below w.heap.size w (W8.alloc (.cells #[.bool s.thr, .int .i64 s.who, .int .u8 s.kind, .int .i64 s.tw, .int .i64 (x.times + s.times - 4096)] 41))) := balloc HB8.out _
              have HZA := Lib.hid HBA.out.size
              have HYA : Hid ((((r ++ [({ x with times := 4096 } : Ev)]) : List Ev).length + [({ s with times := (x.times + s.times - 4096) } : Ev)].length) * 40 ≤ 140737488355328) := by show _ ≤ _; have := HNN.out; simp; omega
              go_wp2_with (at_builtin; refine wpl_appS rfl (.tmp 58) (.tmp 60) rfl w.heap.size _ (r ++ [({ x with times := 4096 } : Ev)]) [{ s with times := (x.times + s.times - 4096) }] rfl HOA.out (some ⟨W8.heap.size, 0, none⟩) 1 rfl HXA.out HYA.out HZA.out ?_)
              intro v' w9 ho hg
              have HB9 := Lib.hid (bownS HBA.out hg HOA.out)
              have HO9 := Lib.hid ho
              clear ho hg
              go_wp2
              go_roundw
              case rel => exact ⟨k + 1, by go_num, by omega, by rw [HN.out]; show OwS _ _ _ _; simpa using HO9.out, HB9.out⟩
              case measure => simp [intOf]; omega
      · obtain rfl : k = l.length := by omega
        rw [List.take_length] at HO
        obtain ⟨P, cp, rfl, _, _⟩ := HO.out.shape
        go_wp2
        refine bodyPost_ret (v := .tuple #[.slice P (foldN l).length cp, .int .i64 0]) (by simp [results, Tryd.results15, go_sem]) rfl ?_
        rw [HP.out]
        exact ⟨_, rfl, HO.out, HB.out⟩
  · rw [show chkE l = 2 from if_neg hok] at HC
    have HP : Hid (foldP l = ([], 2)) := if_neg hok
    clear hok
    go_enter Tryd.func15, Tryd.ntmps15
    go_wp2_with (go_at_call 21; refine HC.out.mono ?_)
    rintro e w1 ⟨rfl, hb1⟩
    have HB1 := Lib.hid hb1
    clear hb1
    go_wp2
    refine bodyPost_ret (v := .tuple #[.slice none 0 0, .int .i64 2]) (by simp [results, Tryd.results15, go_sem]) rfl ?_
    rw [HP.out]
    exact ⟨_, rfl, OwS.nil_ _ _, HB1.out⟩
end Go.Proofs.YtfgeomdfgjefdaaDoor
