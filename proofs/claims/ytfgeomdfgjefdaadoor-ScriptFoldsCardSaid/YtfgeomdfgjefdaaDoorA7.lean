/- The walks of the two Spread. -/
import Derived.Test.YtfgeomdfgjefdaaDoorA6
import Derived.Deep.AppendLies
namespace Go.Proofs.YtfgeomdfgjefdaaDoor
open Go.RowKit
set_option linter.unusedVariables false
set_option linter.unusedSimpArgs false

theorem VarE.grown {w w' : World} {b : Nat} {e : Ev} {r : Option Nat} (h : VarE w b e) (hg : w.grownBy w' r) (hr : some b ≠ r) : VarE w' b e := by
  have hlt := World.block_lt_of_cell? _ _ h.c0
  exact ⟨(hg.cell_far ⟨b, 0, none⟩ hlt hr).trans h.c0, (hg.cell_far ⟨b, 1, none⟩ hlt hr).trans h.c1, (hg.cell_far ⟨b, 2, none⟩ hlt hr).trans h.c2, (hg.cell_far ⟨b, 3, none⟩ hlt hr).trans h.c3, (hg.cell_far ⟨b, 4, none⟩ hlt hr).trans h.c4, (hg.frozen_far ⟨b, 4, none⟩ hlt hr).trans h.fz⟩
set_option maxRecDepth 100000 in
theorem wpl_appS1 {ops : Array Oper} {rest : List Oper} {o : Oper} {a : Act} {w : World} {Q : Exit → Act → World → Prop} (hgd : o.guard = none) (s x : Operand)
    (ho : o.op = .call { callee := .builtin .append, args := #[s, x], argTypes := #[22, 22] })
    (base : Nat) (v : Value) (l0 : List Ev) (e1 : Ev) (hs : a.eval s = v) (hown : OwS w base v l0) (B : Nat) (hx : a.eval x = .slice (some ⟨B, 0, none⟩) 1 1) (hr : RdS w (some ⟨B, 0, none⟩) [e1])
    (hlen : l0.length ≤ 100000) (hbase : base ≤ w.heap.size)
    (h : ∀ g cap w', OwS w' base (.slice (some ⟨g, 0, none⟩) (l0.length + 1) cap) (l0 ++ [e1]) → w.grownBy w' v.ownBlock → (v.ownBlock = some g ∨ g = w.heap.size) → wpList Tryd.prog ops Q rest (a.put o.dst (.slice (some ⟨g, 0, none⟩) (l0.length + 1) cap)) w') : wpList Tryd.prog ops Q (o :: rest) a w := by
  obtain ⟨i0, hi, hz0, hz1, hz2⟩ := info41p
  refine wpList_append_lies (P := Tryd.prog) w hgd s x 22 ho base 41 i0 _ 5 40 Tryd.underlying22 hi hz0 hz1 hz2 rfl (by omega) v l0.length (fl l0) hs hown ⟨B, 0, none⟩ 1 1 (fl [e1]) hx rfl (fun j u hu => ?_) (fl_one _) (by omega) (by simp only [maxLen]; omega) (by omega) hbase _ rfl
    (fun g cap w' h1 h2 h3 _ => h g cap w' (by unfold OwS; rw [List.length_append, fl_append]; exact h1) h2 h3)
  obtain ⟨b', o', e2, _, hc⟩ := hr.2.2 (by simp)
  injection e2 with e2
  injection e2 with e3 e4
  subst e3
  subst e4
  rw [addOff]
  exact hc j u hu
def oneE (e : Ev) : Ev := { e with times := 1 }
def spreadN (l : List Ev) : List Ev := l.flatMap (fun e => List.replicate e.times.toNat (oneE e))
def spreadP (l : List Ev) : List Ev × Int := if okL l then (if stepsN l [] ≤ 4096 then (spreadN l, 0) else ([], 6)) else ([], 2)
theorem spreadN_succ {l : List Ev} {k : Nat} {s : Ev} (hs : l[k]? = some s) : spreadN (l.take (k + 1)) = spreadN (l.take k) ++ List.replicate s.times.toNat (oneE s) := by
  unfold spreadN
  rw [List.take_add_one, hs]
  simp
theorem spreadN_len {l : List Ev} (h : ∀ e ∈ l, okEv e) : ((spreadN l).length : Int) = stepsN l [] := by
  induction l with
  | nil => rfl
  | cons x t ih =>
    have h1 := ih (fun e he => h e (List.mem_cons_of_mem _ he))
    have h2 := (h x List.mem_cons_self).1
    have e1 : spreadN (x :: t) = List.replicate x.times.toNat (oneE x) ++ spreadN t := rfl
    have e2 : stepsN (x :: t) [] = x.times + stepsN t [] := by simp [stepsN, takes]
    rw [e1, e2, List.length_append, List.length_replicate]
    omega
theorem spreadN_take {l : List Ev} (h : okL l) (h2 : stepsN l [] ≤ 4096) (k : Nat) : (spreadN (l.take k)).length ≤ 4096 := by
  have h1 := spreadN_len h.2
  have e1 : spreadN l = spreadN (l.take k) ++ spreadN (l.drop k) := by
    unfold spreadN
    rw [← List.flatMap_append, List.take_append_drop]
  have h3 : (spreadN l).length = (spreadN (l.take k)).length + (spreadN (l.drop k)).length := by rw [e1, List.length_append]
  omega
set_option maxRecDepth 100000 in
set_option maxHeartbeats 32000000 in
theorem spread16 (l : List Ev) (A : Option Addr) (c : Nat) (w : World) (hr : RdS w A l) : Calls Tryd.prog 16 #[.slice A l.length c] w (RetSE (spreadP l).1 (spreadP l).2 w) := by
  have hl := hr.len
  have HR := Lib.hid hr
  have HC := Lib.hid (steps18 l [] A none c 0 w hr (RdS.nil_ _ _))
  by_cases hok : okL l
  · rw [show stepsP l [] = (stepsN l [], 0) from if_pos hok] at HC
    by_cases hbig : stepsN l [] ≤ 4096
    · have HP : Hid (spreadP l = (spreadN l, 0)) := by show _ = _; unfold spreadP; rw [if_pos hok, if_pos hbig]
      have HOK := Lib.hid hok
      have HBG := Lib.hid hbig
      have hl2 : l.length ≤ 4096 := hok.1
      have hn0 := (stepsN_bound (l := l) (of := []) hok.2).1
      obtain ⟨n, hn⟩ := Int.eq_ofNat_of_zero_le hn0
      rw [hn] at HC
      have hn1 : n ≤ 4096 := by omega
      have hn2 : ¬ (4096 : Int) < (n : Int) := by omega
      clear hr hok hbig hn hn0
      obtain ⟨i0, hi, hz0, hz1, hz2⟩ := info41p
      have HZ0 := Lib.hid hz0
      have HZ1 := Lib.hid hz1
      have HI := Lib.hid hi
      have Q6 : Hid (i0.bytes * n ≤ 281474976710656) := by show _ ≤ _; rw [hz2]; omega
      have Q7 : Hid (n ≤ maxLen) := by show _ ≤ _; unfold maxLen; omega
      clear hz0 hz1 hz2 hi
      go_enter Tryd.func16, Tryd.ntmps16
      go_wp2_with (go_at_call 18; refine HC.out.mono ?_)
      rintro e w1 ⟨rfl, hb1⟩
      have HB1 := Lib.hid hb1
      clear hb1 HC
      go_wp2_with (at_make; refine wpList_make_own _ rfl _ _ 22 rfl w.heap.size 41 i0 (.agg #[.bool false, .int .i64 0, .int .u8 0, .int .i64 0, .int .i64 0]) 5 Tryd.underlying22 HI.out HZ0.out HZ1.out _ _ _ n rfl rfl rfl Q6.out Q7.out HB1.out.size ?_)
      intro w2 ho hg
      have HB2 := Lib.hid (bgrown HB1.out hg (by simp))
      have HO2 : Hid (OwS w2 w.heap.size (.slice (some ⟨w1.heap.size, 0, none⟩) 0 n) (spreadN (l.take 0))) := ho
      clear ho hg
      go_wp2
      go_loopw [6, 26] (fun p i wr => ∃ (k : Nat), i = .int .i64 k ∧ k ≤ l.length ∧ Hid (OwS wr w.heap.size p (spreadN (l.take k))) ∧ Hid (Below w.heap.size w wr)) (fun _ i _ => l.length - (intOf i).toNat)
      case atStart => exact ⟨0, rfl, Nat.zero_le _, HO2.out, HB2.out⟩
      case round =>
        obtain ⟨k, rfl, hk, HO, HB⟩ := hrel
        have hsp := spreadN_take HOK.out HBG.out k
        have hbs := HB.out.size
        by_cases hlt : k < l.length
        · have hs : l[k]? = some l[k] := List.getElem?_eq_getElem hlt
          generalize l[k] = s at hs
          obtain ⟨b, o, rfl, hB, c0, c1, c2, c3, c4⟩ := (HR.out.below HB.out).at_ hs
          have HN := Lib.hid (spreadN_succ hs)
          have hsk := HOK.out.2 s (List.mem_of_getElem? hs)
          have hs1 := hsk.1
          have hs2 := hsk.2.1
          obtain ⟨thr, who, kind, tw, times⟩ := s
          simp only at c0 c1 c2 c3 c4 hs1 hs2
          obtain ⟨tn, rfl⟩ := Int.eq_ofNat_of_zero_le (show 0 ≤ times by omega)
          simp only [oneE, Int.toNat_natCast] at HN
          have HRD : Hid (RdS ((wr.alloc (.cells #[.bool thr, .int .i64 who, .int .u8 kind, .int .i64 tw, .int .i64 1] 41)).alloc (.cells #[.bool thr, .int .i64 who, .int .u8 kind, .int .i64 tw, .int .i64 1] 41)) (some ⟨wr.heap.size + 1, 0, none⟩) [⟨thr, who, kind, tw, 1⟩]) := by
            show RdS _ _ _
            have h := rd_ev (wr.alloc (.cells #[.bool thr, .int .i64 who, .int .u8 kind, .int .i64 tw, .int .i64 1] 41)) ⟨thr, who, kind, tw, 1⟩
            rwa [show (wr.alloc (.cells #[.bool thr, .int .i64 who, .int .u8 kind, .int .i64 tw, .int .i64 1] 41)).heap.size = wr.heap.size + 1 from by simp] at h
          have HBB : Hid (Below wr.heap.size wr ((wr.alloc (.cells #[.bool thr, .int .i64 who, .int .u8 kind, .int .i64 tw, .int .i64 1] 41)).alloc (.cells #[.bool thr, .int .i64 who, .int .u8 kind, .int .i64 tw, .int .i64 1] 41))) := balloc (balloc (Below.refl _ _) _) _
          have HX := Lib.hid (repeat31 ⟨thr, who, kind, tw, 1⟩ _ tn _ HRD.out (by omega) (by omega))
          have hRl : (List.replicate tn (⟨thr, who, kind, tw, 1⟩ : Ev)).length ≤ 4096 := by rw [List.length_replicate]; omega
          generalize List.replicate tn (⟨thr, who, kind, tw, 1⟩ : Ev) = R at *
          generalize spreadN (l.take k) = out at *
          obtain ⟨P, cp, rfl, hcp, hrp⟩ := HO.out.shape
          have HY : Hid ((out.length + R.length) * 40 ≤ 140737488355328) := by show _ ≤ _; omega
          clear hs hsk hrp HRD
          go_wp2_with (go_at_call 31; refine HX.out.mono ?_)
          rintro e w3 ⟨v3, rfl, ho3, hb3⟩
          obtain ⟨A3, c3', rfl, hc3', hr3⟩ := ho3.shape
          have HR3 := Lib.hid hr3
          have HBB3 := Lib.hid (bthen HBB.out hb3)
          have HO3 := Lib.hid (HO.out.below HBB3.out)
          have HB3 := Lib.hid (bthen HB.out HBB3.out)
          have HZ3 := Lib.hid HB3.out.size
          clear ho3 hb3 hr3 hc3' HX
          go_wp2_with (at_builtin; refine wpl_appS rfl (.tmp 33) (.tmp 37) rfl w.heap.size _ out R rfl HO3.out A3 c3' rfl HR3.out HY.out HZ3.out ?_)
          intro v' w9 ho hg
          have HB9 := Lib.hid (bownS HB3.out hg HO3.out)
          have HO9 := Lib.hid ho
          clear ho hg
          go_wp2
          go_roundw
          case rel => exact ⟨k + 1, by go_num, by omega, by rw [HN.out]; exact HO9.out, HB9.out⟩
          case measure => simp [intOf]; omega
        · obtain rfl : k = l.length := by omega
          rw [List.take_length] at HO
          obtain ⟨P, cp, rfl, _, _⟩ := HO.out.shape
          go_wp2
          refine bodyPost_ret (v := .tuple #[.slice P (spreadN l).length cp, .int .i64 0]) (by simp [results, Tryd.results16, go_sem]) rfl ?_
          rw [HP.out]
          exact ⟨_, rfl, HO.out, HB.out⟩
    · have hb : (4096 : Int) < stepsN l [] := by omega
      have hEQ := Lib.hid (show spreadP l = ([], 6) from by unfold spreadP; rw [if_pos hok, if_neg hbig])
      clear hr hok hbig
      simp only at HC
      generalize stepsN l [] = z at *
      have HP : Hid (spreadP l = ([], 6)) := hEQ.out
      go_enter Tryd.func16, Tryd.ntmps16
      go_wp2_with (go_at_call 18; refine HC.out.mono ?_)
      rintro e w1 ⟨rfl, hb1⟩
      have HB1 := Lib.hid hb1
      clear hb1
      go_wp2
      refine bodyPost_ret (v := .tuple #[.slice none 0 0, .int .i64 6]) (by simp [results, Tryd.results16, go_sem]) rfl ?_
      rw [HP.out]
      exact ⟨_, rfl, OwS.nil_ _ _, HB1.out⟩
  · rw [show stepsP l [] = (0, 2) from if_neg hok] at HC
    have hEQ := Lib.hid (show spreadP l = ([], 2) from if_neg hok)
    clear hr hok
    simp only at HC
    have HP : Hid (spreadP l = ([], 2)) := hEQ.out
    go_enter Tryd.func16, Tryd.ntmps16
    go_wp2_with (go_at_call 18; refine HC.out.mono ?_)
    rintro e w1 ⟨rfl, hb1⟩
    have HB1 := Lib.hid hb1
    clear hb1
    go_wp2
    refine bodyPost_ret (v := .tuple #[.slice none 0 0, .int .i64 2]) (by simp [results, Tryd.results16, go_sem]) rfl ?_
    rw [HP.out]
    exact ⟨_, rfl, OwS.nil_ _ _, HB1.out⟩
set_option maxRecDepth 100000 in
set_option maxHeartbeats 32000000 in
theorem spread17 (l : List Ev) (hk : ∀ e ∈ l, 0 ≤ e.kind) (A : Option Addr) (c : Nat) (w : World) (hr : RdS w A l) : Calls Tryd.prog 17 #[.slice A l.length c] w (RetSE (spreadP l).1 (spreadP l).2 w) := by
  have hl := hr.len
  have HR := Lib.hid hr
  have HC := Lib.hid (steps19 l [] hk A none c 0 w hr (RdS.nil_ _ _))
  by_cases hok : okL l
  · rw [show stepsP l [] = (stepsN l [], 0) from if_pos hok] at HC
    by_cases hbig : stepsN l [] ≤ 4096
    · have HP : Hid (spreadP l = (spreadN l, 0)) := by show _ = _; unfold spreadP; rw [if_pos hok, if_pos hbig]
      have HOK := Lib.hid hok
      have HBG := Lib.hid hbig
      have hl2 : l.length ≤ 4096 := hok.1
      have hn0 := (stepsN_bound (l := l) (of := []) hok.2).1
      obtain ⟨n, hn⟩ := Int.eq_ofNat_of_zero_le hn0
      rw [hn] at HC
      have hn1 : n ≤ 4096 := by omega
      have hn2 : ¬ (4096 : Int) < (n : Int) := by omega
      clear hr hok hbig hn hn0
      go_enter Tryd.func17, Tryd.ntmps17
      go_wp2_with (go_at_call 19; refine HC.out.mono ?_)
      rintro e w1 ⟨rfl, hb1⟩
      have HB1 := Lib.hid hb1
      clear hb1 HC
      go_wp2
      go_loopw [6, 23] (fun p i wr => ∃ (k : Nat), i = .int .i64 k ∧ k ≤ l.length ∧ Hid (OwS wr w.heap.size p (spreadN (l.take k))) ∧ Hid (Below w.heap.size w wr)) (fun _ i _ => l.length - (intOf i).toNat)
      case atStart => exact ⟨0, rfl, Nat.zero_le _, OwS.nil_ _ _, HB1.out⟩
      case round =>
        obtain ⟨k, rfl, hk, HO, HB⟩ := hrel
        obtain ⟨wo, rfl⟩ : ∃ wo : World, wo = wr := ⟨_, rfl⟩
        have hsp := spreadN_take HOK.out HBG.out k
        have hbs := HB.out.size
        by_cases hlt : k < l.length
        · have hs : l[k]? = some l[k] := List.getElem?_eq_getElem hlt
          generalize l[k] = s at hs
          obtain ⟨b, o, rfl, hB, c0, c1, c2, c3, c4⟩ := (HR.out.below HB.out).at_ hs
          have HN := Lib.hid (spreadN_succ hs)
          have hsk := HOK.out.2 s (List.mem_of_getElem? hs)
          have hs1 := hsk.1
          have hs2 := hsk.2.1
          have HV := Lib.hid (VarE.made wo s)
          obtain ⟨thr, who, kind, tw, times⟩ := s
          simp only at c0 c1 c2 c3 c4 hs1 hs2
          obtain ⟨tn, rfl⟩ := Int.eq_ofNat_of_zero_le (show 0 ≤ times by omega)
          simp only [oneE, Int.toNat_natCast] at HN
          have HBA : Hid (Below wo.heap.size wo (wo.alloc (.cells #[.bool thr, .int .i64 who, .int .u8 kind, .int .i64 tw, .int .i64 tn] 41))) := balloc (Below.refl _ _) _
          generalize spreadN (l.take k) = out at *
          go_upto_region 10 with fail
          have HO2 := Lib.hid (HO.out.below HBA.out)
          have HB2 := Lib.hid (bthen HB.out HBA.out)
          simp only at HV
          have HNE : Hid (∀ j, Value.ownBlock u6 = some j → j ≠ wo.heap.size) := fun j hj => by have := (own_block HO.out hj).choose_spec.2; omega
          have HLTB : Hid (wo.heap.size < (wo.alloc (.cells #[.bool thr, .int .i64 who, .int .u8 kind, .int .i64 tw, .int .i64 tn] 41)).heap.size) := by show _ < _; simp
          generalize hW : wo.alloc (.cells #[.bool thr, .int .i64 who, .int .u8 kind, .int .i64 tw, .int .i64 tn] 41) = wa at *
          generalize wo.heap.size = be at *
          clear hW c0 c1 c2 c3 c4 hB hs hsk
          go_wp2
          go_loopw [6, 9] (fun p i wr => ∃ (q : Nat), i = .int .i64 q ∧ q ≤ tn ∧ Hid (OwS wr w.heap.size p (out ++ List.replicate q ⟨thr, who, kind, tw, 1⟩)) ∧ Hid (Below w.heap.size w wr) ∧ Hid (VarE wr be ⟨thr, who, kind, tw, tn⟩) ∧ Hid (∀ j, p.ownBlock = some j → j ≠ be) ∧ be < wr.heap.size) (fun _ i _ => tn - (intOf i).toNat)
          case atStart => exact ⟨0, rfl, Nat.zero_le _, by show OwS _ _ _ _; simpa using HO2.out, HB2.out, HV.out, HNE.out, HLTB.out⟩
          case round =>
            obtain ⟨q, rfl, hq, HOq, HBq, HVq, HNEq, hbeq⟩ := hrel
            obtain ⟨wq, rfl⟩ : ∃ wq : World, wq = wr := ⟨_, rfl⟩
            obtain ⟨k0, k1, k2, k3, k4, kz⟩ := HVq.out
            simp only at k0 k1 k2 k3 k4
            have mk := World.block_lt_of_cell? _ _ k0
            by_cases hqt : q < tn
            · have hqt1 : (q : Int) < (tn : Int) := by omega
              have HN2 : Hid (out ++ List.replicate (q + 1) (⟨thr, who, kind, tw, 1⟩ : Ev) = (out ++ List.replicate q ⟨thr, who, kind, tw, 1⟩) ++ [⟨thr, who, kind, tw, 1⟩]) := by show _ = _; rw [List.replicate_succ', List.append_assoc]
              have hLq : (out ++ List.replicate q (⟨thr, who, kind, tw, 1⟩ : Ev)).length ≤ 8192 := by rw [List.length_append, List.length_replicate]; omega
              generalize out ++ List.replicate q (⟨thr, who, kind, tw, 1⟩ : Ev) = oq at *
              obtain ⟨P, cp, rfl, hcp, hrp⟩ := HOq.out.shape
              have HRD : Hid (RdS ((wq.alloc (.cells #[.bool thr, .int .i64 who, .int .u8 kind, .int .i64 tw, .int .i64 1] 41)).alloc (.cells #[.bool thr, .int .i64 who, .int .u8 kind, .int .i64 tw, .int .i64 1] 41)) (some ⟨wq.heap.size + 1, 0, none⟩) [⟨thr, who, kind, tw, 1⟩]) := by
                show RdS _ _ _
                have h := rd_ev (wq.alloc (.cells #[.bool thr, .int .i64 who, .int .u8 kind, .int .i64 tw, .int .i64 1] 41)) ⟨thr, who, kind, tw, 1⟩
                rwa [show (wq.alloc (.cells #[.bool thr, .int .i64 who, .int .u8 kind, .int .i64 tw, .int .i64 1] 41)).heap.size = wq.heap.size + 1 from by simp] at h
              have HBB : Hid (Below wq.heap.size wq ((wq.alloc (.cells #[.bool thr, .int .i64 who, .int .u8 kind, .int .i64 tw, .int .i64 1] 41)).alloc (.cells #[.bool thr, .int .i64 who, .int .u8 kind, .int .i64 tw, .int .i64 1] 41))) := balloc (balloc (Below.refl _ _) _) _
              have HO3 := Lib.hid (HOq.out.below HBB.out)
              have HB3 := Lib.hid (bthen HBq.out HBB.out)
              have HZ3 := Lib.hid HB3.out.size
              have HVB := Lib.hid (HVq.out.below HBB.out)
              have HNB : Hid (some be ≠ (Value.slice P oq.length cp).ownBlock) := fun e => HNEq.out be e.symm rfl
              have hlo : oq.length ≤ 100000 := by omega
              have HLO := Lib.hid hlo
              clear hrp
              go_wp2_with (at_builtin; refine wpl_appS1 rfl (.tmp 35) (.tmp 37) rfl w.heap.size _ oq ⟨thr, who, kind, tw, 1⟩ rfl HO3.out (wq.heap.size + 1) rfl HRD.out HLO.out HZ3.out ?_)
              intro g9 cap9 w9 ho hg hat
              have HB9 := Lib.hid (bownS HB3.out hg HO3.out)
              have HNE9 : Hid (∀ j, (Value.slice (some ⟨g9, 0, none⟩) (oq.length + 1) cap9).ownBlock = some j → j ≠ be) := fun j hj => by
                have hj' : g9 = j := by simpa [Value.ownBlock] using hj
                subst hj'
                rcases hat with h | h
                · exact HNEq.out g9 h
                · have h2 := HBB.out.size
                  omega
              have hb9 : be < w9.heap.size := by have h1 := hg.size; have h2 := HBB.out.size; omega
              have HO9 := Lib.hid ho
              have HV9 : Hid (VarE w9 be ⟨thr, who, kind, tw, tn⟩) := HVB.out.grown hg HNB.out
              clear ho hg hat k0 k1 k2 k3 k4 kz mk
              go_wp2
              go_roundw
              case rel => exact ⟨q + 1, by go_num, by omega, by rw [HN2.out]; exact HO9.out, HB9.out, HV9.out, HNE9.out, hb9⟩
              case measure => simp [intOf]; omega
            · have hq' : q = tn := by omega
              subst hq'
              go_wp2
              go_roundw
              case rel => exact ⟨k + 1, by go_num, by omega, by rw [HN.out]; exact HOq.out, HBq.out⟩
              case measure => simp [intOf]; omega
        · obtain rfl : k = l.length := by omega
          rw [List.take_length] at HO
          obtain ⟨P, cp, rfl, _, _⟩ := HO.out.shape
          go_wp2
          refine bodyPost_ret (v := .tuple #[.slice P (spreadN l).length cp, .int .i64 0]) (by simp [results, Tryd.results17, go_sem]) rfl ?_
          rw [HP.out]
          exact ⟨_, rfl, HO.out, HB.out⟩
    · have hb : (4096 : Int) < stepsN l [] := by omega
      have hEQ := Lib.hid (show spreadP l = ([], 6) from by unfold spreadP; rw [if_pos hok, if_neg hbig])
      clear hr hok hbig
      simp only at HC
      generalize stepsN l [] = z at *
      have HP : Hid (spreadP l = ([], 6)) := hEQ.out
      go_enter Tryd.func17, Tryd.ntmps17
      go_wp2_with (go_at_call 19; refine HC.out.mono ?_)
      rintro e w1 ⟨rfl, hb1⟩
      have HB1 := Lib.hid hb1
      clear hb1
      go_wp2
      refine bodyPost_ret (v := .tuple #[.slice none 0 0, .int .i64 6]) (by simp [results, Tryd.results17, go_sem]) rfl ?_
      rw [HP.out]
      exact ⟨_, rfl, OwS.nil_ _ _, HB1.out⟩
  · rw [show stepsP l [] = (0, 2) from if_neg hok] at HC
    have hEQ := Lib.hid (show spreadP l = ([], 2) from if_neg hok)
    clear hr hok
    simp only at HC
    have HP : Hid (spreadP l = ([], 2)) := hEQ.out
    go_enter Tryd.func17, Tryd.ntmps17
    go_wp2_with (go_at_call 19; refine HC.out.mono ?_)
    rintro e w1 ⟨rfl, hb1⟩
    have HB1 := Lib.hid hb1
    clear hb1
    go_wp2
    refine bodyPost_ret (v := .tuple #[.slice none 0 0, .int .i64 2]) (by simp [results, Tryd.results17, go_sem]) rfl ?_
    rw [HP.out]
    exact ⟨_, rfl, OwS.nil_ _ _, HB1.out⟩
end Go.Proofs.YtfgeomdfgjefdaaDoor
