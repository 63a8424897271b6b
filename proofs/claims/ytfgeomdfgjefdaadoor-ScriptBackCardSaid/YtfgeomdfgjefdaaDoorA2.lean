/- Steps, both; Same. -/
import Derived.Test.YtfgeomdfgjefdaaDoorA1
namespace Go.Proofs.YtfgeomdfgjefdaaDoor
open Go.RowKit
set_option linter.unusedVariables false
set_option linter.unusedSimpArgs false

structure VarE (w : World) (b : Nat) (e : Ev) : Prop where
  c0 : w.cell? ⟨b, 0, none⟩ = some (.bool e.thr)
  c1 : w.cell? ⟨b, 1, none⟩ = some (.int .i64 e.who)
  c2 : w.cell? ⟨b, 2, none⟩ = some (.int .u8 e.kind)
  c3 : w.cell? ⟨b, 3, none⟩ = some (.int .i64 e.tw)
  c4 : w.cell? ⟨b, 4, none⟩ = some (.int .i64 e.times)
  fz : w.frozen? ⟨b, 4, none⟩ = false
theorem VarE.below {w w1 : World} {b : Nat} {e : Ev} (h : VarE w b e) (hb : Below w.heap.size w w1) : VarE w1 b e := ⟨cell_later hb h.c0, cell_later hb h.c1, cell_later hb h.c2, cell_later hb h.c3, cell_later hb h.c4, (hb.frozen (World.block_lt_of_cell? _ _ h.c4)).trans h.fz⟩
theorem VarE.made (w : World) (e : Ev) : VarE (w.alloc (.cells #[.bool e.thr, .int .i64 e.who, .int .u8 e.kind, .int .i64 e.tw, .int .i64 e.times] 41)) w.heap.size e := ⟨by go_simp, by go_simp, by go_simp, by go_simp, by go_simp, by go_simp⟩
def takes (of : List Ev) (e : Ev) : Bool := of.isEmpty || of.any (likeE e)
def stepsN (l of : List Ev) : Int := ((l.filter (takes of)).map Ev.times).sum
def stepsP (l of : List Ev) : Int × Int := if okL l then (stepsN l of, 0) else (0, 2)
theorem stepsN_succ {l of : List Ev} {k : Nat} {s : Ev} (hs : l[k]? = some s) : stepsN (l.take (k + 1)) of = stepsN (l.take k) of + if takes of s = true then s.times else 0 := by
  unfold stepsN
  rw [List.take_add_one, hs]
  simp only [Option.toList_some, List.filter_append, List.map_append, List.sum_append]
  by_cases h : takes of s = true <;> simp [h]
theorem stepsN_bound {l of : List Ev} (h : ∀ e ∈ l, okEv e) : 0 ≤ stepsN l of ∧ stepsN l of ≤ 4096 * l.length := by
  unfold stepsN
  induction l with
  | nil => simp
  | cons x t ih =>
    have h1 := ih (fun e he => h e (List.mem_cons_of_mem _ he))
    have h2 := h x List.mem_cons_self
    have h3 := h2.1
    have h4 := h2.2.1
    rw [List.filter_cons]
    split
    · simp only [List.map_cons, List.sum_cons, List.length_cons]
      omega
    · simp only [List.length_cons]
      omega
theorem stepsN_le {l of : List Ev} (h : okL l) (k : Nat) : 0 ≤ stepsN (l.take k) of ∧ stepsN (l.take k) of ≤ 16777216 := by
  have h1 := stepsN_bound (l := l.take k) (of := of) (fun e he => h.2 e (List.mem_of_mem_take he))
  have h2 := h.1
  have h3 : (l.take k).length ≤ l.length := by rw [List.length_take]; omega
  omega
set_option maxRecDepth 100000 in
set_option maxHeartbeats 8000000 in
theorem clo33 (e x : Ev) (b : Nat) (w : World) (hv : VarE w b e) : Calls Tryd.prog 33 (#[x.v] ++ #[.pointer (some ⟨b, 0, none⟩)]) w (Ret (.bool (likeE e x)) w) := by
  have hb : Below w.heap.size w (w.alloc (.cells #[.bool x.thr, .int .i64 x.who, .int .u8 x.kind, .int .i64 x.tw, .int .i64 x.times] 41)) := balloc (Below.refl _ _) _
  have HC := Lib.hid (like29 e x (w.alloc (.cells #[.bool x.thr, .int .i64 x.who, .int .u8 x.kind, .int .i64 x.tw, .int .i64 x.times] 41)))
  have HB := Lib.hid hb
  obtain ⟨k0, k1, k2, k3, k4, -⟩ := hv
  have hlt := World.block_lt_of_cell? _ _ k0
  unfold Ev.v at HC ⊢
  clear hb
  generalize likeE e x = y at *
  simp only [List.append_toArray, List.cons_append, List.nil_append]
  go_enter Tryd.func33, Tryd.ntmps33
  go_wp2_with (go_at_call 29; refine HC.out.mono ?_)
  rintro e w1 ⟨rfl, hb1⟩
  have HB1 := Lib.hid (bthen HB.out hb1)
  clear hb1
  go_wp2
  go_ret
  exact ⟨rfl, HB1.out⟩
set_option maxRecDepth 100000 in
set_option maxHeartbeats 16000000 in
theorem steps18 (l of : List Ev) (A B : Option Addr) (c d : Nat) (w : World) (hr : RdS w A l) (hs : RdS w B of) :
    Calls Tryd.prog 18 #[.slice A l.length c, .slice B of.length d] w (Ret (.tuple #[.int .i64 (stepsP l of).1, .int .i64 (stepsP l of).2]) w) := by
  have hl := hr.len
  have hol := hs.len
  have HC := Lib.hid (check20 l A c w hr)
  have HR := Lib.hid hr
  have HO := Lib.hid hs
  clear hr hs
  by_cases hok : okL l
  · rw [show chkE l = 0 from if_pos hok] at HC
    have HP : Hid (stepsP l of = (stepsN l of, 0)) := if_pos hok
    have HOK := Lib.hid hok
    have hl2 : l.length ≤ 4096 := hok.1
    clear hok
    go_enter Tryd.func18, Tryd.ntmps18
    go_wp2_with (go_at_call 20; refine HC.out.mono ?_)
    rintro e w1 ⟨rfl, hb1⟩
    have HB1 := Lib.hid hb1
    clear hb1 HC
    go_wp2
    go_loopw [7, 17] (fun n i wr => ∃ (k : Nat), n = .int .i64 (stepsN (l.take k) of) ∧ k ≤ l.length ∧ i = .int .i64 k ∧ Hid (Below w.heap.size w wr)) (fun _ i _ => l.length - (intOf i).toNat)
    case atStart => exact ⟨0, rfl, Nat.zero_le _, rfl, HB1.out⟩
    case round =>
      obtain ⟨k, rfl, hk, rfl, HB⟩ := hrel
      have hbn := stepsN_le (of := of) HOK.out k
      by_cases hlt : k < l.length
      · have hs : l[k]? = some l[k] := List.getElem?_eq_getElem hlt
        generalize l[k] = s at hs
        obtain ⟨b, o, rfl, hB, c0, c1, c2, c3, c4⟩ := (HR.out.below HB.out).at_ hs
        have HN : Hid (stepsN (l.take (k + 1)) of = stepsN (l.take k) of + if takes of s = true then s.times else 0) := stepsN_succ hs
        have hsk := HOK.out.2 s (List.mem_of_getElem? hs)
        have hs1 := hsk.1
        have hs2 := hsk.2.1
        have HV := Lib.hid (VarE.made wr s)
        have HBA : Hid (Below w.heap.size w (wr.alloc (.cells #[.bool s.thr, .int .i64 s.who, .int .u8 s.kind, .int .i64 s.tw, .int .i64 s.times] 41))) := balloc HB.out _
        have HC2 : Hid (Calls Tryd.prog 32 #[.slice B of.length d, .func (.func 33) #[] #[.pointer (some ⟨wr.heap.size, 0, none⟩)]] (wr.alloc (.cells #[.bool s.thr, .int .i64 s.who, .int .u8 s.kind, .int .i64 s.tw, .int .i64 s.times] 41)) (Ret (.bool (of.any (likeE s))) (wr.alloc (.cells #[.bool s.thr, .int .i64 s.who, .int .u8 s.kind, .int .i64 s.tw, .int .i64 s.times] 41)))) :=
          contains32 of B d 33 #[.pointer (some ⟨wr.heap.size, 0, none⟩)] (likeE s) _ (HO.out.below HBA.out) (fun _ _ => rfl) (fun x _ w' hw' => clo33 s x _ w' (HV.out.below hw'))
        generalize stepsN (l.take k) of = z at *
        clear hs hsk
        by_cases hof : of.length = 0
        · have e1 : ((of.length : Int) == 0) = true := by rw [beq_iff_eq]; omega
          have HT : Hid (takes of s = true) := by show _ = _; unfold takes; rw [List.eq_nil_of_length_eq_zero hof]; rfl
          clear hof HC2
          go_wp2
          go_roundw
          case rel => exact ⟨k + 1, by rw [HN.out, if_pos HT.out], by omega, by go_num, HBA.out⟩
          case measure => simp [intOf]; omega
        · have e1 : ((of.length : Int) == 0) = false := by rw [beq_eq_false_iff_ne]; omega
          have HT : Hid (takes of s = of.any (likeE s)) := by show _ = _; unfold takes; rw [show of.isEmpty = false from by cases of with | nil => exact absurd rfl hof | cons => rfl]; rfl
          clear hof
          generalize of.any (likeE s) = y at *
          go_wp2_with (go_at_call 32; refine HC2.out.mono ?_)
          rintro e w3 ⟨rfl, hb3⟩
          have HB3 := Lib.hid (bthen HBA.out hb3)
          obtain ⟨k0, k1, k2, k3, k4, -⟩ := HV.out.below hb3
          have hlt3 := World.block_lt_of_cell? _ _ k0
          clear hb3 HC2
          cases y
          · go_wp2
            go_roundw
            case rel => exact ⟨k + 1, by rw [HN.out, HT.out]; simp, by omega, by go_num, HB3.out⟩
            case measure => simp [intOf]; omega
          · go_wp2
            go_roundw
            case rel => exact ⟨k + 1, by rw [HN.out, HT.out]; go_num, by omega, by go_num, HB3.out⟩
            case measure => simp [intOf]; omega
      · obtain rfl : k = l.length := by omega
        rw [List.take_length] at hbn ⊢
        generalize stepsN l of = z at *
        go_wp2
        refine bodyPost_ret (v := .tuple #[.int .i64 z, .int .i64 0]) (by simp [results, Tryd.results18, go_sem]) rfl ?_
        exact ⟨by rw [HP.out], HB.out⟩
  · rw [show chkE l = 2 from if_neg hok] at HC
    have HP : Hid (stepsP l of = (0, 2)) := if_neg hok
    clear hok
    go_enter Tryd.func18, Tryd.ntmps18
    go_wp2_with (go_at_call 20; refine HC.out.mono ?_)
    rintro e w1 ⟨rfl, hb1⟩
    have HB1 := Lib.hid hb1
    clear hb1
    go_wp2
    refine bodyPost_ret (v := .tuple #[.int .i64 0, .int .i64 2]) (by simp [results, Tryd.results18, go_sem]) rfl ?_
    exact ⟨by rw [HP.out], HB1.out⟩
set_option maxRecDepth 100000 in
set_option maxHeartbeats 16000000 in
theorem steps19 (l of : List Ev) (hk : ∀ e ∈ l, 0 ≤ e.kind) (A B : Option Addr) (c d : Nat) (w : World) (hr : RdS w A l) (hs : RdS w B of) :
    Calls Tryd.prog 19 #[.slice A l.length c, .slice B of.length d] w (Ret (.tuple #[.int .i64 (stepsP l of).1, .int .i64 (stepsP l of).2]) w) := by
  have hl := hr.len
  have hol := hs.len
  have HC := Lib.hid (check21 l hk A c w hr)
  have HR := Lib.hid hr
  have HO := Lib.hid hs
  clear hr hs hk
  by_cases hok : okL l
  · rw [show chkE l = 0 from if_pos hok] at HC
    have HP : Hid (stepsP l of = (stepsN l of, 0)) := if_pos hok
    have HOK := Lib.hid hok
    have hl2 : l.length ≤ 4096 := hok.1
    clear hok
    go_enter Tryd.func19, Tryd.ntmps19
    go_wp2_with (go_at_call 21; refine HC.out.mono ?_)
    rintro e w1 ⟨rfl, hb1⟩
    have HB1 := Lib.hid hb1
    clear hb1 HC
    go_wp2
    go_loopw [6, 17] (fun n i wr => ∃ (k : Nat), n = .int .i64 (stepsN (l.take k) of) ∧ k ≤ l.length ∧ i = .int .i64 k ∧ Hid (Below w.heap.size w wr)) (fun _ i _ => l.length - (intOf i).toNat)
    case atStart => exact ⟨0, rfl, Nat.zero_le _, rfl, HB1.out⟩
    case round =>
      obtain ⟨k, rfl, hk, rfl, HB⟩ := hrel
      obtain ⟨wo, rfl⟩ : ∃ wo : World, wo = wr := ⟨_, rfl⟩
      have hbn := stepsN_le (of := of) HOK.out k
      by_cases hlt : k < l.length
      · have hs : l[k]? = some l[k] := List.getElem?_eq_getElem hlt
        generalize l[k] = s at hs
        obtain ⟨b, o, rfl, hB, c0, c1, c2, c3, c4⟩ := (HR.out.below HB.out).at_ hs
        have HN : Hid (stepsN (l.take (k + 1)) of = stepsN (l.take k) of + if takes of s = true then s.times else 0) := stepsN_succ hs
        have hsk := HOK.out.2 s (List.mem_of_getElem? hs)
        have hs1 := hsk.1
        have hs2 := hsk.2.1
        have HV := Lib.hid (VarE.made wo s)
        have HBA : Hid (Below w.heap.size w (wo.alloc (.cells #[.bool s.thr, .int .i64 s.who, .int .u8 s.kind, .int .i64 s.tw, .int .i64 s.times] 41))) := balloc HB.out _
        generalize stepsN (l.take k) of = z at *
        clear hs hsk
        go_upto_region 8 with fail
        generalize hW : wo.alloc (.cells #[.bool s.thr, .int .i64 s.who, .int .u8 s.kind, .int .i64 s.tw, .int .i64 s.times] 41) = wa at *
        clear hW c0 c1 c2 c3 c4 hB
        generalize wo.heap.size = bo at *
        have E9 : Hid (((of.length : Int) == 0) = of.isEmpty) := by show _ = _; cases of with | nil => rfl | cons => rw [List.isEmpty_cons, beq_eq_false_iff_ne]; simp; omega
        go_wp2
        go_loopw [9, 26] (fun q i wr => ∃ (m : Nat), q = .bool (of.isEmpty || (of.take m).any (likeE s)) ∧ m ≤ of.length ∧ i = .int .i64 m ∧ Hid (Below wa.heap.size wa wr)) (fun _ i _ => of.length - (intOf i).toNat)
        case atStart => exact ⟨0, by simp [E9.out], Nat.zero_le _, rfl, Below.refl _ _⟩
        case round =>
          obtain ⟨m, rfl, hm, rfl, HBm⟩ := hrel
          by_cases hmt : m < of.length
          · have hx : of[m]? = some of[m] := List.getElem?_eq_getElem hmt
            generalize of[m] = x at hx
            obtain ⟨b2, o2, rfl, hB2, d0, d1, d2, d3, d4⟩ := (HO.out.below (bthen HBA.out HBm.out)).at_ hx
            have HN2 : Hid ((of.isEmpty || (of.take (m + 1)).any (likeE s)) = ((of.isEmpty || (of.take m).any (likeE s)) || likeE s x)) := by show _ = _; rw [List.take_add_one, hx]; simp [Bool.or_assoc]
            have HBX : Hid (Below wa.heap.size wa (wr.alloc (.cells #[.bool x.thr, .int .i64 x.who, .int .u8 x.kind, .int .i64 x.tw, .int .i64 x.times] 41))) := balloc HBm.out _
            have HC3 := Lib.hid (like30 s x (wr.alloc (.cells #[.bool x.thr, .int .i64 x.who, .int .u8 x.kind, .int .i64 x.tw, .int .i64 x.times] 41)))
            obtain ⟨k0, k1, k2, k3, k4, -⟩ := HV.out.below HBm.out
            have hlt3 := World.block_lt_of_cell? _ _ k0
            unfold Ev.v at HC3
            clear hx
            generalize (of.isEmpty || (of.take m).any (likeE s)) = y at *
            generalize likeE s x = u at *
            cases y
            · go_wp2_with (go_at_call 30; refine HC3.out.mono ?_)
              rintro e w5 ⟨rfl, hb5⟩
              have HB5 := Lib.hid (bthen HBX.out hb5)
              clear hb5
              go_wp2
              go_roundw
              case rel => exact ⟨m + 1, by rw [HN2.out]; simp, by omega, by go_num, HB5.out⟩
              case measure => simp [intOf]; omega
            · clear HC3
              go_wp2
              go_roundw
              case rel => exact ⟨m + 1, by rw [HN2.out]; simp, by omega, by go_num, HBX.out⟩
              case measure => simp [intOf]; omega
          · have hm' : m = of.length := by omega
            subst hm'
            rw [List.take_length]
            have HT : Hid (takes of s = (of.isEmpty || of.any (likeE s))) := rfl
            generalize (of.isEmpty || of.any (likeE s)) = y at *
            obtain ⟨k0, k1, k2, k3, k4, -⟩ := HV.out.below HBm.out
            have hlt3 := World.block_lt_of_cell? _ _ k0
            have HB6 := Lib.hid (bthen HBA.out HBm.out)
            cases y
            · go_wp2
              go_roundw
              case rel => exact ⟨k + 1, by rw [HN.out, HT.out]; simp, by omega, by go_num, HB6.out⟩
              case measure => simp [intOf]; omega
            · go_wp2
              go_roundw
              case rel => exact ⟨k + 1, by rw [HN.out, HT.out]; go_num, by omega, by go_num, HB6.out⟩
              case measure => simp [intOf]; omega
      · obtain rfl : k = l.length := by omega
        rw [List.take_length] at hbn ⊢
        generalize stepsN l of = z at *
        go_wp2
        refine bodyPost_ret (v := .tuple #[.int .i64 z, .int .i64 0]) (by simp [results, Tryd.results19, go_sem]) rfl ?_
        exact ⟨by rw [HP.out], HB.out⟩
  · rw [show chkE l = 2 from if_neg hok] at HC
    have HP : Hid (stepsP l of = (0, 2)) := if_neg hok
    clear hok
    go_enter Tryd.func19, Tryd.ntmps19
    go_wp2_with (go_at_call 21; refine HC.out.mono ?_)
    rintro e w1 ⟨rfl, hb1⟩
    have HB1 := Lib.hid hb1
    clear hb1
    go_wp2
    refine bodyPost_ret (v := .tuple #[.int .i64 0, .int .i64 2]) (by simp [results, Tryd.results19, go_sem]) rfl ?_
    exact ⟨by rw [HP.out], HB1.out⟩
end Go.Proofs.YtfgeomdfgjefdaaDoor
