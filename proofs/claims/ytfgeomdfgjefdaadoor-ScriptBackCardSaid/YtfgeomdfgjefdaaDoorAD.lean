/- The walk of the reference's read. -/
import Derived.Test.YtfgeomdfgjefdaaDoorAC
import Derived.Deep.RegionHeld3
namespace Go.Proofs.YtfgeomdfgjefdaaDoor
open Go.RowKit
set_option linter.unusedVariables false
set_option linter.unusedSimpArgs false

theorem nameL_len (k : Int) : (nameL k).length ≤ 6 := by
  unfold nameL
  repeat' split
  all_goals simp
theorem lineL_len {e : Ev} (h : okEv e) : (lineL e).length ≤ 60 := by
  have h1 := h.1
  have h2 := h.2.1
  have ht := dec_len20 (n := e.times.toNat) (by omega)
  have hn := nameL_len e.kind
  have hh : (headL e).length ≤ 30 := by
    unfold headL
    split
    · rename_i hthr
      have h3 := h.2.2
      rw [if_pos hthr] at h3
      have := dec_len20 (n := e.who.toNat) (by omega)
      simp
      omega
    · rename_i hthr
      have h3 := h.2.2
      rw [if_neg hthr] at h3
      split
      · rename_i hk
        have h4 := h3.2
        rw [if_pos hk] at h4
        have := dec_len20 (n := e.tw.toNat) (by omega)
        simp
        omega
      · omega
  unfold lineL
  rw [List.length_append]
  split
  · simp; omega
  · simp; omega
theorem heads_ok : ∀ e ∈ headsL, okEv e := by decide
theorem heads_kd : ∀ e ∈ headsL, 0 ≤ e.kind := by decide
theorem heads_len : headsL.length = 16 := by decide
theorem pre_eq (l hL : List UInt8) (n : Nat) : (((⟨l.toArray⟩ : ByteArray).extract 0 n).toList == ((⟨hL.toArray⟩ : ByteArray) ++ ⟨#[32, 42, 32]⟩).toList) = decide (l.take n = hL ++ [32, 42, 32]) := by
  rw [ByteArray.toList_eq, ByteArray.toList_eq, Lib.extract_from_zero]
  have h2 : ((⟨hL.toArray⟩ : ByteArray) ++ ⟨#[32, 42, 32]⟩).data.toList = hL ++ [32, 42, 32] := by simp
  rw [h2]
  by_cases h : l.take n = hL ++ [32, 42, 32]
  · rw [decide_eq_true h, beq_iff_eq]
    simpa using h
  · rw [decide_eq_false h, beq_eq_false_iff_ne]
    simpa using h
def scanR : Nat → List UInt8 → Option Nat
  | acc, [] => some acc
  | acc, c :: t => if 4096 < acc then some acc else if 48 ≤ c.toNat ∧ c.toNat ≤ 57 then scanR (10 * acc + (c.toNat - 48)) t else none
def goR (l : List UInt8) : List Ev → Ev × Bool
  | [] => (zeroEv, false)
  | e :: r => if l = lineL e then (e, true) else if l.length ≤ (lineL e).length + 3 ∨ l.take ((lineL e).length + 3) ≠ lineL e ++ [32, 42, 32] then goR l r
    else match scanR 0 (l.drop ((lineL e).length + 3)) with
      | none => (e, false)
      | some n => ({ e with times := (n : Int) }, decide ((n : Int) ≠ 1) && (decide (okEv { e with times := (n : Int) }) && decide (lineL { e with times := (n : Int) } = l)))
def readR (l : List UInt8) : Ev × Bool := goR l headsL
set_option maxRecDepth 100000 in
set_option maxHeartbeats 32000000 in
theorem read24 (l : List UInt8) (hl : l.length ≤ 100000) (w : World) : Calls Tryd.prog 24 #[strV l] w (RetEB (readR l).1 (readR l).2 w) := by
  have HV0 := Lib.hid (VarE.made w zeroEv)
  have HB0 : Hid (Below w.heap.size w (w.alloc (.cells #[.bool false, .int .i64 0, .int .u8 0, .int .i64 0, .int .i64 0] 41))) := balloc (Below.refl _ _) _
  have HF0 : Hid (∀ j, (w.alloc (.cells #[.bool false, .int .i64 0, .int .u8 0, .int .i64 0, .int .i64 0] 41)).frozen? ⟨w.heap.size, j, none⟩ = false) := fun j => by go_simp
  have HH := Lib.hid (heads41 (w.alloc (.cells #[.bool false, .int .i64 0, .int .u8 0, .int .i64 0, .int .i64 0] 41)))
  unfold strV RetEB
  go_enter Tryd.func24, Tryd.ntmps24
  go_wp2_with (go_at_call 41; refine HH.out.mono ?_)
  rintro e w1 ⟨v, rfl, ho, hb1⟩
  obtain ⟨P, cp, rfl, hcp, hrp⟩ := ho.shape
  have HR := Lib.hid hrp
  have HB1 := Lib.hid (bthen HB0.out hb1)
  have HV1 := Lib.hid (HV0.out.below hb1)
  have HF1 : Hid (∀ j, w1.frozen? ⟨w.heap.size, j, none⟩ = false) := fun j => (hb1.frozen (p := ⟨w.heap.size, j, none⟩) (by simp)).trans (HF0.out j)
  have hlt0 : w.heap.size < w1.heap.size := World.block_lt_of_cell? _ _ HV1.out.c0
  have HPR : Hid (readR l = goR l headsL) := rfl
  have HOK := Lib.hid heads_ok
  have heads_kind : Hid (∀ e ∈ headsL, 0 ≤ e.kind) := heads_kd
  have h16 := heads_len
  clear ho hrp hb1 HH HV0 HF0 HB0
  generalize headsL = hs at *
  go_wp2
  go_loopw [11] (fun i wr => ∃ (k : Nat), i = .int .i64 k ∧ k ≤ hs.length ∧ Hid (goR l (hs.drop k) = goR l hs) ∧ Hid (Below w1.heap.size w1 wr)) (fun i _ => hs.length - (intOf i).toNat)
  case atStart => exact ⟨0, rfl, Nat.zero_le _, rfl, Below.refl _ _⟩
  case round =>
    obtain ⟨k, rfl, hk, HK, HB⟩ := hrel
    obtain ⟨wo, rfl⟩ : ∃ wo : World, wo = wr := ⟨_, rfl⟩
    by_cases hlt : k < hs.length
    · have hx : hs[k]? = some hs[k] := List.getElem?_eq_getElem hlt
      have HD : Hid (hs.drop k = hs[k] :: hs.drop (k + 1)) := List.drop_eq_getElem_cons hlt
      generalize hs[k] = s at hx HD
      have hsk := HOK.out s (List.mem_of_getElem? hx)
      have HMEM := Lib.hid (List.mem_of_getElem? hx)
      obtain ⟨b, o, rfl, hB, c0, c1, c2, c3, c4⟩ := (HR.out.below HB.out).at_ hx
      have HLN := Lib.hid (line28 s hsk)
      have hll := lineL_len hsk
      have HGO : Hid (goR l (hs.drop k) = if l = lineL s then (s, true) else if l.length ≤ (lineL s).length + 3 ∨ l.take ((lineL s).length + 3) ≠ lineL s ++ [32, 42, 32] then goR l (hs.drop (k + 1))
        else match scanR 0 (l.drop ((lineL s).length + 3)) with
          | none => (s, false)
          | some n => ({ s with times := (n : Int) }, decide ((n : Int) ≠ 1) && (decide (okEv { s with times := (n : Int) }) && decide (lineL { s with times := (n : Int) } = l)))) := by show _ = _; rw [HD.out, goR]
      have HVS := Lib.hid (VarE.made wo s)
      have HBA : Hid (Below wo.heap.size wo (wo.alloc (.cells #[.bool s.thr, .int .i64 s.who, .int .u8 s.kind, .int .i64 s.tw, .int .i64 s.times] 41))) := balloc (Below.refl _ _) _
      have HLX := Lib.hid (HLN.out (wo.alloc (.cells #[.bool s.thr, .int .i64 s.who, .int .u8 s.kind, .int .i64 s.tw, .int .i64 s.times] 41)))
      generalize lineL s = hL at *
      unfold Ev.v strV at HLX
      have HB2 := Lib.hid (bthen HB.out HBA.out)
      clear hx HD hsk HLN
      go_wp2_with (go_at_call 28; refine HLX.out.mono ?_)
      rintro e w3 ⟨rfl, hb3⟩
      have HB3 := Lib.hid (bthen HB2.out hb3)
      have HV3 := Lib.hid (HVS.out.below hb3)
      clear hb3 HLX HVS c0 c1 c2 c3 c4
      have hk0 := heads_kind.out s HMEM.out
      have HR3' : Hid (RdV w w3 wo.heap.size s) := by
        have hbl := HB3.out.size
        exact ⟨HV1.out.below HB3.out, fun j => (HB3.out.frozen (p := ⟨w.heap.size, j, none⟩) hlt0).trans (HF1.out j), HV3.out, by have := HB.out.size; omega, bthen HB1.out HB3.out, by have := HB.out.size; omega⟩
      generalize wo.heap.size = b5 at *
      obtain ⟨t0, wh0, k0, tw0, n0'⟩ := s
      simp only at hk0
      clear HV3
      by_cases he : l = hL
      · rw [if_pos he] at HGO
        have HFIN := Lib.hid (HPR.out.trans (HK.out.symm.trans HGO.out))
        obtain ⟨k0c, k1c, k2c, k3c, k4c, -⟩ := HR3'.out.v7
        obtain ⟨p0, p1, p2, p3, p4, -⟩ := HR3'.out.v2
        simp only [zeroEv] at k0c k1c k2c k3c k4c p0 p1 p2 p3 p4
        have mkc := World.block_lt_of_cell? _ _ k0c
        have mp := World.block_lt_of_cell? _ _ p0
        have y2 := HR3'.out.f2
        clear HGO HK
        subst he
        go_wp2
        have hv := (HR3'.out.v2).put (⟨t0, wh0, k0, tw0, n0'⟩ : Ev)
        have hbl : Below w.heap.size w (put5 w3 w.heap.size (⟨t0, wh0, k0, tw0, n0'⟩ : Ev)) := below_put5 (HR3'.out.below) _
        unfold put5 at hv hbl
        obtain ⟨f0, f1, f2, f3, f4, -⟩ := hv
        try simp only [zeroEv] at f0 f1 f2 f3 f4 hbl
        refine bodyPost_ret (v := .tuple #[Ev.v (⟨t0, wh0, k0, tw0, n0'⟩ : Ev), .bool true]) (by simp [results, Tryd.results24, go_sem, f0, f1, f2, f3, f4, Ev.v, zeroEv]) rfl ?_
        rw [HFIN.out]
        exact ⟨rfl, hbl⟩
      · rw [if_neg he] at HGO
        obtain ⟨q1, q2, q3, q4⟩ := str_ne he
        by_cases h3 : l.length ≤ hL.length + 3
        · rw [if_pos (.inl h3)] at HGO
          have HK2 := Lib.hid (HGO.out.symm.trans HK.out)
          have h31 : (l.length : Int) ≤ (hL.length : Int) + 3 := by omega
          clear HGO HK
          go_wp2
          go_roundw
          case rel => exact ⟨k + 1, by go_num, by omega, HK2.out, HB3.out⟩
          case measure => simp [intOf]; omega
        · have h31 : ¬ (l.length : Int) ≤ (hL.length : Int) + 3 := by omega
          have hE := pre_eq l hL (hL.length + 3)
          by_cases hp : l.take (hL.length + 3) = hL ++ [32, 42, 32]
          · rw [decide_eq_true hp] at hE
            rw [if_neg (fun h => h.elim h3 (fun h => h hp))] at HGO
            clear hp
            obtain ⟨n0, hn0⟩ : ∃ n0, hL.length + 3 = n0 := ⟨_, rfl⟩
            rw [hn0] at HGO
            have HN0 := Lib.hid hn0
            clear hn0
            go_wp2
            clear hE
            go_loopw [7, 8] (fun x i w4 => ∃ (m q : Nat), x = .int .i64 m ∧ i = .int .i64 q ∧ q ≤ l.length ∧ m ≤ 40970 ∧ Hid (scanR m (l.drop q) = scanR 0 (l.drop n0)) ∧ Hid (Below w3.heap.size w3 w4)) (fun _ i _ => l.length - (intOf i).toNat)
            case atStart => exact ⟨0, hL.length + 3, rfl, by go_num, by omega, by omega, by rw [HN0.out]; exact Eq.refl (scanR 0 (l.drop n0)), Below.refl _ _⟩
            case round =>
              obtain ⟨m, q, rfl, rfl, hq, hm, HS, HB4⟩ := hrel
              obtain ⟨w4, rfl⟩ : ∃ w4 : World, w4 = wr := ⟨_, rfl⟩
              have HR4 := Lib.hid (HR3'.out.later HB4.out)
              by_cases hgo : q < l.length ∧ m ≤ 4096
              · obtain ⟨hql, hm4⟩ := hgo
                have hql1 : (q : Int) < (l.length : Int) := by omega
                have hm41 : (m : Int) ≤ 4096 := by omega
                have hsz : q < (⟨l.toArray⟩ : ByteArray).size := by simp [ByteArray.size]; exact hql
                obtain ⟨ch, hch⟩ : ∃ ch, l[q] = ch := ⟨_, rfl⟩
                have hch2 : (⟨l.toArray⟩ : ByteArray)[q] = ch := hch
                have HSC : Hid (scanR m (l.drop q) = if 48 ≤ ch.toNat ∧ ch.toNat ≤ 57 then scanR (10 * m + (ch.toNat - 48)) (l.drop (q + 1)) else none) := by
                  show _ = _
                  rw [List.drop_eq_getElem_cons hql, hch, scanR, if_neg (by omega)]
                have hchb : ch.toNat < 256 := ch.toNat_lt
                clear hch
                by_cases hdg : 48 ≤ ch.toNat ∧ ch.toNat ≤ 57
                · rw [if_pos hdg] at HSC
                  have hd1 : ¬ (ch.toNat : Int) < 48 := by omega
                  have hd2 : ¬ (57 : Int) < (ch.toNat : Int) := by omega
                  have HS2 := Lib.hid (HSC.out.symm.trans HS.out)
                  obtain ⟨x, hx⟩ : ∃ x, ch.toNat = x := ⟨_, rfl⟩
                  rw [hx] at HS2 hd1 hd2 hdg hchb
                  have hx1 : 48 ≤ x := hdg.1
                  have hx2 : x ≤ 57 := hdg.2
                  clear hdg HSC
                  go_wp2
                  go_roundw
                  case rel => exact ⟨10 * m + (x - 48), q + 1, by rw [Value.int.injEq]; exact ⟨rfl, by omega⟩, by go_num, by omega, by omega, HS2.out, HB4.out⟩
                  case measure => simp [intOf]; omega
                · rw [if_neg hdg] at HSC
                  have HSN := Lib.hid (HS.out.symm.trans HSC.out)
                  rw [HSN.out] at HGO
                  have HFIN := Lib.hid (HPR.out.trans (HK.out.symm.trans HGO.out))
                  have hdd : (ch.toNat : Int) < 48 ∨ (¬ (ch.toNat : Int) < 48 ∧ (57 : Int) < (ch.toNat : Int)) := by omega
                  obtain ⟨k0c, k1c, k2c, k3c, k4c, -⟩ := HR4.out.v7
                  obtain ⟨p0, p1, p2, p3, p4, -⟩ := HR4.out.v2
                  simp only [zeroEv] at k0c k1c k2c k3c k4c p0 p1 p2 p3 p4
                  have mkc := World.block_lt_of_cell? _ _ k0c
                  have mp := World.block_lt_of_cell? _ _ p0
                  have y2 := HR4.out.f2
                  clear HGO HK hdg HSC HSN HS
                  rcases hdd with hd1 | ⟨hd1, hd2⟩
                  all_goals
                    go_wp2
                    have hv := (HR4.out.v2).put (⟨t0, wh0, k0, tw0, n0'⟩ : Ev)
                    have hbl : Below w.heap.size w (put5 w4 w.heap.size (⟨t0, wh0, k0, tw0, n0'⟩ : Ev)) := below_put5 (HR4.out.below) _
                    unfold put5 at hv hbl
                    obtain ⟨f0, f1, f2, f3, f4, -⟩ := hv
                    try simp only [zeroEv] at f0 f1 f2 f3 f4 hbl
                    refine bodyPost_ret (v := .tuple #[Ev.v (⟨t0, wh0, k0, tw0, n0'⟩ : Ev), .bool false]) (by simp [results, Tryd.results24, go_sem, f0, f1, f2, f3, f4, Ev.v, zeroEv]) rfl ?_
                    rw [HFIN.out]
                    exact ⟨rfl, hbl⟩
              · have HSE : Hid (scanR m (l.drop q) = some m) := by
                  show _ = _
                  by_cases hql : q < l.length
                  · rw [List.drop_eq_getElem_cons hql, scanR, if_pos (by omega)]
                  · rw [List.drop_of_length_le (by omega), scanR]
                have HSN := Lib.hid (HS.out.symm.trans HSE.out)
                rw [HSN.out] at HGO
                have HFI := Lib.hid (HPR.out.trans (HK.out.symm.trans HGO.out))
                simp only at HFI
                have HRS := Lib.hid (HR4.out.setT (m : Int))
                simp only at HRS
                obtain ⟨k0c, k1c, k2c, k3c, k4c, kzc⟩ := HR4.out.v7
                simp only at k0c k1c k2c k3c k4c
                have mkc := World.block_lt_of_cell? _ _ k0c
                have hmx : (m : Int) ≤ 40970 := by omega
                clear HGO HK HSE HSN HS
                have hgo2 : ¬ (q : Int) < (l.length : Int) ∨ ((q : Int) < (l.length : Int) ∧ ¬ (m : Int) ≤ 4096) := by omega
                rcases hgo2 with hg1 | ⟨hg1, hg2⟩
                · go_upto_region 16 with fail
                  clear k0c k1c k2c k3c k4c kzc mkc
                  generalize w4.setCell ⟨b5, 4, none⟩ (.int .i64 (m : Int)) = w5 at *
                  have HR15 := Lib.hid HRS.out
                  by_cases hn1 : m = 1
                  · have hn11 : ((m : Int) == 1) = true := by simp [hn1]
                    have hn13 : ((m : Int) != 1) = false := by simp [hn1]
                    have HFIN : Hid (readR l = (⟨t0, wh0, k0, tw0, m⟩, false)) := by show _ = _; rw [HFI.out, decide_eq_false (by simp [hn1]), Bool.false_and]
                    clear hn1
                    refine wp_region_held_drew (S := fun W => W.cell? ⟨b5, 0, none⟩ = some (.bool t0) ∧ W.cell? ⟨b5, 1, none⟩ = some (.int .i64 wh0) ∧ W.cell? ⟨b5, 2, none⟩ = some (.int .u8 k0) ∧ W.cell? ⟨b5, 3, none⟩ = some (.int .i64 tw0) ∧ W.cell? ⟨b5, 4, none⟩ = some (.int .i64 (m : Int))) (by kernel_rfl) (HR15.out.later (Below.refl _ _).drew).v7.five (fun hHeld => ?_)
                    have HR6 := Lib.hid (HR15.out.later (Below.refl _ _).drew)
                    generalize w5.drew = w6 at *
                    refine wpAnyH_take (i := 0) (oi := _) (v := ?_) rfl (by kernel_rfl) (by kernel_rfl) (by kernel_rfl) (fun _ _ _ h => h) (Or.inl ⟨by rfl, ?_⟩) (by assumption) ?_
                    rotate_left
                    · intro w hSw
                      try dsimp only at hSw
                      obtain ⟨s0, s1, s2, s3, s4⟩ := hSw
                      go_simp
                      all_goals with_reducible rfl
                    try simp only [Act.put, List.setIfInBounds_toArray, List.set_cons_zero, List.set_cons_succ, List.getElem_toArray, List.getElem_cons_zero, List.getElem_cons_succ]
                    refine wpAnyH_take (i := 1) (oi := _) (v := ?_) rfl (by kernel_rfl) (by kernel_rfl) (by kernel_rfl) (fun _ _ _ h => h) (Or.inl ⟨by rfl, ?_⟩) (by assumption) ?_
                    rotate_left
                    · intro w hSw
                      try dsimp only at hSw
                      obtain ⟨s0, s1, s2, s3, s4⟩ := hSw
                      go_simp
                      all_goals with_reducible rfl
                    try simp only [Act.put, List.setIfInBounds_toArray, List.set_cons_zero, List.set_cons_succ, List.getElem_toArray, List.getElem_cons_zero, List.getElem_cons_succ]
                    refine wpAnyH_take (i := 2) (oi := _) (v := ?_) rfl (by kernel_rfl) (by kernel_rfl) (by kernel_rfl) (fun _ _ _ h => h) (Or.inl ⟨by rfl, ?_⟩) (by assumption) ?_
                    rotate_left
                    · intro w hSw
                      try dsimp only at hSw
                      obtain ⟨s0, s1, s2, s3, s4⟩ := hSw
                      go_simp
                      all_goals with_reducible rfl
                    try simp only [Act.put, List.setIfInBounds_toArray, List.set_cons_zero, List.set_cons_succ, List.getElem_toArray, List.getElem_cons_zero, List.getElem_cons_succ]
                    refine wpAnyH_take (i := 3) (oi := _) (v := ?_) rfl (by kernel_rfl) (by kernel_rfl) (by kernel_rfl) (fun _ _ _ h => h) (Or.inl ⟨by rfl, ?_⟩) (by assumption) ?_
                    rotate_left
                    · intro w hSw
                      try dsimp only at hSw
                      obtain ⟨s0, s1, s2, s3, s4⟩ := hSw
                      go_simp
                      all_goals with_reducible rfl
                    try simp only [Act.put, List.setIfInBounds_toArray, List.set_cons_zero, List.set_cons_succ, List.getElem_toArray, List.getElem_cons_zero, List.getElem_cons_succ]
                    refine wpAnyH_take (i := 4) (oi := _) (v := undef) rfl (by kernel_rfl) (by kernel_rfl) (by kernel_rfl) (fun _ _ _ h => h) (Or.inr ⟨by rfl, rfl⟩) (by assumption) ?_
                    try simp only [Act.put, List.setIfInBounds_toArray, List.set_cons_zero, List.set_cons_succ, List.getElem_toArray, List.getElem_cons_zero, List.getElem_cons_succ]
                    refine wpAnyH_take (i := 5) (oi := _) (v := undef) rfl (by kernel_rfl) (by kernel_rfl) (by kernel_rfl) (fun _ _ _ h => h) (Or.inr ⟨by rfl, rfl⟩) (by assumption) ?_
                    try simp only [Act.put, List.setIfInBounds_toArray, List.set_cons_zero, List.set_cons_succ, List.getElem_toArray, List.getElem_cons_zero, List.getElem_cons_succ]
                    refine wpAnyH_take (i := 6) (oi := _) (v := ?_) rfl (by kernel_rfl) (by kernel_rfl) (by kernel_rfl) (fun _ _ _ h => h) (Or.inl ⟨by rfl, ?_⟩) (by assumption) ?_
                    rotate_left
                    · intro w hSw
                      try dsimp only at hSw
                      obtain ⟨s0, s1, s2, s3, s4⟩ := hSw
                      go_simp
                      all_goals with_reducible rfl
                    try simp only [Act.put, List.setIfInBounds_toArray, List.set_cons_zero, List.set_cons_succ, List.getElem_toArray, List.getElem_cons_zero, List.getElem_cons_succ]
                    refine wpAnyH_take (i := 7) (oi := _) (v := ?_) rfl (by kernel_rfl) (by kernel_rfl) (by kernel_rfl) (fun _ _ _ h => h) (Or.inl ⟨by rfl, ?_⟩) (by assumption) ?_
                    rotate_left
                    · intro w hSw
                      try dsimp only at hSw
                      obtain ⟨s0, s1, s2, s3, s4⟩ := hSw
                      go_simp
                      all_goals with_reducible rfl
                    try simp only [Act.put, List.setIfInBounds_toArray, List.set_cons_zero, List.set_cons_succ, List.getElem_toArray, List.getElem_cons_zero, List.getElem_cons_succ]
                    refine wpAnyH_take (i := 8) (oi := _) (v := undef) rfl (by kernel_rfl) (by kernel_rfl) (by kernel_rfl) (fun _ _ _ h => h) (Or.inr ⟨by rfl, rfl⟩) (by assumption) ?_
                    try simp only [Act.put, List.setIfInBounds_toArray, List.set_cons_zero, List.set_cons_succ, List.getElem_toArray, List.getElem_cons_zero, List.getElem_cons_succ]
                    refine wpAnyH_take (i := 9) (oi := _) (v := undef) rfl (by kernel_rfl) (by kernel_rfl) (by kernel_rfl) (fun _ _ _ h => h) (Or.inr ⟨by rfl, rfl⟩) (by assumption) ?_
                    try simp only [Act.put, List.setIfInBounds_toArray, List.set_cons_zero, List.set_cons_succ, List.getElem_toArray, List.getElem_cons_zero, List.getElem_cons_succ]
                    refine wpAnyH_take (i := 10) (oi := _) (v := undef) rfl (by kernel_rfl) (by kernel_rfl) (by kernel_rfl) (fun _ _ _ h => h) (Or.inr ⟨by rfl, rfl⟩) (by assumption) ?_
                    try simp only [Act.put, List.setIfInBounds_toArray, List.set_cons_zero, List.set_cons_succ, List.getElem_toArray, List.getElem_cons_zero, List.getElem_cons_succ]
                    refine wpAnyH_take (i := 11) (oi := _) (v := undef) rfl (by kernel_rfl) (by kernel_rfl) (by kernel_rfl) (fun _ _ _ h => h) (Or.inr ⟨by rfl, rfl⟩) (by assumption) ?_
                    try simp only [Act.put, List.setIfInBounds_toArray, List.set_cons_zero, List.set_cons_succ, List.getElem_toArray, List.getElem_cons_zero, List.getElem_cons_succ]
                    refine wpAnyH_take (i := 12) (oi := _) (v := ?_) rfl (by kernel_rfl) (by kernel_rfl) (by kernel_rfl) (fun _ _ _ h => h) (Or.inl ⟨by rfl, ?_⟩) (by assumption) ?_
                    rotate_left
                    · intro w hSw
                      try dsimp only at hSw
                      obtain ⟨s0, s1, s2, s3, s4⟩ := hSw
                      go_simp
                      all_goals with_reducible rfl
                    try simp only [Act.put, List.setIfInBounds_toArray, List.set_cons_zero, List.set_cons_succ, List.getElem_toArray, List.getElem_cons_zero, List.getElem_cons_succ]
                    obtain ⟨p0, p1, p2, p3, p4, -⟩ := HR6.out.v2
                    simp only [zeroEv] at p0 p1 p2 p3 p4
                    have y2 := HR6.out.f2
                    have mp := World.block_lt_of_cell? _ _ p0
                    refine wpAnyH_ready (rs := [13]) (by kernel_rfl) (by simp) ?_
                    refine AllReadyH.cons (o := _) rfl (fun K hK => ?_) AllReadyH.nil
                    go_simp
                    refine hK.out _ _ (put5_other (e := ⟨t0, wh0, k0, tw0, m⟩) HR6.out.v7 HR6.out.ne).five (fun hHeld => ?_)
                    clear hK K
                    try simp only [Act.put, List.setIfInBounds_toArray, List.set_cons_zero, List.set_cons_succ, List.getElem_toArray, List.getElem_cons_zero, List.getElem_cons_succ]
                    clear p0 p1 p2 p3 p4 y2 mp
                    refine wpAnyH_take (i := 14) (oi := _) (v := ?_) rfl (by kernel_rfl) (by kernel_rfl) (by kernel_rfl) (fun _ _ _ h => h) (Or.inl ⟨by rfl, ?_⟩) (by assumption) ?_
                    rotate_left
                    · intro w hSw
                      try dsimp only at hSw
                      obtain ⟨s0, s1, s2, s3, s4⟩ := hSw
                      go_simp
                      all_goals with_reducible rfl
                    try simp only [Act.put, List.setIfInBounds_toArray, List.set_cons_zero, List.set_cons_succ, List.getElem_toArray, List.getElem_cons_zero, List.getElem_cons_succ]
                    refine wpAnyH_done (by kernel_rfl) ?_ _
                    go_wp2
                    have hv := (HR6.out.v2).put (⟨t0, wh0, k0, tw0, m⟩ : Ev)
                    have hbl : Below w.heap.size w (put5 w6 w.heap.size (⟨t0, wh0, k0, tw0, m⟩ : Ev)) := below_put5 (HR6.out.below) _
                    unfold put5 at hv hbl
                    obtain ⟨f0, f1, f2, f3, f4, -⟩ := hv
                    try simp only [zeroEv] at f0 f1 f2 f3 f4 hbl
                    refine bodyPost_ret (v := .tuple #[Ev.v (⟨t0, wh0, k0, tw0, m⟩ : Ev), .bool false]) (by simp [results, Tryd.results24, go_sem, f0, f1, f2, f3, f4, Ev.v, zeroEv]) rfl ?_
                    rw [HFIN.out]
                    exact ⟨rfl, hbl⟩
                  · have hn11 : ((m : Int) == 1) = false := by rw [beq_eq_false_iff_ne]; omega
                    have hn12 : ¬ (m : Int) = 1 := by omega
                    have hn13 : ((m : Int) != 1) = true := by simp; omega
                    rw [decide_eq_true hn12, Bool.true_and] at HFI
                    refine wp_region_held_drew (S := fun W => W.cell? ⟨b5, 0, none⟩ = some (.bool t0) ∧ W.cell? ⟨b5, 1, none⟩ = some (.int .i64 wh0) ∧ W.cell? ⟨b5, 2, none⟩ = some (.int .u8 k0) ∧ W.cell? ⟨b5, 3, none⟩ = some (.int .i64 tw0) ∧ W.cell? ⟨b5, 4, none⟩ = some (.int .i64 (m : Int))) (by kernel_rfl) (HR15.out.later (Below.refl _ _).drew).v7.five (fun hHeld => ?_)
                    have HR6 := Lib.hid (HR15.out.later (Below.refl _ _).drew)
                    generalize w5.drew = w6 at *
                    refine wpAnyH_take (i := 0) (oi := _) (v := ?_) rfl (by kernel_rfl) (by kernel_rfl) (by kernel_rfl) (fun _ _ _ h => h) (Or.inl ⟨by rfl, ?_⟩) (by assumption) ?_
                    rotate_left
                    · intro w hSw
                      try dsimp only at hSw
                      obtain ⟨s0, s1, s2, s3, s4⟩ := hSw
                      go_simp
                      all_goals with_reducible rfl
                    try simp only [Act.put, List.setIfInBounds_toArray, List.set_cons_zero, List.set_cons_succ, List.getElem_toArray, List.getElem_cons_zero, List.getElem_cons_succ]
                    refine wpAnyH_take (i := 1) (oi := _) (v := ?_) rfl (by kernel_rfl) (by kernel_rfl) (by kernel_rfl) (fun _ _ _ h => h) (Or.inl ⟨by rfl, ?_⟩) (by assumption) ?_
                    rotate_left
                    · intro w hSw
                      try dsimp only at hSw
                      obtain ⟨s0, s1, s2, s3, s4⟩ := hSw
                      go_simp
                      all_goals with_reducible rfl
                    try simp only [Act.put, List.setIfInBounds_toArray, List.set_cons_zero, List.set_cons_succ, List.getElem_toArray, List.getElem_cons_zero, List.getElem_cons_succ]
                    refine wpAnyH_take (i := 2) (oi := _) (v := ?_) rfl (by kernel_rfl) (by kernel_rfl) (by kernel_rfl) (fun _ _ _ h => h) (Or.inl ⟨by rfl, ?_⟩) (by assumption) ?_
                    rotate_left
                    · intro w hSw
                      try dsimp only at hSw
                      obtain ⟨s0, s1, s2, s3, s4⟩ := hSw
                      go_simp
                      all_goals with_reducible rfl
                    try simp only [Act.put, List.setIfInBounds_toArray, List.set_cons_zero, List.set_cons_succ, List.getElem_toArray, List.getElem_cons_zero, List.getElem_cons_succ]
                    refine wpAnyH_take (i := 3) (oi := _) (v := ?_) rfl (by kernel_rfl) (by kernel_rfl) (by kernel_rfl) (fun _ _ _ h => h) (Or.inl ⟨by rfl, ?_⟩) (by assumption) ?_
                    rotate_left
                    · intro w hSw
                      try dsimp only at hSw
                      obtain ⟨s0, s1, s2, s3, s4⟩ := hSw
                      go_simp
                      all_goals with_reducible rfl
                    try simp only [Act.put, List.setIfInBounds_toArray, List.set_cons_zero, List.set_cons_succ, List.getElem_toArray, List.getElem_cons_zero, List.getElem_cons_succ]
                    refine wpAnyH_take (i := 4) (oi := _) (v := ?_) rfl (by kernel_rfl) (by kernel_rfl) (by kernel_rfl) (fun _ _ _ h => h) (Or.inl ⟨by rfl, ?_⟩) (by assumption) ?_
                    rotate_left
                    · intro w hSw
                      try dsimp only at hSw
                      obtain ⟨s0, s1, s2, s3, s4⟩ := hSw
                      go_simp
                      all_goals with_reducible rfl
                    try simp only [Act.put, List.setIfInBounds_toArray, List.set_cons_zero, List.set_cons_succ, List.getElem_toArray, List.getElem_cons_zero, List.getElem_cons_succ]
                    have HRT := Lib.hid (right36 ⟨t0, wh0, k0, tw0, m⟩ hk0 w6)
                    unfold Ev.v at HRT
                    simp only at HRT
                    by_cases hok : okEv ⟨t0, wh0, k0, tw0, m⟩
                    · rw [decide_eq_true hok] at HRT
                      rw [decide_eq_true hok, Bool.true_and] at HFI
                      have HLX2 := Lib.hid (fun W => line28 ⟨t0, wh0, k0, tw0, m⟩ hok W)
                      unfold Ev.v at HLX2
                      simp only at HLX2
                      clear hok
                      refine wpAnyH_ready (rs := [5]) (by kernel_rfl) (by simp) ?_
                      refine AllReadyH.cons (o := _) rfl (fun K hK => ?_) AllReadyH.nil
                      go_simp
                      go_at_call 36
                      refine HRT.out.mono ?_
                      rintro e w7 ⟨rfl, hb7⟩
                      have HR7 := Lib.hid (HR6.out.later hb7)
                      have HLW := Lib.hid (HLX2.out w7)
                      clear hb7 HRT HLX2 HR6
                      go_simp
                      refine hK.out _ _ HR7.out.v7.five (fun hHeld => ?_)
                      clear hK K
                      try simp only [Act.put, List.setIfInBounds_toArray, List.set_cons_zero, List.set_cons_succ, List.getElem_toArray, List.getElem_cons_zero, List.getElem_cons_succ]
                      refine wpAnyH_take (i := 6) (oi := _) (v := ?_) rfl (by kernel_rfl) (by kernel_rfl) (by kernel_rfl) (fun _ _ _ h => h) (Or.inl ⟨by rfl, ?_⟩) (by assumption) ?_
                      rotate_left
                      · intro w hSw
                        try dsimp only at hSw
                        obtain ⟨s0, s1, s2, s3, s4⟩ := hSw
                        go_simp
                        all_goals with_reducible rfl
                      try simp only [Act.put, List.setIfInBounds_toArray, List.set_cons_zero, List.set_cons_succ, List.getElem_toArray, List.getElem_cons_zero, List.getElem_cons_succ]
                      refine wpAnyH_take (i := 7) (oi := _) (v := ?_) rfl (by kernel_rfl) (by kernel_rfl) (by kernel_rfl) (fun _ _ _ h => h) (Or.inl ⟨by rfl, ?_⟩) (by assumption) ?_
                      rotate_left
                      · intro w hSw
                        try dsimp only at hSw
                        obtain ⟨s0, s1, s2, s3, s4⟩ := hSw
                        go_simp
                        all_goals with_reducible rfl
                      try simp only [Act.put, List.setIfInBounds_toArray, List.set_cons_zero, List.set_cons_succ, List.getElem_toArray, List.getElem_cons_zero, List.getElem_cons_succ]
                      refine wpAnyH_take (i := 8) (oi := _) (v := ?_) rfl (by kernel_rfl) (by kernel_rfl) (by kernel_rfl) (fun _ _ _ h => h) (Or.inl ⟨by rfl, ?_⟩) (by assumption) ?_
                      rotate_left
                      · intro w hSw
                        try dsimp only at hSw
                        obtain ⟨s0, s1, s2, s3, s4⟩ := hSw
                        go_simp
                        all_goals with_reducible rfl
                      try simp only [Act.put, List.setIfInBounds_toArray, List.set_cons_zero, List.set_cons_succ, List.getElem_toArray, List.getElem_cons_zero, List.getElem_cons_succ]
                      refine wpAnyH_take (i := 10) (oi := _) (v := ?_) rfl (by kernel_rfl) (by kernel_rfl) (by kernel_rfl) (fun _ _ _ h => h) (Or.inl ⟨by rfl, ?_⟩) (by assumption) ?_
                      rotate_left
                      · intro w hSw
                        try dsimp only at hSw
                        obtain ⟨s0, s1, s2, s3, s4⟩ := hSw
                        go_simp
                        all_goals with_reducible rfl
                      try simp only [Act.put, List.setIfInBounds_toArray, List.set_cons_zero, List.set_cons_succ, List.getElem_toArray, List.getElem_cons_zero, List.getElem_cons_succ]
                      by_cases hle : lineL ⟨t0, wh0, k0, tw0, m⟩ = l
                      · have HFIN : Hid (readR l = (⟨t0, wh0, k0, tw0, m⟩, true)) := by show _ = _; rw [HFI.out, decide_eq_true hle]
                        rw [hle] at HLW
                        unfold strV at HLW
                        clear hle
                        refine wpAnyH_ready (rs := [9]) (by kernel_rfl) (by simp) ?_
                        refine AllReadyH.cons (o := _) rfl (fun K hK => ?_) AllReadyH.nil
                        go_simp
                        go_at_call 28
                        refine HLW.out.mono ?_
                        rintro e w8 ⟨rfl, hb8⟩
                        have HR8 := Lib.hid (HR7.out.later hb8)
                        clear hb8 HLW HR7
                        go_simp
                        refine hK.out _ _ HR8.out.v7.five (fun hHeld => ?_)
                        clear hK K
                        try simp only [Act.put, List.setIfInBounds_toArray, List.set_cons_zero, List.set_cons_succ, List.getElem_toArray, List.getElem_cons_zero, List.getElem_cons_succ]
                        refine wpAnyH_take (i := 11) (oi := _) (v := ?_) rfl (by kernel_rfl) (by kernel_rfl) (by kernel_rfl) (fun _ _ _ h => h) (Or.inl ⟨by rfl, ?_⟩) (by assumption) ?_
                        rotate_left
                        · intro w hSw
                          try dsimp only at hSw
                          obtain ⟨s0, s1, s2, s3, s4⟩ := hSw
                          go_simp
                          all_goals with_reducible rfl
                        try simp only [Act.put, List.setIfInBounds_toArray, List.set_cons_zero, List.set_cons_succ, List.getElem_toArray, List.getElem_cons_zero, List.getElem_cons_succ]
                        refine wpAnyH_take (i := 12) (oi := _) (v := ?_) rfl (by kernel_rfl) (by kernel_rfl) (by kernel_rfl) (fun _ _ _ h => h) (Or.inl ⟨by rfl, ?_⟩) (by assumption) ?_
                        rotate_left
                        · intro w hSw
                          try dsimp only at hSw
                          obtain ⟨s0, s1, s2, s3, s4⟩ := hSw
                          go_simp
                          all_goals with_reducible rfl
                        try simp only [Act.put, List.setIfInBounds_toArray, List.set_cons_zero, List.set_cons_succ, List.getElem_toArray, List.getElem_cons_zero, List.getElem_cons_succ]
                        obtain ⟨p0, p1, p2, p3, p4, -⟩ := HR8.out.v2
                        simp only [zeroEv] at p0 p1 p2 p3 p4
                        have y2 := HR8.out.f2
                        have mp := World.block_lt_of_cell? _ _ p0
                        refine wpAnyH_ready (rs := [13]) (by kernel_rfl) (by simp) ?_
                        refine AllReadyH.cons (o := _) rfl (fun K hK => ?_) AllReadyH.nil
                        go_simp
                        refine hK.out _ _ (put5_other (e := ⟨t0, wh0, k0, tw0, m⟩) HR8.out.v7 HR8.out.ne).five (fun hHeld => ?_)
                        clear hK K
                        try simp only [Act.put, List.setIfInBounds_toArray, List.set_cons_zero, List.set_cons_succ, List.getElem_toArray, List.getElem_cons_zero, List.getElem_cons_succ]
                        clear p0 p1 p2 p3 p4 y2 mp
                        refine wpAnyH_take (i := 14) (oi := _) (v := ?_) rfl (by kernel_rfl) (by kernel_rfl) (by kernel_rfl) (fun _ _ _ h => h) (Or.inl ⟨by rfl, ?_⟩) (by assumption) ?_
                        rotate_left
                        · intro w hSw
                          try dsimp only at hSw
                          obtain ⟨s0, s1, s2, s3, s4⟩ := hSw
                          go_simp
                          all_goals with_reducible rfl
                        try simp only [Act.put, List.setIfInBounds_toArray, List.set_cons_zero, List.set_cons_succ, List.getElem_toArray, List.getElem_cons_zero, List.getElem_cons_succ]
                        refine wpAnyH_done (by kernel_rfl) ?_ _
                        go_wp2
                        have hv := (HR8.out.v2).put (⟨t0, wh0, k0, tw0, m⟩ : Ev)
                        have hbl : Below w.heap.size w (put5 w8 w.heap.size (⟨t0, wh0, k0, tw0, m⟩ : Ev)) := below_put5 (HR8.out.below) _
                        unfold put5 at hv hbl
                        obtain ⟨f0, f1, f2, f3, f4, -⟩ := hv
                        try simp only [zeroEv] at f0 f1 f2 f3 f4 hbl
                        refine bodyPost_ret (v := .tuple #[Ev.v (⟨t0, wh0, k0, tw0, m⟩ : Ev), .bool true]) (by simp [results, Tryd.results24, go_sem, f0, f1, f2, f3, f4, Ev.v, zeroEv]) rfl ?_
                        rw [HFIN.out]
                        exact ⟨rfl, hbl⟩
                      · have HFIN : Hid (readR l = (⟨t0, wh0, k0, tw0, m⟩, false)) := by show _ = _; rw [HFI.out, decide_eq_false hle]
                        generalize lineL ⟨t0, wh0, k0, tw0, m⟩ = ll at *
                        obtain ⟨r1, r2, r3, r4⟩ := str_ne hle
                        unfold strV at HLW
                        refine wpAnyH_ready (rs := [9]) (by kernel_rfl) (by simp) ?_
                        refine AllReadyH.cons (o := _) rfl (fun K hK => ?_) AllReadyH.nil
                        go_simp
                        go_at_call 28
                        refine HLW.out.mono ?_
                        rintro e w8 ⟨rfl, hb8⟩
                        have HR8 := Lib.hid (HR7.out.later hb8)
                        clear hb8 HLW HR7
                        go_simp
                        refine hK.out _ _ HR8.out.v7.five (fun hHeld => ?_)
                        clear hK K
                        try simp only [Act.put, List.setIfInBounds_toArray, List.set_cons_zero, List.set_cons_succ, List.getElem_toArray, List.getElem_cons_zero, List.getElem_cons_succ]
                        refine wpAnyH_take (i := 11) (oi := _) (v := ?_) rfl (by kernel_rfl) (by kernel_rfl) (by kernel_rfl) (fun _ _ _ h => h) (Or.inl ⟨by rfl, ?_⟩) (by assumption) ?_
                        rotate_left
                        · intro w hSw
                          try dsimp only at hSw
                          obtain ⟨s0, s1, s2, s3, s4⟩ := hSw
                          go_simp
                          all_goals with_reducible rfl
                        try simp only [Act.put, List.setIfInBounds_toArray, List.set_cons_zero, List.set_cons_succ, List.getElem_toArray, List.getElem_cons_zero, List.getElem_cons_succ]
                        refine wpAnyH_take (i := 12) (oi := _) (v := ?_) rfl (by kernel_rfl) (by kernel_rfl) (by kernel_rfl) (fun _ _ _ h => h) (Or.inl ⟨by rfl, ?_⟩) (by assumption) ?_
                        rotate_left
                        · intro w hSw
                          try dsimp only at hSw
                          obtain ⟨s0, s1, s2, s3, s4⟩ := hSw
                          go_simp
                          all_goals with_reducible rfl
                        try simp only [Act.put, List.setIfInBounds_toArray, List.set_cons_zero, List.set_cons_succ, List.getElem_toArray, List.getElem_cons_zero, List.getElem_cons_succ]
                        obtain ⟨p0, p1, p2, p3, p4, -⟩ := HR8.out.v2
                        simp only [zeroEv] at p0 p1 p2 p3 p4
                        have y2 := HR8.out.f2
                        have mp := World.block_lt_of_cell? _ _ p0
                        refine wpAnyH_ready (rs := [13]) (by kernel_rfl) (by simp) ?_
                        refine AllReadyH.cons (o := _) rfl (fun K hK => ?_) AllReadyH.nil
                        go_simp
                        refine hK.out _ _ (put5_other (e := ⟨t0, wh0, k0, tw0, m⟩) HR8.out.v7 HR8.out.ne).five (fun hHeld => ?_)
                        clear hK K
                        try simp only [Act.put, List.setIfInBounds_toArray, List.set_cons_zero, List.set_cons_succ, List.getElem_toArray, List.getElem_cons_zero, List.getElem_cons_succ]
                        clear p0 p1 p2 p3 p4 y2 mp
                        refine wpAnyH_take (i := 14) (oi := _) (v := ?_) rfl (by kernel_rfl) (by kernel_rfl) (by kernel_rfl) (fun _ _ _ h => h) (Or.inl ⟨by rfl, ?_⟩) (by assumption) ?_
                        rotate_left
                        · intro w hSw
                          try dsimp only at hSw
                          obtain ⟨s0, s1, s2, s3, s4⟩ := hSw
                          go_simp
                          all_goals with_reducible rfl
                        try simp only [Act.put, List.setIfInBounds_toArray, List.set_cons_zero, List.set_cons_succ, List.getElem_toArray, List.getElem_cons_zero, List.getElem_cons_succ]
                        refine wpAnyH_done (by kernel_rfl) ?_ _
                        go_wp2
                        have hv := (HR8.out.v2).put (⟨t0, wh0, k0, tw0, m⟩ : Ev)
                        have hbl : Below w.heap.size w (put5 w8 w.heap.size (⟨t0, wh0, k0, tw0, m⟩ : Ev)) := below_put5 (HR8.out.below) _
                        unfold put5 at hv hbl
                        obtain ⟨f0, f1, f2, f3, f4, -⟩ := hv
                        try simp only [zeroEv] at f0 f1 f2 f3 f4 hbl
                        refine bodyPost_ret (v := .tuple #[Ev.v (⟨t0, wh0, k0, tw0, m⟩ : Ev), .bool false]) (by simp [results, Tryd.results24, go_sem, f0, f1, f2, f3, f4, Ev.v, zeroEv]) rfl ?_
                        rw [HFIN.out]
                        exact ⟨rfl, hbl⟩
                    · rw [decide_eq_false hok] at HRT
                      have HFIN : Hid (readR l = (⟨t0, wh0, k0, tw0, m⟩, false)) := by show _ = _; rw [HFI.out, decide_eq_false hok, Bool.false_and]
                      clear hok
                      refine wpAnyH_ready (rs := [5]) (by kernel_rfl) (by simp) ?_
                      refine AllReadyH.cons (o := _) rfl (fun K hK => ?_) AllReadyH.nil
                      go_simp
                      go_at_call 36
                      refine HRT.out.mono ?_
                      rintro e w7 ⟨rfl, hb7⟩
                      have HR7 := Lib.hid (HR6.out.later hb7)
                      clear hb7 HRT HR6
                      go_simp
                      refine hK.out _ _ HR7.out.v7.five (fun hHeld => ?_)
                      clear hK K
                      try simp only [Act.put, List.setIfInBounds_toArray, List.set_cons_zero, List.set_cons_succ, List.getElem_toArray, List.getElem_cons_zero, List.getElem_cons_succ]
                      refine wpAnyH_take (i := 6) (oi := _) (v := ?_) rfl (by kernel_rfl) (by kernel_rfl) (by kernel_rfl) (fun _ _ _ h => h) (Or.inl ⟨by rfl, ?_⟩) (by assumption) ?_
                      rotate_left
                      · intro w hSw
                        try dsimp only at hSw
                        obtain ⟨s0, s1, s2, s3, s4⟩ := hSw
                        go_simp
                        all_goals with_reducible rfl
                      try simp only [Act.put, List.setIfInBounds_toArray, List.set_cons_zero, List.set_cons_succ, List.getElem_toArray, List.getElem_cons_zero, List.getElem_cons_succ]
                      refine wpAnyH_take (i := 7) (oi := _) (v := ?_) rfl (by kernel_rfl) (by kernel_rfl) (by kernel_rfl) (fun _ _ _ h => h) (Or.inl ⟨by rfl, ?_⟩) (by assumption) ?_
                      rotate_left
                      · intro w hSw
                        try dsimp only at hSw
                        obtain ⟨s0, s1, s2, s3, s4⟩ := hSw
                        go_simp
                        all_goals with_reducible rfl
                      try simp only [Act.put, List.setIfInBounds_toArray, List.set_cons_zero, List.set_cons_succ, List.getElem_toArray, List.getElem_cons_zero, List.getElem_cons_succ]
                      refine wpAnyH_take (i := 8) (oi := _) (v := undef) rfl (by kernel_rfl) (by kernel_rfl) (by kernel_rfl) (fun _ _ _ h => h) (Or.inr ⟨by rfl, rfl⟩) (by assumption) ?_
                      try simp only [Act.put, List.setIfInBounds_toArray, List.set_cons_zero, List.set_cons_succ, List.getElem_toArray, List.getElem_cons_zero, List.getElem_cons_succ]
                      refine wpAnyH_take (i := 9) (oi := _) (v := undef) rfl (by kernel_rfl) (by kernel_rfl) (by kernel_rfl) (fun _ _ _ h => h) (Or.inr ⟨by rfl, rfl⟩) (by assumption) ?_
                      try simp only [Act.put, List.setIfInBounds_toArray, List.set_cons_zero, List.set_cons_succ, List.getElem_toArray, List.getElem_cons_zero, List.getElem_cons_succ]
                      refine wpAnyH_take (i := 10) (oi := _) (v := undef) rfl (by kernel_rfl) (by kernel_rfl) (by kernel_rfl) (fun _ _ _ h => h) (Or.inr ⟨by rfl, rfl⟩) (by assumption) ?_
                      try simp only [Act.put, List.setIfInBounds_toArray, List.set_cons_zero, List.set_cons_succ, List.getElem_toArray, List.getElem_cons_zero, List.getElem_cons_succ]
                      refine wpAnyH_take (i := 11) (oi := _) (v := undef) rfl (by kernel_rfl) (by kernel_rfl) (by kernel_rfl) (fun _ _ _ h => h) (Or.inr ⟨by rfl, rfl⟩) (by assumption) ?_
                      try simp only [Act.put, List.setIfInBounds_toArray, List.set_cons_zero, List.set_cons_succ, List.getElem_toArray, List.getElem_cons_zero, List.getElem_cons_succ]
                      refine wpAnyH_take (i := 12) (oi := _) (v := ?_) rfl (by kernel_rfl) (by kernel_rfl) (by kernel_rfl) (fun _ _ _ h => h) (Or.inl ⟨by rfl, ?_⟩) (by assumption) ?_
                      rotate_left
                      · intro w hSw
                        try dsimp only at hSw
                        obtain ⟨s0, s1, s2, s3, s4⟩ := hSw
                        go_simp
                        all_goals with_reducible rfl
                      try simp only [Act.put, List.setIfInBounds_toArray, List.set_cons_zero, List.set_cons_succ, List.getElem_toArray, List.getElem_cons_zero, List.getElem_cons_succ]
                      obtain ⟨p0, p1, p2, p3, p4, -⟩ := HR7.out.v2
                      simp only [zeroEv] at p0 p1 p2 p3 p4
                      have y2 := HR7.out.f2
                      have mp := World.block_lt_of_cell? _ _ p0
                      refine wpAnyH_ready (rs := [13]) (by kernel_rfl) (by simp) ?_
                      refine AllReadyH.cons (o := _) rfl (fun K hK => ?_) AllReadyH.nil
                      go_simp
                      refine hK.out _ _ (put5_other (e := ⟨t0, wh0, k0, tw0, m⟩) HR7.out.v7 HR7.out.ne).five (fun hHeld => ?_)
                      clear hK K
                      try simp only [Act.put, List.setIfInBounds_toArray, List.set_cons_zero, List.set_cons_succ, List.getElem_toArray, List.getElem_cons_zero, List.getElem_cons_succ]
                      clear p0 p1 p2 p3 p4 y2 mp
                      refine wpAnyH_take (i := 14) (oi := _) (v := ?_) rfl (by kernel_rfl) (by kernel_rfl) (by kernel_rfl) (fun _ _ _ h => h) (Or.inl ⟨by rfl, ?_⟩) (by assumption) ?_
                      rotate_left
                      · intro w hSw
                        try dsimp only at hSw
                        obtain ⟨s0, s1, s2, s3, s4⟩ := hSw
                        go_simp
                        all_goals with_reducible rfl
                      try simp only [Act.put, List.setIfInBounds_toArray, List.set_cons_zero, List.set_cons_succ, List.getElem_toArray, List.getElem_cons_zero, List.getElem_cons_succ]
                      refine wpAnyH_done (by kernel_rfl) ?_ _
                      go_wp2
                      have hv := (HR7.out.v2).put (⟨t0, wh0, k0, tw0, m⟩ : Ev)
                      have hbl : Below w.heap.size w (put5 w7 w.heap.size (⟨t0, wh0, k0, tw0, m⟩ : Ev)) := below_put5 (HR7.out.below) _
                      unfold put5 at hv hbl
                      obtain ⟨f0, f1, f2, f3, f4, -⟩ := hv
                      try simp only [zeroEv] at f0 f1 f2 f3 f4 hbl
                      refine bodyPost_ret (v := .tuple #[Ev.v (⟨t0, wh0, k0, tw0, m⟩ : Ev), .bool false]) (by simp [results, Tryd.results24, go_sem, f0, f1, f2, f3, f4, Ev.v, zeroEv]) rfl ?_
                      rw [HFIN.out]
                      exact ⟨rfl, hbl⟩
                · go_upto_region 16 with fail
                  clear k0c k1c k2c k3c k4c kzc mkc
                  generalize w4.setCell ⟨b5, 4, none⟩ (.int .i64 (m : Int)) = w5 at *
                  have HR15 := Lib.hid HRS.out
                  by_cases hn1 : m = 1
                  · have hn11 : ((m : Int) == 1) = true := by simp [hn1]
                    have hn13 : ((m : Int) != 1) = false := by simp [hn1]
                    have HFIN : Hid (readR l = (⟨t0, wh0, k0, tw0, m⟩, false)) := by show _ = _; rw [HFI.out, decide_eq_false (by simp [hn1]), Bool.false_and]
                    clear hn1
                    refine wp_region_held_drew (S := fun W => W.cell? ⟨b5, 0, none⟩ = some (.bool t0) ∧ W.cell? ⟨b5, 1, none⟩ = some (.int .i64 wh0) ∧ W.cell? ⟨b5, 2, none⟩ = some (.int .u8 k0) ∧ W.cell? ⟨b5, 3, none⟩ = some (.int .i64 tw0) ∧ W.cell? ⟨b5, 4, none⟩ = some (.int .i64 (m : Int))) (by kernel_rfl) (HR15.out.later (Below.refl _ _).drew).v7.five (fun hHeld => ?_)
                    have HR6 := Lib.hid (HR15.out.later (Below.refl _ _).drew)
                    generalize w5.drew = w6 at *
                    refine wpAnyH_take (i := 0) (oi := _) (v := ?_) rfl (by kernel_rfl) (by kernel_rfl) (by kernel_rfl) (fun _ _ _ h => h) (Or.inl ⟨by rfl, ?_⟩) (by assumption) ?_
                    rotate_left
                    · intro w hSw
                      try dsimp only at hSw
                      obtain ⟨s0, s1, s2, s3, s4⟩ := hSw
                      go_simp
                      all_goals with_reducible rfl
                    try simp only [Act.put, List.setIfInBounds_toArray, List.set_cons_zero, List.set_cons_succ, List.getElem_toArray, List.getElem_cons_zero, List.getElem_cons_succ]
                    refine wpAnyH_take (i := 1) (oi := _) (v := ?_) rfl (by kernel_rfl) (by kernel_rfl) (by kernel_rfl) (fun _ _ _ h => h) (Or.inl ⟨by rfl, ?_⟩) (by assumption) ?_
                    rotate_left
                    · intro w hSw
                      try dsimp only at hSw
                      obtain ⟨s0, s1, s2, s3, s4⟩ := hSw
                      go_simp
                      all_goals with_reducible rfl
                    try simp only [Act.put, List.setIfInBounds_toArray, List.set_cons_zero, List.set_cons_succ, List.getElem_toArray, List.getElem_cons_zero, List.getElem_cons_succ]
                    refine wpAnyH_take (i := 2) (oi := _) (v := ?_) rfl (by kernel_rfl) (by kernel_rfl) (by kernel_rfl) (fun _ _ _ h => h) (Or.inl ⟨by rfl, ?_⟩) (by assumption) ?_
                    rotate_left
                    · intro w hSw
                      try dsimp only at hSw
                      obtain ⟨s0, s1, s2, s3, s4⟩ := hSw
                      go_simp
                      all_goals with_reducible rfl
                    try simp only [Act.put, List.setIfInBounds_toArray, List.set_cons_zero, List.set_cons_succ, List.getElem_toArray, List.getElem_cons_zero, List.getElem_cons_succ]
                    refine wpAnyH_take (i := 3) (oi := _) (v := ?_) rfl (by kernel_rfl) (by kernel_rfl) (by kernel_rfl) (fun _ _ _ h => h) (Or.inl ⟨by rfl, ?_⟩) (by assumption) ?_
                    rotate_left
                    · intro w hSw
                      try dsimp only at hSw
                      obtain ⟨s0, s1, s2, s3, s4⟩ := hSw
                      go_simp
                      all_goals with_reducible rfl
                    try simp only [Act.put, List.setIfInBounds_toArray, List.set_cons_zero, List.set_cons_succ, List.getElem_toArray, List.getElem_cons_zero, List.getElem_cons_succ]
                    refine wpAnyH_take (i := 4) (oi := _) (v := undef) rfl (by kernel_rfl) (by kernel_rfl) (by kernel_rfl) (fun _ _ _ h => h) (Or.inr ⟨by rfl, rfl⟩) (by assumption) ?_
                    try simp only [Act.put, List.setIfInBounds_toArray, List.set_cons_zero, List.set_cons_succ, List.getElem_toArray, List.getElem_cons_zero, List.getElem_cons_succ]
                    refine wpAnyH_take (i := 5) (oi := _) (v := undef) rfl (by kernel_rfl) (by kernel_rfl) (by kernel_rfl) (fun _ _ _ h => h) (Or.inr ⟨by rfl, rfl⟩) (by assumption) ?_
                    try simp only [Act.put, List.setIfInBounds_toArray, List.set_cons_zero, List.set_cons_succ, List.getElem_toArray, List.getElem_cons_zero, List.getElem_cons_succ]
                    refine wpAnyH_take (i := 6) (oi := _) (v := ?_) rfl (by kernel_rfl) (by kernel_rfl) (by kernel_rfl) (fun _ _ _ h => h) (Or.inl ⟨by rfl, ?_⟩) (by assumption) ?_
                    rotate_left
                    · intro w hSw
                      try dsimp only at hSw
                      obtain ⟨s0, s1, s2, s3, s4⟩ := hSw
                      go_simp
                      all_goals with_reducible rfl
                    try simp only [Act.put, List.setIfInBounds_toArray, List.set_cons_zero, List.set_cons_succ, List.getElem_toArray, List.getElem_cons_zero, List.getElem_cons_succ]
                    refine wpAnyH_take (i := 7) (oi := _) (v := ?_) rfl (by kernel_rfl) (by kernel_rfl) (by kernel_rfl) (fun _ _ _ h => h) (Or.inl ⟨by rfl, ?_⟩) (by assumption) ?_
                    rotate_left
                    · intro w hSw
                      try dsimp only at hSw
                      obtain ⟨s0, s1, s2, s3, s4⟩ := hSw
                      go_simp
                      all_goals with_reducible rfl
                    try simp only [Act.put, List.setIfInBounds_toArray, List.set_cons_zero, List.set_cons_succ, List.getElem_toArray, List.getElem_cons_zero, List.getElem_cons_succ]
                    refine wpAnyH_take (i := 8) (oi := _) (v := undef) rfl (by kernel_rfl) (by kernel_rfl) (by kernel_rfl) (fun _ _ _ h => h) (Or.inr ⟨by rfl, rfl⟩) (by assumption) ?_
                    try simp only [Act.put, List.setIfInBounds_toArray, List.set_cons_zero, List.set_cons_succ, List.getElem_toArray, List.getElem_cons_zero, List.getElem_cons_succ]
                    refine wpAnyH_take (i := 9) (oi := _) (v := undef) rfl (by kernel_rfl) (by kernel_rfl) (by kernel_rfl) (fun _ _ _ h => h) (Or.inr ⟨by rfl, rfl⟩) (by assumption) ?_
                    try simp only [Act.put, List.setIfInBounds_toArray, List.set_cons_zero, List.set_cons_succ, List.getElem_toArray, List.getElem_cons_zero, List.getElem_cons_succ]
                    refine wpAnyH_take (i := 10) (oi := _) (v := undef) rfl (by kernel_rfl) (by kernel_rfl) (by kernel_rfl) (fun _ _ _ h => h) (Or.inr ⟨by rfl, rfl⟩) (by assumption) ?_
                    try simp only [Act.put, List.setIfInBounds_toArray, List.set_cons_zero, List.set_cons_succ, List.getElem_toArray, List.getElem_cons_zero, List.getElem_cons_succ]
                    refine wpAnyH_take (i := 11) (oi := _) (v := undef) rfl (by kernel_rfl) (by kernel_rfl) (by kernel_rfl) (fun _ _ _ h => h) (Or.inr ⟨by rfl, rfl⟩) (by assumption) ?_
                    try simp only [Act.put, List.setIfInBounds_toArray, List.set_cons_zero, List.set_cons_succ, List.getElem_toArray, List.getElem_cons_zero, List.getElem_cons_succ]
                    refine wpAnyH_take (i := 12) (oi := _) (v := ?_) rfl (by kernel_rfl) (by kernel_rfl) (by kernel_rfl) (fun _ _ _ h => h) (Or.inl ⟨by rfl, ?_⟩) (by assumption) ?_
                    rotate_left
                    · intro w hSw
                      try dsimp only at hSw
                      obtain ⟨s0, s1, s2, s3, s4⟩ := hSw
                      go_simp
                      all_goals with_reducible rfl
                    try simp only [Act.put, List.setIfInBounds_toArray, List.set_cons_zero, List.set_cons_succ, List.getElem_toArray, List.getElem_cons_zero, List.getElem_cons_succ]
                    obtain ⟨p0, p1, p2, p3, p4, -⟩ := HR6.out.v2
                    simp only [zeroEv] at p0 p1 p2 p3 p4
                    have y2 := HR6.out.f2
                    have mp := World.block_lt_of_cell? _ _ p0
                    refine wpAnyH_ready (rs := [13]) (by kernel_rfl) (by simp) ?_
                    refine AllReadyH.cons (o := _) rfl (fun K hK => ?_) AllReadyH.nil
                    go_simp
                    refine hK.out _ _ (put5_other (e := ⟨t0, wh0, k0, tw0, m⟩) HR6.out.v7 HR6.out.ne).five (fun hHeld => ?_)
                    clear hK K
                    try simp only [Act.put, List.setIfInBounds_toArray, List.set_cons_zero, List.set_cons_succ, List.getElem_toArray, List.getElem_cons_zero, List.getElem_cons_succ]
                    clear p0 p1 p2 p3 p4 y2 mp
                    refine wpAnyH_take (i := 14) (oi := _) (v := ?_) rfl (by kernel_rfl) (by kernel_rfl) (by kernel_rfl) (fun _ _ _ h => h) (Or.inl ⟨by rfl, ?_⟩) (by assumption) ?_
                    rotate_left
                    · intro w hSw
                      try dsimp only at hSw
                      obtain ⟨s0, s1, s2, s3, s4⟩ := hSw
                      go_simp
                      all_goals with_reducible rfl
                    try simp only [Act.put, List.setIfInBounds_toArray, List.set_cons_zero, List.set_cons_succ, List.getElem_toArray, List.getElem_cons_zero, List.getElem_cons_succ]
                    refine wpAnyH_done (by kernel_rfl) ?_ _
                    go_wp2
                    have hv := (HR6.out.v2).put (⟨t0, wh0, k0, tw0, m⟩ : Ev)
                    have hbl : Below w.heap.size w (put5 w6 w.heap.size (⟨t0, wh0, k0, tw0, m⟩ : Ev)) := below_put5 (HR6.out.below) _
                    unfold put5 at hv hbl
                    obtain ⟨f0, f1, f2, f3, f4, -⟩ := hv
                    try simp only [zeroEv] at f0 f1 f2 f3 f4 hbl
                    refine bodyPost_ret (v := .tuple #[Ev.v (⟨t0, wh0, k0, tw0, m⟩ : Ev), .bool false]) (by simp [results, Tryd.results24, go_sem, f0, f1, f2, f3, f4, Ev.v, zeroEv]) rfl ?_
                    rw [HFIN.out]
                    exact ⟨rfl, hbl⟩
                  · have hn11 : ((m : Int) == 1) = false := by rw [beq_eq_false_iff_ne]; omega
                    have hn12 : ¬ (m : Int) = 1 := by omega
                    have hn13 : ((m : Int) != 1) = true := by simp; omega
                    rw [decide_eq_true hn12, Bool.true_and] at HFI
                    refine wp_region_held_drew (S := fun W => W.cell? ⟨b5, 0, none⟩ = some (.bool t0) ∧ W.cell? ⟨b5, 1, none⟩ = some (.int .i64 wh0) ∧ W.cell? ⟨b5, 2, none⟩ = some (.int .u8 k0) ∧ W.cell? ⟨b5, 3, none⟩ = some (.int .i64 tw0) ∧ W.cell? ⟨b5, 4, none⟩ = some (.int .i64 (m : Int))) (by kernel_rfl) (HR15.out.later (Below.refl _ _).drew).v7.five (fun hHeld => ?_)
                    have HR6 := Lib.hid (HR15.out.later (Below.refl _ _).drew)
                    generalize w5.drew = w6 at *
                    refine wpAnyH_take (i := 0) (oi := _) (v := ?_) rfl (by kernel_rfl) (by kernel_rfl) (by kernel_rfl) (fun _ _ _ h => h) (Or.inl ⟨by rfl, ?_⟩) (by assumption) ?_
                    rotate_left
                    · intro w hSw
                      try dsimp only at hSw
                      obtain ⟨s0, s1, s2, s3, s4⟩ := hSw
                      go_simp
                      all_goals with_reducible rfl
                    try simp only [Act.put, List.setIfInBounds_toArray, List.set_cons_zero, List.set_cons_succ, List.getElem_toArray, List.getElem_cons_zero, List.getElem_cons_succ]
                    refine wpAnyH_take (i := 1) (oi := _) (v := ?_) rfl (by kernel_rfl) (by kernel_rfl) (by kernel_rfl) (fun _ _ _ h => h) (Or.inl ⟨by rfl, ?_⟩) (by assumption) ?_
                    rotate_left
                    · intro w hSw
                      try dsimp only at hSw
                      obtain ⟨s0, s1, s2, s3, s4⟩ := hSw
                      go_simp
                      all_goals with_reducible rfl
                    try simp only [Act.put, List.setIfInBounds_toArray, List.set_cons_zero, List.set_cons_succ, List.getElem_toArray, List.getElem_cons_zero, List.getElem_cons_succ]
                    refine wpAnyH_take (i := 2) (oi := _) (v := ?_) rfl (by kernel_rfl) (by kernel_rfl) (by kernel_rfl) (fun _ _ _ h => h) (Or.inl ⟨by rfl, ?_⟩) (by assumption) ?_
                    rotate_left
                    · intro w hSw
                      try dsimp only at hSw
                      obtain ⟨s0, s1, s2, s3, s4⟩ := hSw
                      go_simp
                      all_goals with_reducible rfl
                    try simp only [Act.put, List.setIfInBounds_toArray, List.set_cons_zero, List.set_cons_succ, List.getElem_toArray, List.getElem_cons_zero, List.getElem_cons_succ]
                    refine wpAnyH_take (i := 3) (oi := _) (v := ?_) rfl (by kernel_rfl) (by kernel_rfl) (by kernel_rfl) (fun _ _ _ h => h) (Or.inl ⟨by rfl, ?_⟩) (by assumption) ?_
                    rotate_left
                    · intro w hSw
                      try dsimp only at hSw
                      obtain ⟨s0, s1, s2, s3, s4⟩ := hSw
                      go_simp
                      all_goals with_reducible rfl
                    try simp only [Act.put, List.setIfInBounds_toArray, List.set_cons_zero, List.set_cons_succ, List.getElem_toArray, List.getElem_cons_zero, List.getElem_cons_succ]
                    refine wpAnyH_take (i := 4) (oi := _) (v := ?_) rfl (by kernel_rfl) (by kernel_rfl) (by kernel_rfl) (fun _ _ _ h => h) (Or.inl ⟨by rfl, ?_⟩) (by assumption) ?_
                    rotate_left
                    · intro w hSw
                      try dsimp only at hSw
                      obtain ⟨s0, s1, s2, s3, s4⟩ := hSw
                      go_simp
                      all_goals with_reducible rfl
                    try simp only [Act.put, List.setIfInBounds_toArray, List.set_cons_zero, List.set_cons_succ, List.getElem_toArray, List.getElem_cons_zero, List.getElem_cons_succ]
                    have HRT := Lib.hid (right36 ⟨t0, wh0, k0, tw0, m⟩ hk0 w6)
                    unfold Ev.v at HRT
                    simp only at HRT
                    by_cases hok : okEv ⟨t0, wh0, k0, tw0, m⟩
                    · rw [decide_eq_true hok] at HRT
                      rw [decide_eq_true hok, Bool.true_and] at HFI
                      have HLX2 := Lib.hid (fun W => line28 ⟨t0, wh0, k0, tw0, m⟩ hok W)
                      unfold Ev.v at HLX2
                      simp only at HLX2
                      clear hok
                      refine wpAnyH_ready (rs := [5]) (by kernel_rfl) (by simp) ?_
                      refine AllReadyH.cons (o := _) rfl (fun K hK => ?_) AllReadyH.nil
                      go_simp
                      go_at_call 36
                      refine HRT.out.mono ?_
                      rintro e w7 ⟨rfl, hb7⟩
                      have HR7 := Lib.hid (HR6.out.later hb7)
                      have HLW := Lib.hid (HLX2.out w7)
                      clear hb7 HRT HLX2 HR6
                      go_simp
                      refine hK.out _ _ HR7.out.v7.five (fun hHeld => ?_)
                      clear hK K
                      try simp only [Act.put, List.setIfInBounds_toArray, List.set_cons_zero, List.set_cons_succ, List.getElem_toArray, List.getElem_cons_zero, List.getElem_cons_succ]
                      refine wpAnyH_take (i := 6) (oi := _) (v := ?_) rfl (by kernel_rfl) (by kernel_rfl) (by kernel_rfl) (fun _ _ _ h => h) (Or.inl ⟨by rfl, ?_⟩) (by assumption) ?_
                      rotate_left
                      · intro w hSw
                        try dsimp only at hSw
                        obtain ⟨s0, s1, s2, s3, s4⟩ := hSw
                        go_simp
                        all_goals with_reducible rfl
                      try simp only [Act.put, List.setIfInBounds_toArray, List.set_cons_zero, List.set_cons_succ, List.getElem_toArray, List.getElem_cons_zero, List.getElem_cons_succ]
                      refine wpAnyH_take (i := 7) (oi := _) (v := ?_) rfl (by kernel_rfl) (by kernel_rfl) (by kernel_rfl) (fun _ _ _ h => h) (Or.inl ⟨by rfl, ?_⟩) (by assumption) ?_
                      rotate_left
                      · intro w hSw
                        try dsimp only at hSw
                        obtain ⟨s0, s1, s2, s3, s4⟩ := hSw
                        go_simp
                        all_goals with_reducible rfl
                      try simp only [Act.put, List.setIfInBounds_toArray, List.set_cons_zero, List.set_cons_succ, List.getElem_toArray, List.getElem_cons_zero, List.getElem_cons_succ]
                      refine wpAnyH_take (i := 8) (oi := _) (v := ?_) rfl (by kernel_rfl) (by kernel_rfl) (by kernel_rfl) (fun _ _ _ h => h) (Or.inl ⟨by rfl, ?_⟩) (by assumption) ?_
                      rotate_left
                      · intro w hSw
                        try dsimp only at hSw
                        obtain ⟨s0, s1, s2, s3, s4⟩ := hSw
                        go_simp
                        all_goals with_reducible rfl
                      try simp only [Act.put, List.setIfInBounds_toArray, List.set_cons_zero, List.set_cons_succ, List.getElem_toArray, List.getElem_cons_zero, List.getElem_cons_succ]
                      refine wpAnyH_take (i := 10) (oi := _) (v := ?_) rfl (by kernel_rfl) (by kernel_rfl) (by kernel_rfl) (fun _ _ _ h => h) (Or.inl ⟨by rfl, ?_⟩) (by assumption) ?_
                      rotate_left
                      · intro w hSw
                        try dsimp only at hSw
                        obtain ⟨s0, s1, s2, s3, s4⟩ := hSw
                        go_simp
                        all_goals with_reducible rfl
                      try simp only [Act.put, List.setIfInBounds_toArray, List.set_cons_zero, List.set_cons_succ, List.getElem_toArray, List.getElem_cons_zero, List.getElem_cons_succ]
                      by_cases hle : lineL ⟨t0, wh0, k0, tw0, m⟩ = l
                      · have HFIN : Hid (readR l = (⟨t0, wh0, k0, tw0, m⟩, true)) := by show _ = _; rw [HFI.out, decide_eq_true hle]
                        rw [hle] at HLW
                        unfold strV at HLW
                        clear hle
                        refine wpAnyH_ready (rs := [9]) (by kernel_rfl) (by simp) ?_
                        refine AllReadyH.cons (o := _) rfl (fun K hK => ?_) AllReadyH.nil
                        go_simp
                        go_at_call 28
                        refine HLW.out.mono ?_
                        rintro e w8 ⟨rfl, hb8⟩
                        have HR8 := Lib.hid (HR7.out.later hb8)
                        clear hb8 HLW HR7
                        go_simp
                        refine hK.out _ _ HR8.out.v7.five (fun hHeld => ?_)
                        clear hK K
                        try simp only [Act.put, List.setIfInBounds_toArray, List.set_cons_zero, List.set_cons_succ, List.getElem_toArray, List.getElem_cons_zero, List.getElem_cons_succ]
                        refine wpAnyH_take (i := 11) (oi := _) (v := ?_) rfl (by kernel_rfl) (by kernel_rfl) (by kernel_rfl) (fun _ _ _ h => h) (Or.inl ⟨by rfl, ?_⟩) (by assumption) ?_
                        rotate_left
                        · intro w hSw
                          try dsimp only at hSw
                          obtain ⟨s0, s1, s2, s3, s4⟩ := hSw
                          go_simp
                          all_goals with_reducible rfl
                        try simp only [Act.put, List.setIfInBounds_toArray, List.set_cons_zero, List.set_cons_succ, List.getElem_toArray, List.getElem_cons_zero, List.getElem_cons_succ]
                        refine wpAnyH_take (i := 12) (oi := _) (v := ?_) rfl (by kernel_rfl) (by kernel_rfl) (by kernel_rfl) (fun _ _ _ h => h) (Or.inl ⟨by rfl, ?_⟩) (by assumption) ?_
                        rotate_left
                        · intro w hSw
                          try dsimp only at hSw
                          obtain ⟨s0, s1, s2, s3, s4⟩ := hSw
                          go_simp
                          all_goals with_reducible rfl
                        try simp only [Act.put, List.setIfInBounds_toArray, List.set_cons_zero, List.set_cons_succ, List.getElem_toArray, List.getElem_cons_zero, List.getElem_cons_succ]
                        obtain ⟨p0, p1, p2, p3, p4, -⟩ := HR8.out.v2
                        simp only [zeroEv] at p0 p1 p2 p3 p4
                        have y2 := HR8.out.f2
                        have mp := World.block_lt_of_cell? _ _ p0
                        refine wpAnyH_ready (rs := [13]) (by kernel_rfl) (by simp) ?_
                        refine AllReadyH.cons (o := _) rfl (fun K hK => ?_) AllReadyH.nil
                        go_simp
                        refine hK.out _ _ (put5_other (e := ⟨t0, wh0, k0, tw0, m⟩) HR8.out.v7 HR8.out.ne).five (fun hHeld => ?_)
                        clear hK K
                        try simp only [Act.put, List.setIfInBounds_toArray, List.set_cons_zero, List.set_cons_succ, List.getElem_toArray, List.getElem_cons_zero, List.getElem_cons_succ]
                        clear p0 p1 p2 p3 p4 y2 mp
                        refine wpAnyH_take (i := 14) (oi := _) (v := ?_) rfl (by kernel_rfl) (by kernel_rfl) (by kernel_rfl) (fun _ _ _ h => h) (Or.inl ⟨by rfl, ?_⟩) (by assumption) ?_
                        rotate_left
                        · intro w hSw
                          try dsimp only at hSw
                          obtain ⟨s0, s1, s2, s3, s4⟩ := hSw
                          go_simp
                          all_goals with_reducible rfl
                        try simp only [Act.put, List.setIfInBounds_toArray, List.set_cons_zero, List.set_cons_succ, List.getElem_toArray, List.getElem_cons_zero, List.getElem_cons_succ]
                        refine wpAnyH_done (by kernel_rfl) ?_ _
                        go_wp2
                        have hv := (HR8.out.v2).put (⟨t0, wh0, k0, tw0, m⟩ : Ev)
                        have hbl : Below w.heap.size w (put5 w8 w.heap.size (⟨t0, wh0, k0, tw0, m⟩ : Ev)) := below_put5 (HR8.out.below) _
                        unfold put5 at hv hbl
                        obtain ⟨f0, f1, f2, f3, f4, -⟩ := hv
                        try simp only [zeroEv] at f0 f1 f2 f3 f4 hbl
                        refine bodyPost_ret (v := .tuple #[Ev.v (⟨t0, wh0, k0, tw0, m⟩ : Ev), .bool true]) (by simp [results, Tryd.results24, go_sem, f0, f1, f2, f3, f4, Ev.v, zeroEv]) rfl ?_
                        rw [HFIN.out]
                        exact ⟨rfl, hbl⟩
                      · have HFIN : Hid (readR l = (⟨t0, wh0, k0, tw0, m⟩, false)) := by show _ = _; rw [HFI.out, decide_eq_false hle]
                        generalize lineL ⟨t0, wh0, k0, tw0, m⟩ = ll at *
                        obtain ⟨r1, r2, r3, r4⟩ := str_ne hle
                        unfold strV at HLW
                        refine wpAnyH_ready (rs := [9]) (by kernel_rfl) (by simp) ?_
                        refine AllReadyH.cons (o := _) rfl (fun K hK => ?_) AllReadyH.nil
                        go_simp
                        go_at_call 28
                        refine HLW.out.mono ?_
                        rintro e w8 ⟨rfl, hb8⟩
                        have HR8 := Lib.hid (HR7.out.later hb8)
                        clear hb8 HLW HR7
                        go_simp
                        refine hK.out _ _ HR8.out.v7.five (fun hHeld => ?_)
                        clear hK K
                        try simp only [Act.put, List.setIfInBounds_toArray, List.set_cons_zero, List.set_cons_succ, List.getElem_toArray, List.getElem_cons_zero, List.getElem_cons_succ]
                        refine wpAnyH_take (i := 11) (oi := _) (v := ?_) rfl (by kernel_rfl) (by kernel_rfl) (by kernel_rfl) (fun _ _ _ h => h) (Or.inl ⟨by rfl, ?_⟩) (by assumption) ?_
                        rotate_left
                        · intro w hSw
                          try dsimp only at hSw
                          obtain ⟨s0, s1, s2, s3, s4⟩ := hSw
                          go_simp
                          all_goals with_reducible rfl
                        try simp only [Act.put, List.setIfInBounds_toArray, List.set_cons_zero, List.set_cons_succ, List.getElem_toArray, List.getElem_cons_zero, List.getElem_cons_succ]
                        refine wpAnyH_take (i := 12) (oi := _) (v := ?_) rfl (by kernel_rfl) (by kernel_rfl) (by kernel_rfl) (fun _ _ _ h => h) (Or.inl ⟨by rfl, ?_⟩) (by assumption) ?_
                        rotate_left
                        · intro w hSw
                          try dsimp only at hSw
                          obtain ⟨s0, s1, s2, s3, s4⟩ := hSw
                          go_simp
                          all_goals with_reducible rfl
                        try simp only [Act.put, List.setIfInBounds_toArray, List.set_cons_zero, List.set_cons_succ, List.getElem_toArray, List.getElem_cons_zero, List.getElem_cons_succ]
                        obtain ⟨p0, p1, p2, p3, p4, -⟩ := HR8.out.v2
                        simp only [zeroEv] at p0 p1 p2 p3 p4
                        have y2 := HR8.out.f2
                        have mp := World.block_lt_of_cell? _ _ p0
                        refine wpAnyH_ready (rs := [13]) (by kernel_rfl) (by simp) ?_
                        refine AllReadyH.cons (o := _) rfl (fun K hK => ?_) AllReadyH.nil
                        go_simp
                        refine hK.out _ _ (put5_other (e := ⟨t0, wh0, k0, tw0, m⟩) HR8.out.v7 HR8.out.ne).five (fun hHeld => ?_)
                        clear hK K
                        try simp only [Act.put, List.setIfInBounds_toArray, List.set_cons_zero, List.set_cons_succ, List.getElem_toArray, List.getElem_cons_zero, List.getElem_cons_succ]
                        clear p0 p1 p2 p3 p4 y2 mp
                        refine wpAnyH_take (i := 14) (oi := _) (v := ?_) rfl (by kernel_rfl) (by kernel_rfl) (by kernel_rfl) (fun _ _ _ h => h) (Or.inl ⟨by rfl, ?_⟩) (by assumption) ?_
                        rotate_left
                        · intro w hSw
                          try dsimp only at hSw
                          obtain ⟨s0, s1, s2, s3, s4⟩ := hSw
                          go_simp
                          all_goals with_reducible rfl
                        try simp only [Act.put, List.setIfInBounds_toArray, List.set_cons_zero, List.set_cons_succ, List.getElem_toArray, List.getElem_cons_zero, List.getElem_cons_succ]
                        refine wpAnyH_done (by kernel_rfl) ?_ _
                        go_wp2
                        have hv := (HR8.out.v2).put (⟨t0, wh0, k0, tw0, m⟩ : Ev)
                        have hbl : Below w.heap.size w (put5 w8 w.heap.size (⟨t0, wh0, k0, tw0, m⟩ : Ev)) := below_put5 (HR8.out.below) _
                        unfold put5 at hv hbl
                        obtain ⟨f0, f1, f2, f3, f4, -⟩ := hv
                        try simp only [zeroEv] at f0 f1 f2 f3 f4 hbl
                        refine bodyPost_ret (v := .tuple #[Ev.v (⟨t0, wh0, k0, tw0, m⟩ : Ev), .bool false]) (by simp [results, Tryd.results24, go_sem, f0, f1, f2, f3, f4, Ev.v, zeroEv]) rfl ?_
                        rw [HFIN.out]
                        exact ⟨rfl, hbl⟩
                    · rw [decide_eq_false hok] at HRT
                      have HFIN : Hid (readR l = (⟨t0, wh0, k0, tw0, m⟩, false)) := by show _ = _; rw [HFI.out, decide_eq_false hok, Bool.false_and]
                      clear hok
                      refine wpAnyH_ready (rs := [5]) (by kernel_rfl) (by simp) ?_
                      refine AllReadyH.cons (o := _) rfl (fun K hK => ?_) AllReadyH.nil
                      go_simp
                      go_at_call 36
                      refine HRT.out.mono ?_
                      rintro e w7 ⟨rfl, hb7⟩
                      have HR7 := Lib.hid (HR6.out.later hb7)
                      clear hb7 HRT HR6
                      go_simp
                      refine hK.out _ _ HR7.out.v7.five (fun hHeld => ?_)
                      clear hK K
                      try simp only [Act.put, List.setIfInBounds_toArray, List.set_cons_zero, List.set_cons_succ, List.getElem_toArray, List.getElem_cons_zero, List.getElem_cons_succ]
                      refine wpAnyH_take (i := 6) (oi := _) (v := ?_) rfl (by kernel_rfl) (by kernel_rfl) (by kernel_rfl) (fun _ _ _ h => h) (Or.inl ⟨by rfl, ?_⟩) (by assumption) ?_
                      rotate_left
                      · intro w hSw
                        try dsimp only at hSw
                        obtain ⟨s0, s1, s2, s3, s4⟩ := hSw
                        go_simp
                        all_goals with_reducible rfl
                      try simp only [Act.put, List.setIfInBounds_toArray, List.set_cons_zero, List.set_cons_succ, List.getElem_toArray, List.getElem_cons_zero, List.getElem_cons_succ]
                      refine wpAnyH_take (i := 7) (oi := _) (v := ?_) rfl (by kernel_rfl) (by kernel_rfl) (by kernel_rfl) (fun _ _ _ h => h) (Or.inl ⟨by rfl, ?_⟩) (by assumption) ?_
                      rotate_left
                      · intro w hSw
                        try dsimp only at hSw
                        obtain ⟨s0, s1, s2, s3, s4⟩ := hSw
                        go_simp
                        all_goals with_reducible rfl
                      try simp only [Act.put, List.setIfInBounds_toArray, List.set_cons_zero, List.set_cons_succ, List.getElem_toArray, List.getElem_cons_zero, List.getElem_cons_succ]
                      refine wpAnyH_take (i := 8) (oi := _) (v := undef) rfl (by kernel_rfl) (by kernel_rfl) (by kernel_rfl) (fun _ _ _ h => h) (Or.inr ⟨by rfl, rfl⟩) (by assumption) ?_
                      try simp only [Act.put, List.setIfInBounds_toArray, List.set_cons_zero, List.set_cons_succ, List.getElem_toArray, List.getElem_cons_zero, List.getElem_cons_succ]
                      refine wpAnyH_take (i := 9) (oi := _) (v := undef) rfl (by kernel_rfl) (by kernel_rfl) (by kernel_rfl) (fun _ _ _ h => h) (Or.inr ⟨by rfl, rfl⟩) (by assumption) ?_
                      try simp only [Act.put, List.setIfInBounds_toArray, List.set_cons_zero, List.set_cons_succ, List.getElem_toArray, List.getElem_cons_zero, List.getElem_cons_succ]
                      refine wpAnyH_take (i := 10) (oi := _) (v := undef) rfl (by kernel_rfl) (by kernel_rfl) (by kernel_rfl) (fun _ _ _ h => h) (Or.inr ⟨by rfl, rfl⟩) (by assumption) ?_
                      try simp only [Act.put, List.setIfInBounds_toArray, List.set_cons_zero, List.set_cons_succ, List.getElem_toArray, List.getElem_cons_zero, List.getElem_cons_succ]
                      refine wpAnyH_take (i := 11) (oi := _) (v := undef) rfl (by kernel_rfl) (by kernel_rfl) (by kernel_rfl) (fun _ _ _ h => h) (Or.inr ⟨by rfl, rfl⟩) (by assumption) ?_
                      try simp only [Act.put, List.setIfInBounds_toArray, List.set_cons_zero, List.set_cons_succ, List.getElem_toArray, List.getElem_cons_zero, List.getElem_cons_succ]
                      refine wpAnyH_take (i := 12) (oi := _) (v := ?_) rfl (by kernel_rfl) (by kernel_rfl) (by kernel_rfl) (fun _ _ _ h => h) (Or.inl ⟨by rfl, ?_⟩) (by assumption) ?_
                      rotate_left
                      · intro w hSw
                        try dsimp only at hSw
                        obtain ⟨s0, s1, s2, s3, s4⟩ := hSw
                        go_simp
                        all_goals with_reducible rfl
                      try simp only [Act.put, List.setIfInBounds_toArray, List.set_cons_zero, List.set_cons_succ, List.getElem_toArray, List.getElem_cons_zero, List.getElem_cons_succ]
                      obtain ⟨p0, p1, p2, p3, p4, -⟩ := HR7.out.v2
                      simp only [zeroEv] at p0 p1 p2 p3 p4
                      have y2 := HR7.out.f2
                      have mp := World.block_lt_of_cell? _ _ p0
                      refine wpAnyH_ready (rs := [13]) (by kernel_rfl) (by simp) ?_
                      refine AllReadyH.cons (o := _) rfl (fun K hK => ?_) AllReadyH.nil
                      go_simp
                      refine hK.out _ _ (put5_other (e := ⟨t0, wh0, k0, tw0, m⟩) HR7.out.v7 HR7.out.ne).five (fun hHeld => ?_)
                      clear hK K
                      try simp only [Act.put, List.setIfInBounds_toArray, List.set_cons_zero, List.set_cons_succ, List.getElem_toArray, List.getElem_cons_zero, List.getElem_cons_succ]
                      clear p0 p1 p2 p3 p4 y2 mp
                      refine wpAnyH_take (i := 14) (oi := _) (v := ?_) rfl (by kernel_rfl) (by kernel_rfl) (by kernel_rfl) (fun _ _ _ h => h) (Or.inl ⟨by rfl, ?_⟩) (by assumption) ?_
                      rotate_left
                      · intro w hSw
                        try dsimp only at hSw
                        obtain ⟨s0, s1, s2, s3, s4⟩ := hSw
                        go_simp
                        all_goals with_reducible rfl
                      try simp only [Act.put, List.setIfInBounds_toArray, List.set_cons_zero, List.set_cons_succ, List.getElem_toArray, List.getElem_cons_zero, List.getElem_cons_succ]
                      refine wpAnyH_done (by kernel_rfl) ?_ _
                      go_wp2
                      have hv := (HR7.out.v2).put (⟨t0, wh0, k0, tw0, m⟩ : Ev)
                      have hbl : Below w.heap.size w (put5 w7 w.heap.size (⟨t0, wh0, k0, tw0, m⟩ : Ev)) := below_put5 (HR7.out.below) _
                      unfold put5 at hv hbl
                      obtain ⟨f0, f1, f2, f3, f4, -⟩ := hv
                      try simp only [zeroEv] at f0 f1 f2 f3 f4 hbl
                      refine bodyPost_ret (v := .tuple #[Ev.v (⟨t0, wh0, k0, tw0, m⟩ : Ev), .bool false]) (by simp [results, Tryd.results24, go_sem, f0, f1, f2, f3, f4, Ev.v, zeroEv]) rfl ?_
                      rw [HFIN.out]
                      exact ⟨rfl, hbl⟩
          · rw [decide_eq_false hp] at hE
            rw [if_pos (.inr hp)] at HGO
            have HK2 := Lib.hid (HGO.out.symm.trans HK.out)
            clear HGO HK hp
            go_wp2
            go_roundw
            case rel => exact ⟨k + 1, by go_num, by omega, HK2.out, HB3.out⟩
            case measure => simp [intOf]; omega
    · have hke : k = hs.length := by omega
      subst hke
      have HFIN : Hid (readR l = (zeroEv, false)) := by
        show _ = _
        rw [HPR.out, ← HK.out, List.drop_length, goR]
      have HVE := Lib.hid (HV1.out.below HB.out)
      have HBE := Lib.hid (bthen HB1.out HB.out)
      have y2 : ∀ j, wo.frozen? ⟨w.heap.size, j, none⟩ = false := fun j => (HB.out.frozen (p := ⟨w.heap.size, j, none⟩) hlt0).trans (HF1.out j)
      obtain ⟨p0, p1, p2, p3, p4, -⟩ := HVE.out
      simp only [zeroEv] at p0 p1 p2 p3 p4
      have mp := World.block_lt_of_cell? _ _ p0
      go_wp2
      have hv := (HVE.out).put zeroEv
      have hbl : Below w.heap.size w (put5 wo w.heap.size zeroEv) := below_put5 (HBE.out) _
      unfold put5 at hv hbl
      obtain ⟨f0, f1, f2, f3, f4, -⟩ := hv
      try simp only [zeroEv] at f0 f1 f2 f3 f4 hbl
      refine bodyPost_ret (v := .tuple #[Ev.v zeroEv, .bool false]) (by simp [results, Tryd.results24, go_sem, f0, f1, f2, f3, f4, Ev.v, zeroEv]) rfl ?_
      rw [HFIN.out]
      exact ⟨rfl, hbl⟩
end Go.Proofs.YtfgeomdfgjefdaaDoor
