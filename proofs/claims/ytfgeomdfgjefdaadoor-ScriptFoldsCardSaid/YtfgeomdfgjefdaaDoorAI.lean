/- The walk of the reference's Parse. -/
import Derived.Test.YtfgeomdfgjefdaaDoorAH
import Derived.Test.YtfgeomdfgjefdaaDoorAD
namespace Go.Proofs.YtfgeomdfgjefdaaDoor
open Go.RowKit
set_option linter.unusedVariables false
set_option linter.unusedSimpArgs false

def lns (cur : List UInt8) : List UInt8 → List (List UInt8)
  | [] => [cur]
  | c :: r => if c = 10 then cur :: lns [] r else lns (cur ++ [c]) r
def lnsO (l : List UInt8) (f i : Nat) : List (List UInt8) := if i ≤ l.length then lns ((l.take i).drop f) (l.drop i) else []
theorem lns_step {l : List UInt8} {f i : Nat} (hf : f ≤ i) (hi : i < l.length) (h : l[i] ≠ 10) : lnsO l f i = lnsO l f (i + 1) := by
  unfold lnsO
  rw [if_pos (by omega), if_pos (by omega), List.drop_eq_getElem_cons hi, lns, if_neg h]
  congr 1
  rw [← List.take_append_getElem hi, List.drop_append_of_le_length (by rw [List.length_take]; omega)]
theorem lns_cut {l : List UInt8} {f i : Nat} (hf : f ≤ i) (hi : i ≤ l.length) (h : ∀ hi : i < l.length, l[i] = 10) : lnsO l f i = (l.take i).drop f :: lnsO l (i + 1) (i + 1) := by
  unfold lnsO
  rw [if_pos hi]
  by_cases hlt : i < l.length
  · have e : (l.take (i + 1)).drop (i + 1) = [] := List.drop_of_length_le (by rw [List.length_take]; omega)
    rw [List.drop_eq_getElem_cons hlt, lns, if_pos (h hlt), if_pos (by omega), e]
  · have e : l.drop i = [] := List.drop_of_length_le (by omega)
    rw [e, lns, if_neg (by omega)]
theorem nocut {l : List UInt8} {i : Nat} (h : ¬ ∀ hi : i < l.length, l[i] = 10) : ∃ hil : i < l.length, l[i] ≠ 10 := by
  by_cases h1 : i < l.length
  · exact ⟨h1, fun h2 => h fun _ => h2⟩
  · exact absurd (fun h2 => absurd h2 h1) h
def parseQ (l : List UInt8) : List Ev × Int × Int := if 65536 < l.length then ([], 0, 1) else parseGo readR (lns [] l) 0 []
theorem ext_eq (l : List UInt8) (f i : Nat) (hi : i ≤ l.length) : (⟨l.toArray⟩ : ByteArray).extract f i = ⟨((l.take i).drop f).toArray⟩ := by
  apply ByteArray.ext
  apply Array.toList_inj.1
  simp [List.drop_take]
set_option maxRecDepth 100000 in
set_option maxHeartbeats 32000000 in
theorem parse9 (l : List UInt8) (hl : l.length ≤ 9223372036854775807) (w : World) : Calls Tryd.prog 9 #[strV l] w (RetPa (parseQ l) w) := by
  by_cases hbig : 65536 < l.length
  · have HP : Hid (parseQ l = ([], 0, 1)) := if_pos hbig
    have h1 : (65536 : Int) < (l.length : Int) := by omega
    unfold strV
    clear hbig
    go_enter Tryd.func9, Tryd.ntmps9
    go_wp2
    refine bodyPost_ret (v := .tuple #[.slice none 0 0, .int .i64 0, .int .i64 1]) (by simp [results, Tryd.results9, go_sem]) rfl ?_
    rw [HP.out]
    exact ⟨_, rfl, OwS.nil_ _ _, Below.refl _ _⟩
  · have HP : Hid (parseQ l = parseGo readR (lnsO l 0 0) 0 []) := by show _ = _; unfold parseQ; rw [if_neg hbig]; simp [lnsO]
    have h2 : ¬ (65536 : Int) < (l.length : Int) := by omega
    have hl6 : l.length ≤ 65536 := by omega
    clear hbig
    unfold strV
    go_enter Tryd.func9, Tryd.ntmps9
    go_wp2
    go_loopw [5, 6, 7, 8] (fun p nn fr ii wr => ∃ (k f i : Nat) (out : List Ev), nn = .int .i64 ((k : Int) + 1) ∧ fr = .int .i64 f ∧ ii = .int .i64 i ∧ i ≤ l.length + 1 ∧ f ≤ i ∧ k ≤ i ∧ out.length ≤ 4096 ∧ Hid (OwS wr w.heap.size p out) ∧ Hid (parseGo readR (lnsO l f i) k out = parseGo readR (lnsO l 0 0) 0 []) ∧ Hid (Below w.heap.size w wr)) (fun _ _ _ i _ => l.length + 1 - (intOf i).toNat)
    case atStart => exact ⟨0, 0, 0, [], rfl, rfl, rfl, Nat.zero_le _, Nat.zero_le _, Nat.zero_le _, by simp, OwS.nil_ _ _, rfl, Below.refl _ _⟩
    case round =>
      obtain ⟨k, f, i, out, rfl, rfl, rfl, hi, hfi, hki, hol, HO, HG, HB⟩ := hrel
      obtain ⟨P, cp, rfl, hcp, hrp⟩ := HO.out.shape
      have hbs := HB.out.size
      clear hrp
      by_cases hlt : i ≤ l.length
      · have hlt1 : (i : Int) ≤ (l.length : Int) := by omega
        by_cases hcut : ∀ hi : i < l.length, l[i] = 10
        · have HGO := Lib.hid (lns_cut hfi hlt hcut)
          have hEx := ext_eq l f i hlt
          have hpl : ((l.take i).drop f).length ≤ 65536 := by simp; omega
          generalize (l.take i).drop f = p at *
          have HRX := Lib.hid (read24 p (by omega) wr)
          have HGC : Hid (parseGo readR (lnsO l f i) k out = if p = [] then parseGo readR (lnsO l (i + 1) (i + 1)) (k + 1) out else if (readR p).2 = false then ([], ((k + 1 : Nat) : Int), 2) else if out.length = 4096 then ([], ((k + 1 : Nat) : Int), 6) else parseGo readR (lnsO l (i + 1) (i + 1)) (k + 1) (out ++ [(readR p).1])) := by show _ = _; rw [HGO.out, parseGo]
          unfold RetEB strV at HRX
          clear HGO
          have hz30 : Hid (i = l.length ∨ ∃ hi : i < l.length, l[i] = 10) := by
            show _ ∨ _
            by_cases h : i < l.length
            · exact .inr ⟨h, hcut h⟩
            · exact .inl (by omega)
          clear hcut hpl
          have hfi1 : (f : Int) ≤ (i : Int) := by omega
          obtain ⟨rd, hrd⟩ : ∃ rd, readR p = rd := ⟨_, rfl⟩
          rw [hrd] at HGC HRX
          clear hrd
          obtain ⟨e0, ok0⟩ := rd
          obtain ⟨t0, wh0, k0, tw0, n0⟩ := e0
          unfold Ev.v at HRX
          simp only at HRX HGC
          by_cases hz : p = []
          · rw [if_pos hz] at HGC
            have HG2 := Lib.hid (HGC.out.symm.trans HG.out)
            subst hz
            clear HGC HG
            rcases hz30.out with hil | ⟨hil, hch⟩
            · have hi1 : ¬ (i : Int) < (l.length : Int) := by omega
              clear hil hz30
              go_wp2_with (go_at_call 24; refine HRX.out.mono ?_)
              first | rintro e w3 rfl hb3 | rintro e w3 ⟨rfl, hb3⟩
              have HB3 := Lib.hid (bthen HB.out hb3)
              have HO3 := Lib.hid (HO.out.below hb3)
              have HVE := Lib.hid (VarE.made w3 ⟨t0, wh0, k0, tw0, n0⟩)
              have HBA : Hid (Below w3.heap.size w3 (w3.alloc (.cells #[.bool t0, .int .i64 wh0, .int .u8 k0, .int .i64 tw0, .int .i64 n0] 41))) := balloc (Below.refl _ _) _
              have HB4 := Lib.hid (bthen HB3.out HBA.out)
              have HO4 := Lib.hid (HO3.out.below HBA.out)
              clear hb3 HRX
              go_wp2
              go_roundw
              case rel => exact ⟨k + 1, i + 1, i + 1, out, by go_num, by go_num, by go_num, by omega, by omega, by omega, hol, HO4.out, HG2.out, HB4.out⟩
              case measure => simp [intOf]; omega
            · have hi1 : (i : Int) < (l.length : Int) := by omega
              have hsz : i < (⟨l.toArray⟩ : ByteArray).size := by simp [ByteArray.size]; exact hil
              have hch2 : (⟨l.toArray⟩ : ByteArray)[i] = 10 := hch
              clear hch
              go_wp2_with (go_at_call 24; refine HRX.out.mono ?_)
              first | rintro e w3 rfl hb3 | rintro e w3 ⟨rfl, hb3⟩
              have HB3 := Lib.hid (bthen HB.out hb3)
              have HO3 := Lib.hid (HO.out.below hb3)
              have HVE := Lib.hid (VarE.made w3 ⟨t0, wh0, k0, tw0, n0⟩)
              have HBA : Hid (Below w3.heap.size w3 (w3.alloc (.cells #[.bool t0, .int .i64 wh0, .int .u8 k0, .int .i64 tw0, .int .i64 n0] 41))) := balloc (Below.refl _ _) _
              have HB4 := Lib.hid (bthen HB3.out HBA.out)
              have HO4 := Lib.hid (HO3.out.below HBA.out)
              clear hb3 HRX
              go_wp2
              go_roundw
              case rel => exact ⟨k + 1, i + 1, i + 1, out, by go_num, by go_num, by go_num, by omega, by omega, by omega, hol, HO4.out, HG2.out, HB4.out⟩
              case measure => simp [intOf]; omega
          · have z1 : p.isEmpty = false := by cases p with | nil => exact absurd rfl hz | cons => rfl
            obtain ⟨z2, z3, z4, z5⟩ := str_ne hz
            rw [if_neg hz] at HGC
            clear hz
            cases ok0 with
            | false =>
              rw [if_pos rfl] at HGC
              have HFIN := Lib.hid (HP.out.trans (HG.out.symm.trans HGC.out))
              rcases hz30.out with hil | ⟨hil, hch⟩
              · have hi1 : ¬ (i : Int) < (l.length : Int) := by omega
                clear hil hz30
                go_wp2_with (go_at_call 24; refine HRX.out.mono ?_)
                first | rintro e w3 rfl hb3 | rintro e w3 ⟨rfl, hb3⟩
                have HB3 := Lib.hid (bthen HB.out hb3)
                have HO3 := Lib.hid (HO.out.below hb3)
                have HVE := Lib.hid (VarE.made w3 ⟨t0, wh0, k0, tw0, n0⟩)
                have HBA : Hid (Below w3.heap.size w3 (w3.alloc (.cells #[.bool t0, .int .i64 wh0, .int .u8 k0, .int .i64 tw0, .int .i64 n0] 41))) := balloc (Below.refl _ _) _
                have HB4 := Lib.hid (bthen HB3.out HBA.out)
                have HO4 := Lib.hid (HO3.out.below HBA.out)
                clear hb3 HRX
                go_wp2
                refine bodyPost_ret (v := .tuple #[.slice none 0 0, .int .i64 ((k : Int) + 1), .int .i64 2]) (by simp [results, Tryd.results9, go_sem]) rfl ?_
                rw [HFIN.out]
                exact ⟨_, rfl, OwS.nil_ _ _, HB4.out⟩
              · have hi1 : (i : Int) < (l.length : Int) := by omega
                have hsz : i < (⟨l.toArray⟩ : ByteArray).size := by simp [ByteArray.size]; exact hil
                have hch2 : (⟨l.toArray⟩ : ByteArray)[i] = 10 := hch
                clear hch
                go_wp2_with (go_at_call 24; refine HRX.out.mono ?_)
                first | rintro e w3 rfl hb3 | rintro e w3 ⟨rfl, hb3⟩
                have HB3 := Lib.hid (bthen HB.out hb3)
                have HO3 := Lib.hid (HO.out.below hb3)
                have HVE := Lib.hid (VarE.made w3 ⟨t0, wh0, k0, tw0, n0⟩)
                have HBA : Hid (Below w3.heap.size w3 (w3.alloc (.cells #[.bool t0, .int .i64 wh0, .int .u8 k0, .int .i64 tw0, .int .i64 n0] 41))) := balloc (Below.refl _ _) _
                have HB4 := Lib.hid (bthen HB3.out HBA.out)
                have HO4 := Lib.hid (HO3.out.below HBA.out)
                clear hb3 HRX
                go_wp2
                refine bodyPost_ret (v := .tuple #[.slice none 0 0, .int .i64 ((k : Int) + 1), .int .i64 2]) (by simp [results, Tryd.results9, go_sem]) rfl ?_
                rw [HFIN.out]
                exact ⟨_, rfl, OwS.nil_ _ _, HB4.out⟩
            | true =>
              rw [if_neg (by simp)] at HGC
              by_cases hfull : out.length = 4096
              · rw [if_pos hfull] at HGC
                have HFIN := Lib.hid (HP.out.trans (HG.out.symm.trans HGC.out))
                have hf1 : ((out.length : Int) == 4096) = true := by rw [hfull]; rfl
                clear hfull
                rcases hz30.out with hil | ⟨hil, hch⟩
                · have hi1 : ¬ (i : Int) < (l.length : Int) := by omega
                  clear hil hz30
                  go_wp2_with (go_at_call 24; refine HRX.out.mono ?_)
                  first | rintro e w3 rfl hb3 | rintro e w3 ⟨rfl, hb3⟩
                  have HB3 := Lib.hid (bthen HB.out hb3)
                  have HO3 := Lib.hid (HO.out.below hb3)
                  have HVE := Lib.hid (VarE.made w3 ⟨t0, wh0, k0, tw0, n0⟩)
                  have HBA : Hid (Below w3.heap.size w3 (w3.alloc (.cells #[.bool t0, .int .i64 wh0, .int .u8 k0, .int .i64 tw0, .int .i64 n0] 41))) := balloc (Below.refl _ _) _
                  have HB4 := Lib.hid (bthen HB3.out HBA.out)
                  have HO4 := Lib.hid (HO3.out.below HBA.out)
                  clear hb3 HRX
                  go_wp2
                  refine bodyPost_ret (v := .tuple #[.slice none 0 0, .int .i64 ((k : Int) + 1), .int .i64 6]) (by simp [results, Tryd.results9, go_sem]) rfl ?_
                  rw [HFIN.out]
                  exact ⟨_, rfl, OwS.nil_ _ _, HB4.out⟩
                · have hi1 : (i : Int) < (l.length : Int) := by omega
                  have hsz : i < (⟨l.toArray⟩ : ByteArray).size := by simp [ByteArray.size]; exact hil
                  have hch2 : (⟨l.toArray⟩ : ByteArray)[i] = 10 := hch
                  clear hch
                  go_wp2_with (go_at_call 24; refine HRX.out.mono ?_)
                  first | rintro e w3 rfl hb3 | rintro e w3 ⟨rfl, hb3⟩
                  have HB3 := Lib.hid (bthen HB.out hb3)
                  have HO3 := Lib.hid (HO.out.below hb3)
                  have HVE := Lib.hid (VarE.made w3 ⟨t0, wh0, k0, tw0, n0⟩)
                  have HBA : Hid (Below w3.heap.size w3 (w3.alloc (.cells #[.bool t0, .int .i64 wh0, .int .u8 k0, .int .i64 tw0, .int .i64 n0] 41))) := balloc (Below.refl _ _) _
                  have HB4 := Lib.hid (bthen HB3.out HBA.out)
                  have HO4 := Lib.hid (HO3.out.below HBA.out)
                  clear hb3 HRX
                  go_wp2
                  refine bodyPost_ret (v := .tuple #[.slice none 0 0, .int .i64 ((k : Int) + 1), .int .i64 6]) (by simp [results, Tryd.results9, go_sem]) rfl ?_
                  rw [HFIN.out]
                  exact ⟨_, rfl, OwS.nil_ _ _, HB4.out⟩
              · rw [if_neg hfull] at HGC
                have HG2 := Lib.hid (HGC.out.symm.trans HG.out)
                have hf1 : ((out.length : Int) == 4096) = false := by rw [beq_eq_false_iff_ne]; omega
                have hf2 : (out.length == 4096) = false := by rw [beq_eq_false_iff_ne]; exact hfull
                clear HGC HG
                rcases hz30.out with hil | ⟨hil, hch⟩
                · have hi1 : ¬ (i : Int) < (l.length : Int) := by omega
                  clear hil hz30
                  go_wp2_with (go_at_call 24; refine HRX.out.mono ?_)
                  first | rintro e w3 rfl hb3 | rintro e w3 ⟨rfl, hb3⟩
                  have HB3 := Lib.hid (bthen HB.out hb3)
                  have HO3 := Lib.hid (HO.out.below hb3)
                  have HVE := Lib.hid (VarE.made w3 ⟨t0, wh0, k0, tw0, n0⟩)
                  have HBA : Hid (Below w3.heap.size w3 (w3.alloc (.cells #[.bool t0, .int .i64 wh0, .int .u8 k0, .int .i64 tw0, .int .i64 n0] 41))) := balloc (Below.refl _ _) _
                  have HB4 := Lib.hid (bthen HB3.out HBA.out)
                  have HO4 := Lib.hid (HO3.out.below HBA.out)
                  clear hb3 HRX
                  go_upto_region 17 with fail
                  generalize hW : w3.alloc (.cells #[.bool t0, .int .i64 wh0, .int .u8 k0, .int .i64 tw0, .int .i64 n0] 41) = w4 at *
                  generalize w3.heap.size = b4 at *
                  clear hW
                  obtain ⟨j0, j1, j2, j3, j4, -⟩ := HVE.out
                  simp only at j0 j1 j2 j3 j4
                  have mj := World.block_lt_of_cell? _ _ j0
                  have HX := Lib.hid (rd_ev w4 ⟨t0, wh0, k0, tw0, n0⟩)
                  have HBX : Hid (Below w4.heap.size w4 (w4.alloc (.cells #[.bool t0, .int .i64 wh0, .int .u8 k0, .int .i64 tw0, .int .i64 n0] 41))) := balloc (Below.refl _ _) _
                  have HO5 := Lib.hid (HO4.out.below HBX.out)
                  have HB5 := Lib.hid (bthen HB4.out HBX.out)
                  have HZ5 := Lib.hid HB5.out.size
                  have HY : Hid ((out.length + ([⟨t0, wh0, k0, tw0, n0⟩] : List Ev).length) * 40 ≤ 140737488355328) := by show _ ≤ _; simp; omega
                  go_wp2_with (at_builtin; refine wpl_appS rfl (.tmp 59) (.tmp 61) rfl w.heap.size _ out [⟨t0, wh0, k0, tw0, n0⟩] rfl HO5.out (some ⟨w4.heap.size, 0, none⟩) 1 rfl HX.out HY.out HZ5.out ?_)
                  intro v' w9 ho hg
                  have HB9 := Lib.hid (bownS HB5.out hg HO5.out)
                  have HO9 := Lib.hid ho
                  clear ho hg
                  go_wp2
                  go_roundw
                  case rel => exact ⟨k + 1, i + 1, i + 1, out ++ [(⟨t0, wh0, k0, tw0, n0⟩ : Ev)], by go_num, by go_num, by go_num, by omega, by omega, by omega, by rw [List.length_append]; simp; omega, HO9.out, HG2.out, HB9.out⟩
                  case measure => simp [intOf]; omega
                · have hi1 : (i : Int) < (l.length : Int) := by omega
                  have hsz : i < (⟨l.toArray⟩ : ByteArray).size := by simp [ByteArray.size]; exact hil
                  have hch2 : (⟨l.toArray⟩ : ByteArray)[i] = 10 := hch
                  clear hch
                  go_wp2_with (go_at_call 24; refine HRX.out.mono ?_)
                  first | rintro e w3 rfl hb3 | rintro e w3 ⟨rfl, hb3⟩
                  have HB3 := Lib.hid (bthen HB.out hb3)
                  have HO3 := Lib.hid (HO.out.below hb3)
                  have HVE := Lib.hid (VarE.made w3 ⟨t0, wh0, k0, tw0, n0⟩)
                  have HBA : Hid (Below w3.heap.size w3 (w3.alloc (.cells #[.bool t0, .int .i64 wh0, .int .u8 k0, .int .i64 tw0, .int .i64 n0] 41))) := balloc (Below.refl _ _) _
                  have HB4 := Lib.hid (bthen HB3.out HBA.out)
                  have HO4 := Lib.hid (HO3.out.below HBA.out)
                  clear hb3 HRX
                  go_upto_region 17 with fail
                  generalize hW : w3.alloc (.cells #[.bool t0, .int .i64 wh0, .int .u8 k0, .int .i64 tw0, .int .i64 n0] 41) = w4 at *
                  generalize w3.heap.size = b4 at *
                  clear hW
                  obtain ⟨j0, j1, j2, j3, j4, -⟩ := HVE.out
                  simp only at j0 j1 j2 j3 j4
                  have mj := World.block_lt_of_cell? _ _ j0
                  have HX := Lib.hid (rd_ev w4 ⟨t0, wh0, k0, tw0, n0⟩)
                  have HBX : Hid (Below w4.heap.size w4 (w4.alloc (.cells #[.bool t0, .int .i64 wh0, .int .u8 k0, .int .i64 tw0, .int .i64 n0] 41))) := balloc (Below.refl _ _) _
                  have HO5 := Lib.hid (HO4.out.below HBX.out)
                  have HB5 := Lib.hid (bthen HB4.out HBX.out)
                  have HZ5 := Lib.hid HB5.out.size
                  have HY : Hid ((out.length + ([⟨t0, wh0, k0, tw0, n0⟩] : List Ev).length) * 40 ≤ 140737488355328) := by show _ ≤ _; simp; omega
                  go_wp2_with (at_builtin; refine wpl_appS rfl (.tmp 59) (.tmp 61) rfl w.heap.size _ out [⟨t0, wh0, k0, tw0, n0⟩] rfl HO5.out (some ⟨w4.heap.size, 0, none⟩) 1 rfl HX.out HY.out HZ5.out ?_)
                  intro v' w9 ho hg
                  have HB9 := Lib.hid (bownS HB5.out hg HO5.out)
                  have HO9 := Lib.hid ho
                  clear ho hg
                  go_wp2
                  go_roundw
                  case rel => exact ⟨k + 1, i + 1, i + 1, out ++ [(⟨t0, wh0, k0, tw0, n0⟩ : Ev)], by go_num, by go_num, by go_num, by omega, by omega, by omega, by rw [List.length_append]; simp; omega, HO9.out, HG2.out, HB9.out⟩
                  case measure => simp [intOf]; omega
        · have hc2 := nocut hcut
          clear hcut
          obtain ⟨hil, hch⟩ := hc2
          have HG2 : Hid (parseGo readR (lnsO l f (i + 1)) k out = parseGo readR (lnsO l 0 0) 0 []) := by show _ = _; rw [← lns_step hfi hil hch]; exact HG.out
          have hi1 : (i : Int) < (l.length : Int) := by omega
          have hsz : i < (⟨l.toArray⟩ : ByteArray).size := by simp [ByteArray.size]; exact hil
          obtain ⟨ch, hch1⟩ : ∃ ch, l[i] = ch := ⟨_, rfl⟩
          have hch2 : (⟨l.toArray⟩ : ByteArray)[i] = ch := hch1
          have hch : ch ≠ 10 := by rw [← hch1]; exact hch
          have hne : (ch != 10) = true := by simpa using hch
          have hnn : ((ch.toNat : Int) != 10) = true := by
            have : ch.toNat ≠ 10 := fun h => hch (UInt8.toNat_inj.1 h)
            simp; omega
          clear hch1 hch
          go_wp2
          go_roundw
          case rel => exact ⟨k, f, i + 1, out, rfl, rfl, by go_num, by omega, by omega, by omega, hol, HO.out, HG2.out, HB.out⟩
          case measure => simp [intOf]; omega
      · have hie : i = l.length + 1 := by omega
        have hlt1 : ¬ (i : Int) ≤ (l.length : Int) := by omega
        have HFIN : Hid (parseQ l = (out, 0, 0)) := by
          show _ = _
          rw [HP.out, ← HG.out, lnsO, if_neg hlt, parseGo]
        go_wp2
        refine bodyPost_ret (v := .tuple #[.slice P out.length cp, .int .i64 0, .int .i64 0]) (by simp [results, Tryd.results9, go_sem]) rfl ?_
        rw [HFIN.out]
        exact ⟨_, rfl, HO.out, HB.out⟩
end Go.Proofs.YtfgeomdfgjefdaaDoor
