/- The walk of the reference's heads. -/
import Derived.Test.YtfgeomdfgjefdaaDoorAB
import Derived.Deep.AppendLies
namespace Go.Proofs.YtfgeomdfgjefdaaDoor
open Go.RowKit
set_option linter.unusedVariables false
set_option linter.unusedSimpArgs false

def tripE (i : Int) : List Ev := [⟨true, i, 0, 0, 1⟩, ⟨false, 0, 2, i, 1⟩, ⟨false, 0, 3, i, 1⟩]
def headsA (k : Nat) : List Ev := (List.range k).flatMap (fun (i : Nat) => tripE (i : Int))
def kindsL : List Int := [1, 4, 5, 6]
def headsB (k : Nat) : List Ev := headsA 4 ++ (kindsL.take k).map (fun x => ⟨false, 0, x, 0, 1⟩)
def headsL : List Ev := headsB 4
theorem headsA_succ (k : Nat) : headsA (k + 1) = headsA k ++ tripE (k : Int) := by
  unfold headsA
  rw [List.range_succ, List.flatMap_append]
  simp
theorem headsA_len (k : Nat) : (headsA k).length = 3 * k := by
  induction k with
  | zero => rfl
  | succ k ih => rw [headsA_succ, List.length_append, ih]; simp [tripE]; omega
theorem rd_trip (w : World) (i : Int) : RdS (w.alloc (.cells #[.bool true, .int .i64 i, .int .u8 0, .int .i64 0, .int .i64 1, .bool false, .int .i64 0, .int .u8 2, .int .i64 i, .int .i64 1, .bool false, .int .i64 0, .int .u8 3, .int .i64 i, .int .i64 1] 41)) (some ⟨w.heap.size, 0, none⟩) (tripE i) :=
  own_rd (World.ownsRow_lit (base := w.heap.size) (e := 41) (size := 5) w #[.bool true, .int .i64 i, .int .u8 0, .int .i64 0, .int .i64 1, .bool false, .int .i64 0, .int .u8 2, .int .i64 i, .int .i64 1, .bool false, .int .i64 0, .int .u8 3, .int .i64 i, .int .i64 1] 3 (Nat.le_refl _) (by simp [maxLen]) rfl)
set_option maxRecDepth 100000 in
set_option maxHeartbeats 32000000 in
theorem heads41 (w : World) : Calls Tryd.prog 41 #[] w (RetS headsL w) := by
  go_enter Tryd.func41, Tryd.ntmps41
  go_upto_block 0 with fail
  go_cut [1] (fun p wx => Hid (OwS wx w.heap.size p (headsA 4)) ∧ Hid (Below w.heap.size w wx))
  case first =>
    go_wp2
    go_loopw [1, 2] (fun p i wr => ∃ (k : Nat), i = .int .i64 k ∧ k ≤ 4 ∧ Hid (OwS wr w.heap.size p (headsA k)) ∧ Hid (Below w.heap.size w wr)) (fun _ i _ => 4 - (intOf i).toNat)
    case atStart => exact ⟨0, rfl, by omega, OwS.nil_ _ _, Below.refl _ _⟩
    case round =>
      obtain ⟨k, rfl, hk, HO, HB⟩ := hrel
      by_cases hlt : k < 4
      · have hlt1 : (k : Int) < 4 := by omega
        have HN := Lib.hid (headsA_succ k)
        have hol : (headsA k).length ≤ 100 := by rw [headsA_len]; omega
        generalize headsA k = out at *
        obtain ⟨P, cp, rfl, hcp, hrp⟩ := HO.out.shape
        have HBB : Hid (∀ o, Below wr.heap.size wr (wr.alloc o)) := fun o => balloc (Below.refl _ _) o
        have HO2 : Hid (∀ o, OwS (wr.alloc o) w.heap.size (.slice P out.length cp) out) := fun o => HO.out.below (HBB.out o)
        have HB2 : Hid (∀ o, Below w.heap.size w (wr.alloc o)) := fun o => balloc HB.out o
        have HX := Lib.hid (rd_trip wr k)
        have HY : Hid ((out.length + (tripE (k : Int)).length) * 40 ≤ 140737488355328) := by show _ ≤ _; simp [tripE]; omega
        clear hrp
        go_wp2_with (at_builtin; refine wpl_appS rfl (.tmp 9) (.tmp 18) rfl w.heap.size _ out (tripE (k : Int)) rfl (HO2.out _) (some ⟨wr.heap.size, 0, none⟩) 3 rfl HX.out HY.out (HB2.out _).size ?_)
        intro v' w9 ho hg
        have HB9 := Lib.hid (bownS (HB2.out _) hg (HO2.out _))
        have HO9 := Lib.hid ho
        clear ho hg
        go_wp2
        go_roundw
        case rel => exact ⟨k + 1, by go_num, by omega, by rw [HN.out]; exact HO9.out, HB9.out⟩
        case measure => simp [intOf]; omega
      · have hk4 : k = 4 := by omega
        subst hk4
        go_wp2
        go_meet
        exact ⟨HO.out, HB.out⟩
  case rest =>
    obtain ⟨HO, HB⟩ := hcut
    have HBA : Hid (Below wc.heap.size wc (wc.alloc (.cells #[.int .u8 1, .int .u8 4, .int .u8 5, .int .u8 6] 37))) := balloc (Below.refl _ _) _
    have HT : Hid ((wc.alloc (.cells #[.int .u8 1, .int .u8 4, .int .u8 5, .int .u8 6] 37)).heap[wc.heap.size]? = some (.cells #[.int .u8 1, .int .u8 4, .int .u8 5, .int .u8 6] 37 (0, 0))) := by show _ = _; exact heap_alloc_new wc _
    have HO2 := Lib.hid (HO.out.below HBA.out)
    have HB2 := Lib.hid (bthen HB.out HBA.out)
    clear HO HB
    go_upto_block 2 with fail
    generalize hW : wc.alloc (.cells #[.int .u8 1, .int .u8 4, .int .u8 5, .int .u8 6] 37) = wa at *
    generalize wc.heap.size = g at *
    clear hW HBA
    go_wp2
    go_loopw [1, 22] (fun p i wr => ∃ (k : Nat), i = .int .i64 k ∧ k ≤ 4 ∧ Hid (OwS wr w.heap.size p (headsB k)) ∧ Hid (Below w.heap.size w wr) ∧ Hid (wr.heap[g]? = some (.cells #[.int .u8 1, .int .u8 4, .int .u8 5, .int .u8 6] 37 (0, 0)))) (fun _ i _ => 4 - (intOf i).toNat)
    case atStart => exact ⟨0, rfl, by omega, by show OwS _ _ _ _; simpa [headsB] using HO2.out, HB2.out, HT.out⟩
    case round =>
      obtain ⟨k, rfl, hk, HOk, HBk, HTk⟩ := hrel
      by_cases hlt : k < 4
      · have hlt1 : (k : Int) < 4 := by omega
        have hkx : kindsL[k]? = some (kindsL[k]'(by simpa [kindsL] using hlt)) := List.getElem?_eq_getElem _
        generalize (kindsL[k]'_) = x at hkx
        have HN : Hid (headsB (k + 1) = headsB k ++ [⟨false, 0, x, 0, 1⟩]) := by
          show _ = _
          unfold headsB
          rw [List.take_add_one, hkx]
          simp
        have hc : wr.cell? ⟨g, k, none⟩ = some (.int .u8 x) := by
          have h1 := cell_of_row wr g k #[.int .u8 1, .int .u8 4, .int .u8 5, .int .u8 6] 37 (0, 0) HTk.out
          rw [h1]
          have h2 : (kindsL.map (fun z => Value.int .u8 z))[k]? = some (.int .u8 x) := by rw [List.getElem?_map, hkx]; rfl
          simpa [kindsL] using h2
        have hol : (headsB k).length ≤ 100 := by
          unfold headsB
          rw [List.length_append, headsA_len, List.length_map, List.length_take]
          omega
        have hgl := World.block_lt_of_cell? _ _ hc
        generalize headsB k = out at *
        obtain ⟨P, cp, rfl, hcp, hrp⟩ := HOk.out.shape
        have HNG : Hid (some g ≠ (Value.slice P out.length cp).ownBlock) := fun e => by
          obtain ⟨cur, h1, _⟩ := own_block HOk.out e.symm
          have h2 := HTk.out
          rw [h1] at h2
          simp at h2
        have HBB : Hid (∀ o, Below wr.heap.size wr (wr.alloc o)) := fun o => balloc (Below.refl _ _) o
        have HO2 : Hid (∀ o, OwS (wr.alloc o) w.heap.size (.slice P out.length cp) out) := fun o => HOk.out.below (HBB.out o)
        have HB2 : Hid (∀ o, Below w.heap.size w (wr.alloc o)) := fun o => balloc HBk.out o
        have HX := Lib.hid (rd_ev wr ⟨false, 0, x, 0, 1⟩)
        have HY : Hid ((out.length + ([⟨false, 0, x, 0, 1⟩] : List Ev).length) * 40 ≤ 140737488355328) := by show _ ≤ _; simp; omega
        clear hrp hkx
        go_wp2_with (at_builtin; refine wpl_appS rfl (.tmp 26) (.tmp 30) rfl w.heap.size _ out [⟨false, 0, x, 0, 1⟩] rfl (HO2.out _) (some ⟨wr.heap.size, 0, none⟩) 1 rfl HX.out HY.out (HB2.out _).size ?_)
        intro v' w9 ho hg
        have HB9 := Lib.hid (bownS (HB2.out _) hg (HO2.out _))
        have HO9 := Lib.hid ho
        have HT9 : Hid (w9.heap[g]? = some (.cells #[.int .u8 1, .int .u8 4, .int .u8 5, .int .u8 6] 37 (0, 0))) := (hg.block g (Nat.lt_of_lt_of_le hgl (HBB.out _).size) HNG.out).trans (((HBB.out _).block g hgl).trans HTk.out)
        clear ho hg hc
        go_wp2
        go_roundw
        case rel => exact ⟨k + 1, by go_num, by omega, by rw [HN.out]; exact HO9.out, HB9.out, HT9.out⟩
        case measure => simp [intOf]; omega
      · have hk4 : k = 4 := by omega
        subst hk4
        go_wp2
        go_ret
        exact ⟨_, rfl, HOk.out, HBk.out⟩
end Go.Proofs.YtfgeomdfgjefdaaDoor
