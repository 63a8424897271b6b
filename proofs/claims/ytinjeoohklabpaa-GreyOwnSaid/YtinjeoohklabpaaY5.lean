/- The walks of slices.Grow at the nil slice, and of Concat. -/
import Derived.Test.YtinjeoohklabpaaY4
import Derived.Lib.AppendZerosOnto
namespace Go.Proofs.Ytinjeoohklabpaa
open Go.RowKit
set_option linter.unusedVariables false
set_option linter.unusedSimpArgs false

set_option maxRecDepth 100000 in
set_option maxHeartbeats 8000000 in
theorem growU (n : Nat) (w : World) (hn : n ≤ 1000000) : Calls Try.prog 37 #[.slice none 0 0, .int .i64 n] w (RetU [] w) := by
  rcases Nat.eq_zero_or_pos n with rfl | h0
  · go_enter Try.func37, Try.ntmps37
    go_wp2
    go_ret
    exact ⟨_, rfl, OwU.nil_ _ _, Below.refl _ _⟩
  · obtain ⟨i0, hi0, hz0, hz1, hz2⟩ := info_parts infoU
    have hrz : ∀ ty, (Builtin.append_ #[25, 3] ty #[.slice none 0 0, .int .i64 (n : Int)]).run Try.prog w =
        .ok (.slice (some ⟨w.heap.size, 0, none⟩) n (grownCap w n 0 30)) (w.drew.alloc (.cells (Builtin.zeroCells (Value.cells (.int .u64 0)) n ++ Builtin.zeroCells (Value.cells (.int .u64 0)) (grownCap w n 0 30 - n)) 30)) := fun ty =>
      Lib.run_append_nil_zeros (P := Try.prog) w 25 3 ty 30 i0 (.int .u64 0) .i64 .i64 Try.underlying25 Try.underlying3 hi0 hz0 n h0 (by omega) (by omega) (by rw [hz2]; omega)
    have hge := grownCap_ge w n 0 30
    have hle := grownCap_le_maxLen w n 0 30 (by unfold maxLen; omega)
    have hZs : (Builtin.zeroCells (Value.cells (.int .u64 0)) n ++ Builtin.zeroCells (Value.cells (.int .u64 0)) (grownCap w n 0 30 - n)).size = grownCap w n 0 30 * 1 := by
      rw [Array.size_append, size_zeroCells, size_zeroCells]; simp [Value.cells]; omega
    generalize (Builtin.zeroCells (Value.cells (.int .u64 0)) n ++ Builtin.zeroCells (Value.cells (.int .u64 0)) (grownCap w n 0 30 - n)) = Z at *
    have HO : Hid (OwU (w.drew.alloc (.cells Z 30)) w.heap.size (.slice (some ⟨w.heap.size, 0, none⟩) 0 (grownCap w n 0 30)) []) :=
      World.ownsRow_made w.drew _ _ (Nat.le_refl _) hle hZs
    have HB : Hid (Below w.heap.size w (w.drew.alloc (.cells Z 30))) := balloc (Below.refl _ _).drew _
    unfold maxLen at hle
    generalize grownCap w n 0 30 = G at *
    clear hi0 hz0 hz1 hz2 hZs
    go_enter Try.func37, Try.ntmps37
    go_wp2_with (at_builtin; refine Lib.wpList_append_run _ rfl _ _ _ _ rfl _ _ rfl rfl _ _ (hrz _) ?_)
    all_goals
      go_ret
      exact ⟨_, rfl, HO.out, HB.out⟩

set_option maxRecDepth 100000 in
set_option maxHeartbeats 8000000 in
theorem concatQ (A : Option Addr) (c : Nat) (vs : List QV) (l : List (List Int)) (w : World) (ha : RdQ w A vs l) (hm : manyN l ≤ 100000) :
    Calls Try.prog 29 #[.slice A l.length c] w (RetU l.flatten w) := by
  have hl := ha.len
  have HA := Lib.hid ha
  have HM := Lib.hid hm
  have CG : Hid (∀ (n : Nat) W, n ≤ 1000000 → Calls Try.prog 37 #[.slice none 0 0, .int .i64 n] W (RetU [] W)) := fun n W h => growU n W h
  clear ha hm
  go_enter Try.func29, Try.ntmps29
  go_wp2
  go_loopw [3, 11] (fun n i wr => ∃ k z : Nat, n = .int .i64 z ∧ k ≤ l.length ∧ i = .int .i64 k ∧ z ≤ 100000 ∧ Hid (z = manyN (l.take k)) ∧ Hid (Below w.heap.size w wr)) (fun n i _ => l.length - (intOf i).toNat)
  case atStart => exact ⟨0, 0, rfl, Nat.zero_le _, rfl, Nat.zero_le _, Eq.refl (manyN (l.take 0)), Below.refl _ _⟩
  case round =>
    obtain ⟨k, z, rfl, hk, rfl, hz, HZ, HBr⟩ := hrel
    by_cases hlt : k < l.length
    · have hs : l[k]? = some l[k] := List.getElem?_eq_getElem hlt
      generalize l[k] = s at hs
      obtain ⟨v, bv, ov, hvi, hA, hbv, c0, hR⟩ := HA.out.at_ hs
      subst hA
      obtain ⟨v1, v2, v3⟩ := v
      simp only at c0
      have HZ2 : Hid (z + s.length = manyN (l.take (k + 1))) := by show _ = _; rw [manyN_succ hs, HZ.out]
      have hzb : z + s.length ≤ 100000 := by
        have h1 := HZ2.out
        have h2 := HM.out
        have h3 := manyN_take l (k + 1)
        omega
      have hc := cell_later HBr.out c0
      clear hR hvi hs c0
      go_wp2
      go_roundw
      case rel => exact ⟨k + 1, z + s.length, by go_num, by omega, by go_num, hzb, HZ2.out, HBr.out⟩
      case measure => simp [intOf]; omega
    · obtain rfl : k = l.length := by omega
      have hz2 : z ≤ 1000000 := by omega
      clear HZ
      go_wp2_with (go_at_call 37; refine (CG.out z _ hz2).mono ?_)
      rintro e w1 ⟨v, rfl, ho, hb⟩
      have HO1 : Hid (OwU w1 w.heap.size v []) := ho.mono HBr.out.size
      have HB1 := Lib.hid (bthen HBr.out hb)
      clear ho hb
      go_wp2
      go_loopw [6, 27] (fun u i wr2 => ∃ k : Nat, k ≤ l.length ∧ i = .int .i64 k ∧ Hid (OwU wr2 w.heap.size u (l.take k).flatten) ∧ Hid (Below w.heap.size w wr2)) (fun u i _ => l.length - (intOf i).toNat)
      case atStart => exact ⟨0, Nat.zero_le _, rfl, HO1.out, HB1.out⟩
      case round =>
        obtain ⟨k, hk, rfl, HO, HBq⟩ := hrel
        by_cases hlt : k < l.length
        · have hs : l[k]? = some l[k] := List.getElem?_eq_getElem hlt
          generalize l[k] = s at hs
          obtain ⟨v, bv, ov, hvi, hA, hbv, c0, hR⟩ := HA.out.at_ hs
          subst hA
          have hR2 := Lib.hid (hR.below HBq.out)
          obtain ⟨v1, v2, v3⟩ := v
          simp only at c0 hR2
          have HT : Hid ((l.take (k + 1)).flatten = (l.take k).flatten ++ s) := by show _ = _; simp [List.take_add_one, hs]
          have HY : Hid (((l.take k).flatten.length + s.length) * 8 ≤ 140737488355328) := by
            show _ ≤ _
            have h2 := HM.out
            have h3 := manyN_take l (k + 1)
            rw [manyN_succ hs] at h3
            have h4 : (l.take k).flatten.length = manyN (l.take k) := by simp [manyN, List.length_flatten]
            omega
          have hc := cell_later HBq.out c0
          have hsl := hR.len
          clear hR hvi hs c0
          go_wp2_with (at_builtin; refine wpl_appU rfl (.tmp 31) (.tmp 32) rfl w.heap.size _ (l.take k).flatten s rfl HO.out v1 v3 rfl hR2.out HY.out HBq.out.size ?_)
          intro v' w' ho hg
          have HB2 := Lib.hid (bgrown HBq.out hg (fun k' hk' => (World.ownsRow.lt HO.out k' hk').1))
          have HO2 : Hid (OwU w' w.heap.size v' (l.take (k + 1)).flatten) := by show OwU _ _ _ _; rw [HT.out]; exact ho
          clear ho hg
          go_wp2
          go_roundw
          case rel => exact ⟨k + 1, by omega, by go_num, HO2.out, HB2.out⟩
          case measure => simp [intOf]; omega
        · obtain rfl : k = l.length := by omega
          have h0 := HO.out
          rw [List.take_length] at h0
          have HO2 := Lib.hid h0
          clear h0
          go_wp2
          go_ret
          exact ⟨_, rfl, HO2.out, HBq.out⟩
end Go.Proofs.Ytinjeoohklabpaa
