/- The walks of Make of bits, the program's and the reference's. -/
import Derived.Test.YtchbbldanmmpjaaDoorS8
import Derived.OwnWalk
namespace Go.Proofs.YtchbbldanmmpjaaDoor
open Go.RowKit
set_option linter.unusedVariables false
set_option linter.unusedSimpArgs false

/-- Bits and an error. -/
def RetBE (b : BitB) (x : Int) (w : World) (e : Ending) (w' : World) : Prop := ∃ v : BitV, e = .returned (.tuple #[v.v, .int .i64 x]) ∧ v.n = b.n ∧ v.m = b.w.length ∧ v.m ≤ v.c ∧ OwU w' w.heap.size (.slice v.A v.m v.c) b.w ∧ Below w.heap.size w w'
theorem bcell {W w1 : World} (hb : Below W.heap.size W w1) : (∀ b o, b < W.heap.size → w1.cell? ⟨b, o, none⟩ = W.cell? ⟨b, o, none⟩) ∧ (∀ b o, b < W.heap.size → w1.frozen? ⟨b, o, none⟩ = W.frozen? ⟨b, o, none⟩) :=
  ⟨fun b o h => hb.cell (p := ⟨b, o, none⟩) h, fun b o h => hb.frozen (p := ⟨b, o, none⟩) h⟩
theorem OwU.set_lo {w : World} {base : Nat} {v : Value} {l : List Int} (h : OwU w base v l) {p : Addr} (hp : p.block < base) (u : Value) : OwU (w.setCell p u) base v l := ownsRow_setCell_below h hp u
def makeOk (n : Int) : Prop := 0 ≤ n ∧ n ≤ 4096
instance (n : Int) : Decidable (makeOk n) := by unfold makeOk; infer_instance
def makeB (n : Int) : BitB := if makeOk n then ⟨n, List.replicate ((n + 63) / 64).toNat 0⟩ else ⟨0, []⟩
def makeE (n : Int) : Int := if makeOk n then 0 else 1
theorem made_us (n : Nat) : (madeCells (Value.cells (.int .u64 0)) (n * 1)).toList = us (List.replicate n 0) := by
  apply List.ext_getElem
  · simp [madeCells, us]
  · intro i h1 h2
    simp [madeCells, us, Value.cells, Nat.mod_one]

set_option maxRecDepth 100000 in
set_option maxHeartbeats 8000000 in
theorem make35 (n : Int) (w : World) : Calls Tryd.prog 35 #[.int .i64 n] w (RetBE (makeB n) (makeE n) w) := by
  by_cases h : makeOk n
  · have EB : Hid (makeB n = ⟨n, List.replicate ((n + 63) / 64).toNat 0⟩) := by show _ = _; simp [makeB, h]
    have EE : Hid (makeE n = 0) := by show _ = _; simp [makeE, h]
    obtain ⟨h0, h1⟩ := h
    obtain ⟨k, rfl⟩ := Int.eq_ofNat_of_zero_le h0
    have q2 : ¬ (k : Int) < 0 := by omega
    have q3 : ¬ 4096 < (k : Int) := by omega
    have q4 : ((k : Int) + 63) / 64 = (((k + 63) / 64 : Nat) : Int) := by omega
    have Q4 := Lib.hid q4
    have Q5 : Hid ((k : Int) + 64 - 1 = ((k + 63 : Nat) : Int)) := by show _ = _; omega
    have Q6 : Hid (8 * ((k + 63) / 64) ≤ 281474976710656) := by show _ ≤ _; omega
    have Q7 : Hid ((k + 63) / 64 ≤ maxLen) := by show _ ≤ _; unfold maxLen; omega
    clear q4
    obtain ⟨i0, hi, hz0, hz1, hz2⟩ := info_parts info33
    have HZ0 := Lib.hid hz0
    have HZ1 := Lib.hid hz1
    have HZ2 := Lib.hid hz2
    have HI := Lib.hid hi
    clear hz0 hz1 hz2 hi
    go_enter Tryd.func35, Tryd.ntmps35
    go_wp2_with (at_make; refine wpList_make_full _ rfl (.tmp 15) (.tmp 15) 22 rfl (w.heap.size + 1) 33 i0 (.int .u64 0) 1 Tryd.underlying22 HI.out HZ0.out HZ1.out .i64 .i64 _ _ ((k + 63) / 64) rfl rfl ?c1 ?c2 ?c3 ?c4 ?c5 ?_)
    try (case c1 => omega)
    try (case c2 => omega)
    case c3 => rw [HZ2.out]; exact Q6.out
    case c4 => exact Q7.out
    intro w' ho hg
    have hs : (w.alloc (.cells #[.int .i64 0, .slice none 0 0] 24)).heap.size = w.heap.size + 1 := by simp
    have hB : Below w.heap.size w (w.alloc (.cells #[.int .i64 0, .slice none 0 0] 24)) := balloc (Below.refl _ _) _
    have HB := Lib.hid (bgrown hB hg (by simp))
    obtain ⟨hc, hf⟩ := bcell (bgrown (Below.refl _ _) hg (by simp))
    rw [hs] at hc hf
    have HO : Hid (OwU w' (w.heap.size + 1) (.slice (some ⟨w.heap.size + 1, 0, none⟩) ((k + 63) / 64) ((k + 63) / 64)) (List.replicate ((k + 63) / 64) 0)) := by
      show OwU _ _ _ _
      unfold OwU
      rw [List.length_replicate, ← made_us, Nat.mul_one]
      exact ho
    clear ho hg hB hs
    go_wp2
    refine bodyPost_ret (v := .tuple #[.agg #[.int .i64 (k : Int), .slice (some ⟨w.heap.size + 1, 0, none⟩) ((k + 63) / 64) ((k + 63) / 64)], .int .i64 0]) (by simp [results, Tryd.results35, go_sem, hc]) rfl ?_
    rw [EB.out, EE.out]
    refine ⟨⟨(k : Int), some ⟨w.heap.size + 1, 0, none⟩, (k + 63) / 64, (k + 63) / 64⟩, rfl, rfl, ?_, Nat.le_refl _, ?_, ?_⟩
    · show _ = (List.replicate _ _).length
      rw [List.length_replicate, Q4.out, Int.toNat_natCast]
    · show OwU _ _ _ (List.replicate _ _)
      rw [Q4.out, Int.toNat_natCast]
      refine OwU.mono (base := w.heap.size + 1) ?_ (by omega)
      repeat (refine OwU.set_lo ?_ (by simp) _)
      exact HO.out
    · repeat (refine Below.setCell ?_ (by simp) _)
      exact HB.out
  · have EB : Hid (makeB n = ⟨0, []⟩) := by show _ = _; simp [makeB, h]
    have EE : Hid (makeE n = 1) := by show _ = _; simp [makeE, h]
    have hc : n < 0 ∨ (¬ n < 0 ∧ 4096 < n) := by unfold makeOk at h; omega
    clear h
    rcases hc with h | ⟨h0, h⟩
    all_goals
      go_enter Tryd.func35, Tryd.ntmps35
      go_wp2
      refine bodyPost_ret (v := .tuple #[.agg #[.int .i64 0, .slice none 0 0], .int .i64 1]) (by simp [results, Tryd.results35, go_sem]) rfl ?_
      rw [EB.out, EE.out]
      exact ⟨⟨0, none, 0, 0⟩, rfl, rfl, rfl, Nat.le_refl _, OwU.nil_ _ _, balloc (Below.refl _ _) _⟩
set_option maxRecDepth 100000 in
set_option maxHeartbeats 8000000 in
theorem make40 (n : Int) (w : World) : Calls Tryd.prog 40 #[.int .i64 n] w (RetBE (makeB n) (makeE n) w) := by
  by_cases h : makeOk n
  · have EB : Hid (makeB n = ⟨n, List.replicate ((n + 63) / 64).toNat 0⟩) := by show _ = _; simp [makeB, h]
    have EE : Hid (makeE n = 0) := by show _ = _; simp [makeE, h]
    obtain ⟨h0, h1⟩ := h
    obtain ⟨k, rfl⟩ := Int.eq_ofNat_of_zero_le h0
    have q2 : ¬ (k : Int) < 0 := by omega
    have q3 : ¬ 4096 < (k : Int) := by omega
    have q4 : ((k : Int) + 63) / 64 = (((k + 63) / 64 : Nat) : Int) := by omega
    have Q4 := Lib.hid q4
    have Q5 : Hid ((k : Int) + 64 - 1 = ((k + 63 : Nat) : Int)) := by show _ = _; omega
    have Q6 : Hid (8 * ((k + 63) / 64) ≤ 281474976710656) := by show _ ≤ _; omega
    have Q7 : Hid ((k + 63) / 64 ≤ maxLen) := by show _ ≤ _; unfold maxLen; omega
    clear q4
    obtain ⟨i0, hi, hz0, hz1, hz2⟩ := info_parts info33
    have HZ0 := Lib.hid hz0
    have HZ1 := Lib.hid hz1
    have HZ2 := Lib.hid hz2
    have HI := Lib.hid hi
    clear hz0 hz1 hz2 hi
    go_enter Tryd.func40, Tryd.ntmps40
    go_wp2_with (at_make; refine wpList_make_full _ rfl (.tmp 14) (.tmp 14) 22 rfl (w.heap.size + 1) 33 i0 (.int .u64 0) 1 Tryd.underlying22 HI.out HZ0.out HZ1.out .i64 .i64 _ _ ((k + 63) / 64) rfl rfl ?c1 ?c2 ?c3 ?c4 ?c5 ?_)
    try (case c1 => omega)
    try (case c2 => omega)
    case c3 => rw [HZ2.out]; exact Q6.out
    case c4 => exact Q7.out
    intro w' ho hg
    have hs : (w.alloc (.cells #[.int .i64 0, .slice none 0 0] 24)).heap.size = w.heap.size + 1 := by simp
    have hB : Below w.heap.size w (w.alloc (.cells #[.int .i64 0, .slice none 0 0] 24)) := balloc (Below.refl _ _) _
    have HB := Lib.hid (bgrown hB hg (by simp))
    obtain ⟨hc, hf⟩ := bcell (bgrown (Below.refl _ _) hg (by simp))
    rw [hs] at hc hf
    have HO : Hid (OwU w' (w.heap.size + 1) (.slice (some ⟨w.heap.size + 1, 0, none⟩) ((k + 63) / 64) ((k + 63) / 64)) (List.replicate ((k + 63) / 64) 0)) := by
      show OwU _ _ _ _
      unfold OwU
      rw [List.length_replicate, ← made_us, Nat.mul_one]
      exact ho
    clear ho hg hB hs
    go_wp2
    refine bodyPost_ret (v := .tuple #[.agg #[.int .i64 (k : Int), .slice (some ⟨w.heap.size + 1, 0, none⟩) ((k + 63) / 64) ((k + 63) / 64)], .int .i64 0]) (by simp [results, Tryd.results40, go_sem, hc]) rfl ?_
    rw [EB.out, EE.out]
    refine ⟨⟨(k : Int), some ⟨w.heap.size + 1, 0, none⟩, (k + 63) / 64, (k + 63) / 64⟩, rfl, rfl, ?_, Nat.le_refl _, ?_, ?_⟩
    · show _ = (List.replicate _ _).length
      rw [List.length_replicate, Q4.out, Int.toNat_natCast]
    · show OwU _ _ _ (List.replicate _ _)
      rw [Q4.out, Int.toNat_natCast]
      refine OwU.mono (base := w.heap.size + 1) ?_ (by omega)
      repeat (refine OwU.set_lo ?_ (by simp) _)
      exact HO.out
    · repeat (refine Below.setCell ?_ (by simp) _)
      exact HB.out
  · have EB : Hid (makeB n = ⟨0, []⟩) := by show _ = _; simp [makeB, h]
    have EE : Hid (makeE n = 1) := by show _ = _; simp [makeE, h]
    have hc : n < 0 ∨ (¬ n < 0 ∧ 4096 < n) := by unfold makeOk at h; omega
    clear h
    rcases hc with h | ⟨h0, h⟩
    all_goals
      go_enter Tryd.func40, Tryd.ntmps40
      go_wp2
      refine bodyPost_ret (v := .tuple #[.agg #[.int .i64 0, .slice none 0 0], .int .i64 1]) (by simp [results, Tryd.results40, go_sem]) rfl ?_
      rw [EB.out, EE.out]
      exact ⟨⟨0, none, 0, 0⟩, rfl, rfl, rfl, Nat.le_refl _, OwU.nil_ _ _, balloc (Below.refl _ _) _⟩
end Go.Proofs.YtchbbldanmmpjaaDoor
