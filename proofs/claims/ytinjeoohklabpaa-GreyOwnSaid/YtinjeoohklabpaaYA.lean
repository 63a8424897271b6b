/- The walks of the two Many and of the two Make. -/
import Derived.Test.YtinjeoohklabpaaY9
namespace Go.Proofs.Ytinjeoohklabpaa
open Go.RowKit
set_option linter.unusedVariables false
set_option linter.unusedSimpArgs false

def manyV (l : List (List Int)) : Int := if okQ l then (manyN l : Int) else 0
theorem manyV_ok {l : List (List Int)} (h : okQ l) : manyV l = (manyN l : Int) := if_pos h
theorem chkE_ok {l : List (List Int)} (h : okQ l) : chkE l = 0 := if_pos h
theorem chkE_no {l : List (List Int)} (h : ¬ okQ l) : chkE l = 2 := if_neg h
theorem manyV_no {l : List (List Int)} (h : ¬ okQ l) : manyV l = 0 := if_neg h
set_option maxRecDepth 100000 in
set_option maxHeartbeats 8000000 in
theorem manyG (A : Option Addr) (c : Nat) (vs : List QV) (l : List (List Int)) (w : World) (ha : RdQ w A vs l) (hw : WdQ l) :
    Calls Try.prog 16 #[.agg #[.slice A l.length c]] w (Ret (.tuple #[.int .i64 (manyV l), .int .i64 (chkE l)]) w) := by
  have hl := ha.len
  have HB0 := Lib.hid (balloc (Below.refl w.heap.size w) (.cells #[.slice A l.length c] 24))
  have F0 : Hid ((w.alloc (.cells #[.slice A l.length c] 24)).cell? ⟨w.heap.size, 0, none⟩ = some (.slice A l.length c)) := by show _ = _; go_simp
  have CC : Hid (∀ W, Below w.heap.size w W → Calls Try.prog 20 #[.agg #[.slice A l.length c]] W (Ret (.int .i64 (chkE l)) W)) := fun W hW => checkG A c vs l W (ha.below hW) hw
  have CM : Hid (∀ W b, Below w.heap.size w W → VarG W b A l.length c → Calls Try.prog 28 #[.pointer (some ⟨b, 0, none⟩)] W (ManyP l W)) := fun W b hW hv => manyC A b c vs l W (ha.below hW) hv
  clear ha hw
  by_cases hok : okQ l
  · have E1 := Lib.hid (manyV_ok hok)
    have E2 := Lib.hid (chkE_ok hok)
    have HM := Lib.hid hok.1.2.2
    rw [E2.out] at CC
    clear hok
    go_enter Try.func16, Try.ntmps16
    go_wp2_with (go_at_call 20; refine (CC.out _ HB0.out).mono ?_)
    rintro e w1 ⟨rfl, hb1⟩
    have f1 := cell_later hb1 F0.out
    have HB1 := Lib.hid (balloc (bthen HB0.out hb1) (.cells #[.slice A l.length c] 48))
    have HV1 : Hid (VarG (w1.alloc (.cells #[.slice A l.length c] 48)) w1.heap.size A l.length c) := by show _ = _; go_simp
    clear hb1 CC
    go_wp2_with (go_at_call 28; refine (CM.out _ _ HB1.out HV1.out).mono ?_)
    rintro e w2 ⟨n, hn1, hn2, hn3, rfl, hb2⟩
    have hn := hn1 HM.out
    subst hn
    have HB2 := Lib.hid (bthen HB1.out hb2)
    clear hn1 hn2 hb2
    go_wp2
    go_ret2
    exact ⟨by rw [E1.out, E2.out]; rfl, HB2.out⟩
  · have E1 := Lib.hid (manyV_no hok)
    have E2 := Lib.hid (chkE_no hok)
    rw [E2.out] at CC
    clear hok
    go_enter Try.func16, Try.ntmps16
    go_wp2_with (go_at_call 20; refine (CC.out _ HB0.out).mono ?_)
    rintro e w1 ⟨rfl, hb1⟩
    have HB1 := Lib.hid (bthen HB0.out hb1)
    clear hb1 CC
    go_wp2
    go_ret2
    exact ⟨by rw [E1.out, E2.out]; rfl, HB1.out⟩
set_option maxRecDepth 100000 in
set_option maxHeartbeats 8000000 in
theorem manyRr (A : Option Addr) (c : Nat) (vs : List QV) (l : List (List Int)) (w : World) (ha : RdQ w A vs l) :
    Calls Try.prog 17 #[.agg #[.slice A l.length c]] w (Ret (.tuple #[.int .i64 (manyV l), .int .i64 (chkE l)]) w) := by
  have hl := ha.len
  have HB0 := Lib.hid (balloc (Below.refl w.heap.size w) (.cells #[.slice A l.length c] 24))
  have F0 : Hid ((w.alloc (.cells #[.slice A l.length c] 24)).cell? ⟨w.heap.size, 0, none⟩ = some (.slice A l.length c)) := by show _ = _; go_simp
  have CC : Hid (∀ W, Below w.heap.size w W → Calls Try.prog 21 #[.agg #[.slice A l.length c]] W (Ret (.int .i64 (chkE l)) W)) := fun W hW => checkR A c vs l W (ha.below hW)
  have CM : Hid (manyN l ≤ 16384 → ∀ W, Below w.heap.size w W → Calls Try.prog 25 #[.agg #[.slice A l.length c]] W (Ret (.int .i64 (manyN l : Nat)) W)) := fun hm W hW => manyR A c vs l W (ha.below hW) (by omega)
  clear ha
  by_cases hok : okQ l
  · have E1 := Lib.hid (manyV_ok hok)
    have E2 := Lib.hid (chkE_ok hok)
    have CM2 := Lib.hid (CM.out hok.1.2.2)
    rw [E2.out] at CC
    clear hok CM
    go_enter Try.func17, Try.ntmps17
    go_wp2_with (go_at_call 21; refine (CC.out _ HB0.out).mono ?_)
    rintro e w1 ⟨rfl, hb1⟩
    have f1 := cell_later hb1 F0.out
    have HB1 := Lib.hid (bthen HB0.out hb1)
    clear hb1 CC
    go_wp2_with (go_at_call 25; refine (CM2.out _ HB1.out).mono ?_)
    rintro e w2 ⟨rfl, hb2⟩
    have HB2 := Lib.hid (bthen HB1.out hb2)
    clear hb2
    go_wp2
    go_ret2
    exact ⟨by rw [E1.out, E2.out]; rfl, HB2.out⟩
  · have E1 := Lib.hid (manyV_no hok)
    have E2 := Lib.hid (chkE_no hok)
    rw [E2.out] at CC
    clear hok
    go_enter Try.func17, Try.ntmps17
    go_wp2_with (go_at_call 21; refine (CC.out _ HB0.out).mono ?_)
    rintro e w1 ⟨rfl, hb1⟩
    have HB1 := Lib.hid (bthen HB0.out hb1)
    clear hb1 CC
    go_wp2
    go_ret2
    exact ⟨by rw [E1.out, E2.out]; rfl, HB1.out⟩

/-! ### Make -/
def makeQ (n : Int) : List (List Int) := if 1 ≤ n ∧ n ≤ 4 then List.replicate n.toNat [] else []
def makeE (n : Int) : Int := if 1 ≤ n ∧ n ≤ 4 then 0 else 1
def RetGE (l : List (List Int)) (x : Int) (w : World) (e : Ending) (w' : World) : Prop := ∃ v, e = .returned (.tuple #[.agg #[v], .int .i64 x]) ∧ OwQ w' w.heap.size v l ∧ Below w.heap.size w w'
theorem made_sl (n : Nat) : (madeCells (Value.cells (.slice none 0 0)) (n * 1)).toList = sl (List.replicate n ⟨none, 0, 0⟩) := by
  apply List.ext_getElem
  · simp [madeCells, sl]
  · intro i h1 h2
    simp [madeCells, sl, QV.v, Value.cells, Nat.mod_one]
theorem made_Q {w : World} {base n : Nat} {v : Value} (h : OwV w base v (List.replicate n ⟨none, 0, 0⟩)) : OwQs w base v (List.replicate n ⟨none, 0, 0⟩) (List.replicate n []) := by
  refine ⟨h, by simp, fun i x s hx hs => ?_, fun i j x y hij hx hy k hk => ?_⟩
  · obtain ⟨_, rfl⟩ := List.getElem?_eq_some_iff.1 hx
    obtain ⟨_, rfl⟩ := List.getElem?_eq_some_iff.1 hs
    rw [List.getElem_replicate, List.getElem_replicate]
    exact ⟨rfl, OwU.nil_ _ _⟩
  · obtain ⟨_, rfl⟩ := List.getElem?_eq_some_iff.1 hx
    rw [List.getElem_replicate] at hk
    cases hk
set_option maxRecDepth 100000 in
set_option maxHeartbeats 8000000 in
theorem makeG (n : Int) (w : World) : Calls Try.prog 18 #[.int .i64 n] w (RetGE (makeQ n) (makeE n) w) := by
  have HB0 : Hid (Below w.heap.size w (w.alloc (.cells #[.slice none 0 0] 24))) := balloc (Below.refl _ _) _
  by_cases h : 1 ≤ n ∧ n ≤ 4
  · have EB : Hid (makeQ n = List.replicate n.toNat []) := if_pos h
    have EE : Hid (makeE n = 0) := if_pos h
    obtain ⟨h0, h1⟩ := h
    obtain ⟨k, rfl⟩ := Int.eq_ofNat_of_zero_le (show 0 ≤ n by omega)
    have q2 : ¬ (k : Int) < 1 := by omega
    have q3 : ¬ 4 < (k : Int) := by omega
    have Q6 : Hid (24 * k ≤ 281474976710656) := by show _ ≤ _; omega
    have Q7 : Hid (k ≤ maxLen) := by show _ ≤ _; unfold maxLen; omega
    obtain ⟨i0, hi, hz0, hz1, hz2⟩ := info_parts infoV
    have HZ0 := Lib.hid hz0
    have HZ1 := Lib.hid hz1
    have HZ2 := Lib.hid hz2
    have HI := Lib.hid hi
    clear hz0 hz1 hz2 hi
    go_enter Try.func18, Try.ntmps18
    go_wp2_with (at_make; refine wpList_make_full _ rfl (.tmp 11) (.tmp 11) 22 rfl (w.heap.size + 1) 25 i0 (.slice none 0 0) 1 Try.underlying22 HI.out HZ0.out HZ1.out .i64 .i64 _ _ k rfl rfl ?c1 ?c2 ?c3 ?c4 ?c5 ?_)
    try (case c1 => omega)
    try (case c2 => omega)
    case c3 => rw [HZ2.out]; exact Q6.out
    case c4 => exact Q7.out
    intro w' ho hg
    have hs : (w.alloc (.cells #[.slice none 0 0] 24)).heap.size = w.heap.size + 1 := by simp
    have HB := Lib.hid (bgrown HB0.out hg (by simp))
    have hbb := bgrown (Below.refl _ _) hg (by simp)
    have f0 : w'.cell? ⟨w.heap.size, 0, none⟩ = some (.slice none 0 0) := cell_later hbb (by go_simp)
    have z0 : w'.frozen? ⟨w.heap.size, 0, none⟩ = false := (hbb.frozen (p := ⟨w.heap.size, 0, none⟩) (by simp)).trans (by go_simp)
    have HO : Hid (OwV w' (w.heap.size + 1) (.slice (some ⟨w.heap.size + 1, 0, none⟩) k k) (List.replicate k ⟨none, 0, 0⟩)) := by
      show OwV _ _ _ _
      unfold OwV
      rw [List.length_replicate, ← made_sl, Nat.mul_one]
      exact ho
    clear ho hg hs hbb
    go_wp2
    have e0 : (w'.setCell ⟨w.heap.size, 0, none⟩ (.slice (some ⟨w.heap.size + 1, 0, none⟩) k k)).cell? ⟨w.heap.size, 0, none⟩ = some (.slice (some ⟨w.heap.size + 1, 0, none⟩) k k) := World.cell?_setCell_same _ _ _ f0
    refine bodyPost_ret (v := .tuple #[.agg #[.slice (some ⟨w.heap.size + 1, 0, none⟩) k k], .int .i64 0]) (by simp [results, Try.results18, go_sem, e0]) rfl ?_
    rw [EB.out, EE.out, Int.toNat_natCast]
    exact ⟨_, rfl, ⟨_, ((made_Q HO.out).set_lo (by simp) _).mono (by omega)⟩, HB.out.setCell (by simp) _⟩
  · have EB : Hid (makeQ n = []) := if_neg h
    have EE : Hid (makeE n = 1) := if_neg h
    have hh : n < 1 ∨ (¬ n < 1 ∧ 4 < n) := by omega
    clear h
    have f0 : ((w.alloc (.cells #[.slice none 0 0] 24)).setCell ⟨w.heap.size, 0, none⟩ (.slice none 0 0)).cell? ⟨w.heap.size, 0, none⟩ = some (.slice none 0 0) := World.cell?_setCell_same _ _ (.slice none 0 0) (show _ = some (Value.slice none 0 0) from by go_simp)
    rcases hh with q2 | ⟨q2, q3⟩
    all_goals
      go_enter Try.func18, Try.ntmps18
      go_wp2
      refine bodyPost_ret (v := .tuple #[.agg #[.slice none 0 0], .int .i64 1]) (by simp [results, Try.results18, go_sem, f0]) rfl ?_
      rw [EB.out, EE.out]
      exact ⟨_, rfl, ⟨[], OwQs.nil_ _ _⟩, HB0.out⟩
set_option maxRecDepth 100000 in
set_option maxHeartbeats 8000000 in
theorem makeR (n : Int) (w : World) : Calls Try.prog 19 #[.int .i64 n] w (RetGE (makeQ n) (makeE n) w) := by
  have HB0 : Hid (Below w.heap.size w (w.alloc (.cells #[.slice none 0 0] 24))) := balloc (Below.refl _ _) _
  by_cases h : 1 ≤ n ∧ n ≤ 4
  · have EB : Hid (makeQ n = List.replicate n.toNat []) := if_pos h
    have EE : Hid (makeE n = 0) := if_pos h
    obtain ⟨h0, h1⟩ := h
    obtain ⟨k, rfl⟩ := Int.eq_ofNat_of_zero_le (show 0 ≤ n by omega)
    have q2 : ¬ (k : Int) < 1 := by omega
    have q3 : ¬ 4 < (k : Int) := by omega
    have Q6 : Hid (24 * k ≤ 281474976710656) := by show _ ≤ _; omega
    have Q7 : Hid (k ≤ maxLen) := by show _ ≤ _; unfold maxLen; omega
    obtain ⟨i0, hi, hz0, hz1, hz2⟩ := info_parts infoV
    have HZ0 := Lib.hid hz0
    have HZ1 := Lib.hid hz1
    have HZ2 := Lib.hid hz2
    have HI := Lib.hid hi
    clear hz0 hz1 hz2 hi
    go_enter Try.func19, Try.ntmps19
    go_wp2_with (at_make; refine wpList_make_full _ rfl (.tmp 11) (.tmp 11) 22 rfl (w.heap.size + 1) 25 i0 (.slice none 0 0) 1 Try.underlying22 HI.out HZ0.out HZ1.out .i64 .i64 _ _ k rfl rfl ?c1 ?c2 ?c3 ?c4 ?c5 ?_)
    try (case c1 => omega)
    try (case c2 => omega)
    case c3 => rw [HZ2.out]; exact Q6.out
    case c4 => exact Q7.out
    intro w' ho hg
    have hs : (w.alloc (.cells #[.slice none 0 0] 24)).heap.size = w.heap.size + 1 := by simp
    have HB := Lib.hid (bgrown HB0.out hg (by simp))
    have hbb := bgrown (Below.refl _ _) hg (by simp)
    have f0 : w'.cell? ⟨w.heap.size, 0, none⟩ = some (.slice none 0 0) := cell_later hbb (by go_simp)
    have z0 : w'.frozen? ⟨w.heap.size, 0, none⟩ = false := (hbb.frozen (p := ⟨w.heap.size, 0, none⟩) (by simp)).trans (by go_simp)
    have HO : Hid (OwV w' (w.heap.size + 1) (.slice (some ⟨w.heap.size + 1, 0, none⟩) k k) (List.replicate k ⟨none, 0, 0⟩)) := by
      show OwV _ _ _ _
      unfold OwV
      rw [List.length_replicate, ← made_sl, Nat.mul_one]
      exact ho
    clear ho hg hs hbb
    go_wp2
    have e0 : (w'.setCell ⟨w.heap.size, 0, none⟩ (.slice (some ⟨w.heap.size + 1, 0, none⟩) k k)).cell? ⟨w.heap.size, 0, none⟩ = some (.slice (some ⟨w.heap.size + 1, 0, none⟩) k k) := World.cell?_setCell_same _ _ _ f0
    refine bodyPost_ret (v := .tuple #[.agg #[.slice (some ⟨w.heap.size + 1, 0, none⟩) k k], .int .i64 0]) (by simp [results, Try.results19, go_sem, e0]) rfl ?_
    rw [EB.out, EE.out, Int.toNat_natCast]
    exact ⟨_, rfl, ⟨_, ((made_Q HO.out).set_lo (by simp) _).mono (by omega)⟩, HB.out.setCell (by simp) _⟩
  · have EB : Hid (makeQ n = []) := if_neg h
    have EE : Hid (makeE n = 1) := if_neg h
    have hh : n < 1 ∨ (¬ n < 1 ∧ 4 < n) := by omega
    clear h
    have f0 : ((w.alloc (.cells #[.slice none 0 0] 24)).setCell ⟨w.heap.size, 0, none⟩ (.slice none 0 0)).cell? ⟨w.heap.size, 0, none⟩ = some (.slice none 0 0) := World.cell?_setCell_same _ _ (.slice none 0 0) (show _ = some (Value.slice none 0 0) from by go_simp)
    rcases hh with q2 | ⟨q2, q3⟩
    all_goals
      go_enter Try.func19, Try.ntmps19
      go_wp2
      refine bodyPost_ret (v := .tuple #[.agg #[.slice none 0 0], .int .i64 1]) (by simp [results, Try.results19, go_sem, f0]) rfl ?_
      rw [EB.out, EE.out]
      exact ⟨_, rfl, ⟨[], OwQs.nil_ _ _⟩, HB0.out⟩
end Go.Proofs.Ytinjeoohklabpaa
