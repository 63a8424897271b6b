/- The walk of the reference's right. -/
import Derived.Test.YtchbbldanmmpjaaDoorSC
namespace Go.Proofs.YtchbbldanmmpjaaDoor
open Go.RowKit
set_option linter.unusedVariables false
set_option linter.unusedSimpArgs false

def subTo (a b : BitB) (k : Nat) : Bool := (List.range k).all (fun i => !bitP b i || bitP a i)
def fitP (s : SpanB) : Bool := shapedP s.pages s.size && (decide (0 ≤ s.first) && decide (s.first ≤ 1024 - s.pages))
def numsP (s : SpanB) : Bool := okB s.al && (okB s.ma && ((s.al.n == manyP s.size) && (s.ma.n == manyP s.size)))
def rightR (s : SpanB) : Bool := fitP s && (numsP s && subTo s.al s.ma s.ma.n.toNat)
theorem subTo_succ {a b : BitB} {k : Nat} : subTo a b (k + 1) = (subTo a b k && (!bitP b k || bitP a k)) := by
  simp [subTo, List.range_succ]
theorem subTo_no {a b : BitB} {k n : Nat} (hk : k < n) (h1 : bitP b k = true) (h2 : bitP a k = false) : subTo a b n = false := by
  rw [subTo, List.all_eq_false]
  exact ⟨k, List.mem_range.2 hk, by simp [h1, h2]⟩

set_option maxRecDepth 100000 in
set_option maxHeartbeats 8000000 in
theorem right41 (v : SpanV) (s : SpanB) (w : World) (h : RdN w v s) : Calls Tryd.prog 41 #[v.v] w (Ret (.bool (rightR s)) w) := by
  have CA : Hid (∀ W, Below w.heap.size w W → Calls Tryd.prog 67 #[v.al.v] W (Ret (.int .i64 (okE s.al)) W)) := fun W hW => check67 v.al s.al W (h.al.below hW)
  have CM : Hid (∀ W, Below w.heap.size w W → Calls Tryd.prog 67 #[v.ma.v] W (Ret (.int .i64 (okE s.ma)) W)) := fun W hW => check67 v.ma s.ma W (h.ma.below hW)
  have CI : Hid (∀ W, Below w.heap.size w W → ∀ i : Nat, i / 64 < s.al.w.length → i ≤ 1000000 → Calls Tryd.prog 51 #[v.al.v, .int .i64 i] W (Ret (.bool (bitP s.al i)) W)) := fun W hW i h1 h2 => is51 v.al s.al i W (h.al.below hW) h1 h2
  have CJ : Hid (∀ W, Below w.heap.size w W → ∀ i : Nat, i / 64 < s.ma.w.length → i ≤ 1000000 → Calls Tryd.prog 51 #[v.ma.v, .int .i64 i] W (Ret (.bool (bitP s.ma i)) W)) := fun W hW i h1 h2 => is51 v.ma s.ma i W (h.ma.below hW) h1 h2
  have HAN := Lib.hid h.al.n
  have HMN := Lib.hid h.ma.n
  obtain ⟨f, p, z, ⟨n, A, m, ca⟩, ⟨n', B, m', cb⟩, sw⟩ := v
  obtain ⟨rfl, rfl, rfl, rfl, _, _, hf1, hp1, hz1⟩ := h
  simp only at HAN HMN
  unfold SpanV.v
  unfold BitV.v at CA CM CI CJ
  simp only at CA CM CI CJ ⊢
  have HB0 : Hid (Below w.heap.size w (w.alloc (.cells #[.int .i64 s.first, .int .i64 s.pages, .int .i64 s.size, .int .i64 n, .slice A m ca, .int .i64 n', .slice B m' cb, .bool s.sw] 26))) := balloc (Below.refl _ _) _
  have F2 : Hid ((w.alloc (.cells #[.int .i64 s.first, .int .i64 s.pages, .int .i64 s.size, .int .i64 n, .slice A m ca, .int .i64 n', .slice B m' cb, .bool s.sw] 26)).cell? ⟨w.heap.size, 2, none⟩ = some (.int .i64 s.size)) := by show _ = _; go_simp
  have F3 : Hid ((w.alloc (.cells #[.int .i64 s.first, .int .i64 s.pages, .int .i64 s.size, .int .i64 n, .slice A m ca, .int .i64 n', .slice B m' cb, .bool s.sw] 26)).cell? ⟨w.heap.size, 3, none⟩ = some (.int .i64 n)) := by show _ = _; go_simp
  have F4 : Hid ((w.alloc (.cells #[.int .i64 s.first, .int .i64 s.pages, .int .i64 s.size, .int .i64 n, .slice A m ca, .int .i64 n', .slice B m' cb, .bool s.sw] 26)).cell? ⟨w.heap.size, 4, none⟩ = some (.slice A m ca)) := by show _ = _; go_simp
  have F5 : Hid ((w.alloc (.cells #[.int .i64 s.first, .int .i64 s.pages, .int .i64 s.size, .int .i64 n, .slice A m ca, .int .i64 n', .slice B m' cb, .bool s.sw] 26)).cell? ⟨w.heap.size, 5, none⟩ = some (.int .i64 n')) := by show _ = _; go_simp
  have F6 : Hid ((w.alloc (.cells #[.int .i64 s.first, .int .i64 s.pages, .int .i64 s.size, .int .i64 n, .slice A m ca, .int .i64 n', .slice B m' cb, .bool s.sw] 26)).cell? ⟨w.heap.size, 6, none⟩ = some (.slice B m' cb)) := by show _ = _; go_simp
  by_cases hsh : shapedP s.pages s.size = true
  · have hcs : (s.size = 0 ∧ 2 ≤ s.pages ∧ s.pages ≤ 4) ∨ (s.size = 2 ∧ s.pages = 1) ∨ (s.size = 4 ∧ s.pages = 1) ∨ (s.size = 8 ∧ s.pages = 1) ∨ (s.size = 16 ∧ s.pages = 1) := by
      have hsz := shapedP_size hsh
      rcases hsz with h | h | h | h | h <;> simp [shapedP, h] at hsh <;> omega
    have HQ : Hid (1 ≤ manyP s.size ∧ manyP s.size ≤ 8) := manyP_of hsh
    have C39 : Hid (∀ W, Calls Tryd.prog 39 #[.int .i64 s.size] W (Ret (.int .i64 (manyP s.size)) W)) := fun W => many39 _ W
    by_cases hf : 0 ≤ s.first ∧ s.first ≤ 1024 - s.pages
    · have H1 : Hid (rightR s = ((okB s.al && (okB s.ma && ((s.al.n == manyP s.size) && (s.ma.n == manyP s.size)))) && subTo s.al s.ma s.ma.n.toNat)) := by
        show _ = _
        rw [rightR, fitP, hsh, decide_eq_true hf.1, decide_eq_true hf.2]
        rfl
      obtain ⟨q1, q2⟩ := hf
      have q1 : ¬ s.first < 0 := by omega
      have q2 : ¬ 1024 - s.pages < s.first := by omega
      clear hsh
      generalize manyP s.size = mq at *
      generalize s.size = z at *
      generalize s.pages = p at *
      rcases hcs with ⟨rfl, hp2, hp⟩ | ⟨rfl, rfl⟩ | ⟨rfl, rfl⟩ | ⟨rfl, rfl⟩ | ⟨rfl, rfl⟩
      · go_enter Tryd.func41, Tryd.ntmps41
        go_wp2
        generalize w.alloc (.cells #[.int .i64 s.first, .int .i64 p, .int .i64 0, .int .i64 n, .slice A m ca, .int .i64 n', .slice B m' cb, .bool s.sw] 26) = W0 at *
        by_cases hA : okB s.al = true
        · rw [okE_0 hA] at CA
          by_cases hM : okB s.ma = true
          · rw [okE_0 hM] at CM
            by_cases hn : n = mq
            · by_cases hn' : n' = mq
              · subst hn
                obtain rfl := hn'
                have E : Hid (rightR s = subTo s.al s.ma n'.toNat) := by
                  show _ = _
                  rw [H1.out, hA, hM, ← HAN.out, ← HMN.out]
                  simp
                have HL1 : Hid (s.al.w.length = 1) := by show _ = _; have := okB_parts hA; have := HAN.out; have := HQ.out; omega
                have HL2 : Hid (s.ma.w.length = 1) := by show _ = _; have := okB_parts hM; have := HMN.out; have := HQ.out; omega
                clear hA hM H1
                refine region_up (by kernel_rfl) (by kernel_rfl) ?_
                iterate 2
                  go_big_quiet_want
                  apply Exists.intro
                  refine ⟨fun W hW => ?_, ?_⟩
                  · have g0 := cell_later hW F2.out
                    have g1 := cell_later hW F3.out
                    have g2 := cell_later hW F4.out
                    have g3 := cell_later hW F5.out
                    have g4 := cell_later hW F6.out
                    go_simp
                    all_goals exact rfl
                  simp only [Act.put, List.setIfInBounds_toArray, List.set_cons_succ, List.set_cons_zero]
                  go_big_quiet_on
                go_big_quiet_want
                apply Exists.intro
                refine ⟨fun W hW => ?_, ?_⟩
                · have g0 := cell_later hW F2.out
                  have g1 := cell_later hW F3.out
                  have g2 := cell_later hW F4.out
                  have g3 := cell_later hW F5.out
                  have g4 := cell_later hW F6.out
                  go_simp
                  exact call_up hW (CA.out W (bthen HB0.out hW))
                simp only [Act.put, List.setIfInBounds_toArray, List.set_cons_succ, List.set_cons_zero]
                go_big_quiet_on
                iterate 4
                  go_big_quiet_want
                  apply Exists.intro
                  refine ⟨fun W hW => ?_, ?_⟩
                  · have g0 := cell_later hW F2.out
                    have g1 := cell_later hW F3.out
                    have g2 := cell_later hW F4.out
                    have g3 := cell_later hW F5.out
                    have g4 := cell_later hW F6.out
                    go_simp
                    all_goals exact rfl
                  simp only [Act.put, List.setIfInBounds_toArray, List.set_cons_succ, List.set_cons_zero]
                  go_big_quiet_on
                go_big_quiet_want
                apply Exists.intro
                refine ⟨fun W hW => ?_, ?_⟩
                · have g0 := cell_later hW F2.out
                  have g1 := cell_later hW F3.out
                  have g2 := cell_later hW F4.out
                  have g3 := cell_later hW F5.out
                  have g4 := cell_later hW F6.out
                  go_simp
                  exact call_up hW (CM.out W (bthen HB0.out hW))
                simp only [Act.put, List.setIfInBounds_toArray, List.set_cons_succ, List.set_cons_zero]
                go_big_quiet_on
                iterate 8
                  go_big_quiet_want
                  apply Exists.intro
                  refine ⟨fun W hW => ?_, ?_⟩
                  · have g0 := cell_later hW F2.out
                    have g1 := cell_later hW F3.out
                    have g2 := cell_later hW F4.out
                    have g3 := cell_later hW F5.out
                    have g4 := cell_later hW F6.out
                    go_simp
                    all_goals exact rfl
                  simp only [Act.put, List.setIfInBounds_toArray, List.set_cons_succ, List.set_cons_zero]
                  go_big_quiet_on
                go_big_quiet_want
                apply Exists.intro
                refine ⟨fun W hW => ?_, ?_⟩
                · have g0 := cell_later hW F2.out
                  have g1 := cell_later hW F3.out
                  have g2 := cell_later hW F4.out
                  have g3 := cell_later hW F5.out
                  have g4 := cell_later hW F6.out
                  go_simp
                  exact call_up hW (C39.out W)
                simp only [Act.put, List.setIfInBounds_toArray, List.set_cons_succ, List.set_cons_zero]
                go_big_quiet_on
                iterate 8
                  go_big_quiet_want
                  apply Exists.intro
                  refine ⟨fun W hW => ?_, ?_⟩
                  · have g0 := cell_later hW F2.out
                    have g1 := cell_later hW F3.out
                    have g2 := cell_later hW F4.out
                    have g3 := cell_later hW F5.out
                    have g4 := cell_later hW F6.out
                    go_simp
                    all_goals exact rfl
                  simp only [Act.put, List.setIfInBounds_toArray, List.set_cons_succ, List.set_cons_zero]
                  go_big_quiet_on
                go_big_quiet_want
                apply Exists.intro
                refine ⟨fun W hW => ?_, ?_⟩
                · have g0 := cell_later hW F2.out
                  have g1 := cell_later hW F3.out
                  have g2 := cell_later hW F4.out
                  have g3 := cell_later hW F5.out
                  have g4 := cell_later hW F6.out
                  go_simp
                  exact call_up hW (C39.out W)
                simp only [Act.put, List.setIfInBounds_toArray, List.set_cons_succ, List.set_cons_zero]
                go_big_quiet_on
                iterate 2
                  go_big_quiet_want
                  apply Exists.intro
                  refine ⟨fun W hW => ?_, ?_⟩
                  · have g0 := cell_later hW F2.out
                    have g1 := cell_later hW F3.out
                    have g2 := cell_later hW F4.out
                    have g3 := cell_later hW F5.out
                    have g4 := cell_later hW F6.out
                    go_simp
                    all_goals exact rfl
                  simp only [Act.put, List.setIfInBounds_toArray, List.set_cons_succ, List.set_cons_zero]
                  go_big_quiet_on
                refine wpQuiet_nil ?_
                intro W hW
                have f3 := cell_later hW F3.out
                have f4 := cell_later hW F4.out
                have f5 := cell_later hW F5.out
                have f6 := cell_later hW F6.out
                have HBW := Lib.hid (bthen HB0.out hW)
                have G3 := Lib.hid f3
                have G4 := Lib.hid f4
                have G5 := Lib.hid f5
                have G6 := Lib.hid f6
                clear hW f3 f4 f5 f6
                go_wp2
                obtain ⟨k0, hk0⟩ := Int.eq_ofNat_of_zero_le (show 0 ≤ n' by have := HQ.out; omega)
                subst hk0
                obtain ⟨wo, hwo⟩ : ∃ wo : World, wo = W := ⟨_, rfl⟩
                have hk8 : k0 ≤ 8 := by have := HQ.out; omega
                go_loopw [5] (fun i wr => ∃ k : Nat, k ≤ k0 ∧ i = .int .i64 k ∧ Hid (subTo s.al s.ma k = true) ∧ Hid (Below W.heap.size W wr)) (fun i _ => k0 - (intOf i).toNat)
                case atStart => exact ⟨0, Nat.zero_le _, rfl, rfl, Below.refl _ _⟩
                case round =>
                  obtain ⟨k, hk, rfl, HT, HBr⟩ := hrel
                  have f3 := cell_later HBr.out G3.out
                  have f4 := cell_later HBr.out G4.out
                  have f5 := cell_later HBr.out G5.out
                  have f6 := cell_later HBr.out G6.out
                  by_cases hlt : k < k0
                  · go_wp2_with fail
                    refine (CJ.out _ (bthen HBW.out HBr.out) k (by have := HL2.out; omega) (by omega)).mono ?_
                    rintro e w1 ⟨rfl, hb1⟩
                    have f3 := cell_later hb1 f3
                    have f4 := cell_later hb1 f4
                    have f5 := cell_later hb1 f5
                    have f6 := cell_later hb1 f6
                    have HB1 := Lib.hid (bthen HBr.out hb1)
                    clear hb1
                    by_cases hm : bitP s.ma k = true
                    · have HM1 := Lib.hid hm
                      rw [hm]
                      clear hm
                      go_wp2_with fail
                      refine (CI.out _ (bthen HBW.out HB1.out) k (by have := HL1.out; omega) (by omega)).mono ?_
                      rintro e w2 ⟨rfl, hb2⟩
                      have HB2 := Lib.hid (bthen HB1.out hb2)
                      clear hb2
                      by_cases ha : bitP s.al k = true
                      · have HA1 := Lib.hid ha
                        rw [ha]
                        clear ha
                        go_wp2
                        go_roundw
                        case rel => exact ⟨k + 1, by omega, by go_num, by (show _ = _; rw [subTo_succ, HT.out, HA1.out]; simp), HB2.out⟩
                        case measure => simp [intOf]; omega
                      · have HA1 : Hid (bitP s.al k = false) := by show _ = _; simpa using ha
                        rw [HA1.out]
                        clear ha
                        go_wp2
                        go_ret
                        rw [E.out, Int.toNat_natCast, subTo_no hlt HM1.out HA1.out]
                        exact ⟨rfl, bthen HBW.out HB2.out⟩
                    · have HM1 : Hid (bitP s.ma k = false) := by show _ = _; simpa using hm
                      rw [HM1.out]
                      clear hm
                      go_wp2
                      go_roundw
                      case rel => exact ⟨k + 1, by omega, by go_num, by (show _ = _; rw [subTo_succ, HT.out, HM1.out]; simp), HB1.out⟩
                      case measure => simp [intOf]; omega
                  · obtain rfl : k = k0 := by omega
                    go_wp2
                    go_ret
                    rw [E.out, Int.toNat_natCast, HT.out]
                    exact ⟨rfl, bthen HBW.out HBr.out⟩
              · have E : Hid (rightR s = false) := by
                  show _ = _
                  rw [H1.out, ← HMN.out, beq_eq_false_iff_ne.2 hn']
                  simp
                have e1 : (n == mq) = true := by simpa using hn
                have e2 : (n != mq) = false := by simpa using hn
                have e3 : (n' != mq) = true := by simpa using hn'
                clear hA hM hn hn' H1
                refine region_up (by kernel_rfl) (by kernel_rfl) ?_
                iterate 2
                  go_big_quiet_want
                  apply Exists.intro
                  refine ⟨fun W hW => ?_, ?_⟩
                  · have g0 := cell_later hW F2.out
                    have g1 := cell_later hW F3.out
                    have g2 := cell_later hW F4.out
                    have g3 := cell_later hW F5.out
                    have g4 := cell_later hW F6.out
                    go_simp
                    all_goals exact rfl
                  simp only [Act.put, List.setIfInBounds_toArray, List.set_cons_succ, List.set_cons_zero]
                  go_big_quiet_on
                go_big_quiet_want
                apply Exists.intro
                refine ⟨fun W hW => ?_, ?_⟩
                · have g0 := cell_later hW F2.out
                  have g1 := cell_later hW F3.out
                  have g2 := cell_later hW F4.out
                  have g3 := cell_later hW F5.out
                  have g4 := cell_later hW F6.out
                  go_simp
                  exact call_up hW (CA.out W (bthen HB0.out hW))
                simp only [Act.put, List.setIfInBounds_toArray, List.set_cons_succ, List.set_cons_zero]
                go_big_quiet_on
                iterate 4
                  go_big_quiet_want
                  apply Exists.intro
                  refine ⟨fun W hW => ?_, ?_⟩
                  · have g0 := cell_later hW F2.out
                    have g1 := cell_later hW F3.out
                    have g2 := cell_later hW F4.out
                    have g3 := cell_later hW F5.out
                    have g4 := cell_later hW F6.out
                    go_simp
                    all_goals exact rfl
                  simp only [Act.put, List.setIfInBounds_toArray, List.set_cons_succ, List.set_cons_zero]
                  go_big_quiet_on
                go_big_quiet_want
                apply Exists.intro
                refine ⟨fun W hW => ?_, ?_⟩
                · have g0 := cell_later hW F2.out
                  have g1 := cell_later hW F3.out
                  have g2 := cell_later hW F4.out
                  have g3 := cell_later hW F5.out
                  have g4 := cell_later hW F6.out
                  go_simp
                  exact call_up hW (CM.out W (bthen HB0.out hW))
                simp only [Act.put, List.setIfInBounds_toArray, List.set_cons_succ, List.set_cons_zero]
                go_big_quiet_on
                iterate 8
                  go_big_quiet_want
                  apply Exists.intro
                  refine ⟨fun W hW => ?_, ?_⟩
                  · have g0 := cell_later hW F2.out
                    have g1 := cell_later hW F3.out
                    have g2 := cell_later hW F4.out
                    have g3 := cell_later hW F5.out
                    have g4 := cell_later hW F6.out
                    go_simp
                    all_goals exact rfl
                  simp only [Act.put, List.setIfInBounds_toArray, List.set_cons_succ, List.set_cons_zero]
                  go_big_quiet_on
                go_big_quiet_want
                apply Exists.intro
                refine ⟨fun W hW => ?_, ?_⟩
                · have g0 := cell_later hW F2.out
                  have g1 := cell_later hW F3.out
                  have g2 := cell_later hW F4.out
                  have g3 := cell_later hW F5.out
                  have g4 := cell_later hW F6.out
                  go_simp
                  exact call_up hW (C39.out W)
                simp only [Act.put, List.setIfInBounds_toArray, List.set_cons_succ, List.set_cons_zero]
                go_big_quiet_on
                iterate 8
                  go_big_quiet_want
                  apply Exists.intro
                  refine ⟨fun W hW => ?_, ?_⟩
                  · have g0 := cell_later hW F2.out
                    have g1 := cell_later hW F3.out
                    have g2 := cell_later hW F4.out
                    have g3 := cell_later hW F5.out
                    have g4 := cell_later hW F6.out
                    go_simp
                    all_goals exact rfl
                  simp only [Act.put, List.setIfInBounds_toArray, List.set_cons_succ, List.set_cons_zero]
                  go_big_quiet_on
                go_big_quiet_want
                apply Exists.intro
                refine ⟨fun W hW => ?_, ?_⟩
                · have g0 := cell_later hW F2.out
                  have g1 := cell_later hW F3.out
                  have g2 := cell_later hW F4.out
                  have g3 := cell_later hW F5.out
                  have g4 := cell_later hW F6.out
                  go_simp
                  exact call_up hW (C39.out W)
                simp only [Act.put, List.setIfInBounds_toArray, List.set_cons_succ, List.set_cons_zero]
                go_big_quiet_on
                iterate 2
                  go_big_quiet_want
                  apply Exists.intro
                  refine ⟨fun W hW => ?_, ?_⟩
                  · have g0 := cell_later hW F2.out
                    have g1 := cell_later hW F3.out
                    have g2 := cell_later hW F4.out
                    have g3 := cell_later hW F5.out
                    have g4 := cell_later hW F6.out
                    go_simp
                    all_goals exact rfl
                  simp only [Act.put, List.setIfInBounds_toArray, List.set_cons_succ, List.set_cons_zero]
                  go_big_quiet_on
                refine wpQuiet_nil ?_
                intro W hW
                go_wp2
                go_ret
                rw [E.out]
                exact ⟨rfl, bthen HB0.out hW⟩
            · have E : Hid (rightR s = false) := by
                show _ = _
                rw [H1.out, ← HAN.out, beq_eq_false_iff_ne.2 hn]
                simp
              have e1 : (n != mq) = true := by simpa using hn
              clear hA hM hn H1
              refine region_up (by kernel_rfl) (by kernel_rfl) ?_
              iterate 2
                go_big_quiet_want
                apply Exists.intro
                refine ⟨fun W hW => ?_, ?_⟩
                · have g0 := cell_later hW F2.out
                  have g1 := cell_later hW F3.out
                  have g2 := cell_later hW F4.out
                  have g3 := cell_later hW F5.out
                  have g4 := cell_later hW F6.out
                  go_simp
                  all_goals exact rfl
                simp only [Act.put, List.setIfInBounds_toArray, List.set_cons_succ, List.set_cons_zero]
                go_big_quiet_on
              go_big_quiet_want
              apply Exists.intro
              refine ⟨fun W hW => ?_, ?_⟩
              · have g0 := cell_later hW F2.out
                have g1 := cell_later hW F3.out
                have g2 := cell_later hW F4.out
                have g3 := cell_later hW F5.out
                have g4 := cell_later hW F6.out
                go_simp
                exact call_up hW (CA.out W (bthen HB0.out hW))
              simp only [Act.put, List.setIfInBounds_toArray, List.set_cons_succ, List.set_cons_zero]
              go_big_quiet_on
              iterate 4
                go_big_quiet_want
                apply Exists.intro
                refine ⟨fun W hW => ?_, ?_⟩
                · have g0 := cell_later hW F2.out
                  have g1 := cell_later hW F3.out
                  have g2 := cell_later hW F4.out
                  have g3 := cell_later hW F5.out
                  have g4 := cell_later hW F6.out
                  go_simp
                  all_goals exact rfl
                simp only [Act.put, List.setIfInBounds_toArray, List.set_cons_succ, List.set_cons_zero]
                go_big_quiet_on
              go_big_quiet_want
              apply Exists.intro
              refine ⟨fun W hW => ?_, ?_⟩
              · have g0 := cell_later hW F2.out
                have g1 := cell_later hW F3.out
                have g2 := cell_later hW F4.out
                have g3 := cell_later hW F5.out
                have g4 := cell_later hW F6.out
                go_simp
                exact call_up hW (CM.out W (bthen HB0.out hW))
              simp only [Act.put, List.setIfInBounds_toArray, List.set_cons_succ, List.set_cons_zero]
              go_big_quiet_on
              iterate 8
                go_big_quiet_want
                apply Exists.intro
                refine ⟨fun W hW => ?_, ?_⟩
                · have g0 := cell_later hW F2.out
                  have g1 := cell_later hW F3.out
                  have g2 := cell_later hW F4.out
                  have g3 := cell_later hW F5.out
                  have g4 := cell_later hW F6.out
                  go_simp
                  all_goals exact rfl
                simp only [Act.put, List.setIfInBounds_toArray, List.set_cons_succ, List.set_cons_zero]
                go_big_quiet_on
              go_big_quiet_want
              apply Exists.intro
              refine ⟨fun W hW => ?_, ?_⟩
              · have g0 := cell_later hW F2.out
                have g1 := cell_later hW F3.out
                have g2 := cell_later hW F4.out
                have g3 := cell_later hW F5.out
                have g4 := cell_later hW F6.out
                go_simp
                exact call_up hW (C39.out W)
              simp only [Act.put, List.setIfInBounds_toArray, List.set_cons_succ, List.set_cons_zero]
              go_big_quiet_on
              iterate 3
                go_big_quiet_want
                apply Exists.intro
                refine ⟨fun W hW => ?_, ?_⟩
                · have g0 := cell_later hW F2.out
                  have g1 := cell_later hW F3.out
                  have g2 := cell_later hW F4.out
                  have g3 := cell_later hW F5.out
                  have g4 := cell_later hW F6.out
                  go_simp
                  all_goals exact rfl
                simp only [Act.put, List.setIfInBounds_toArray, List.set_cons_succ, List.set_cons_zero]
                go_big_quiet_on
              iterate 7 go_big_quiet_skip
              go_big_quiet_want
              apply Exists.intro
              refine ⟨fun W hW => ?_, ?_⟩
              · have g0 := cell_later hW F2.out
                have g1 := cell_later hW F3.out
                have g2 := cell_later hW F4.out
                have g3 := cell_later hW F5.out
                have g4 := cell_later hW F6.out
                go_simp
                all_goals exact rfl
              simp only [Act.put, List.setIfInBounds_toArray, List.set_cons_succ, List.set_cons_zero]
              go_big_quiet_on
              refine wpQuiet_nil ?_
              intro W hW
              go_wp2
              go_ret
              rw [E.out]
              exact ⟨rfl, bthen HB0.out hW⟩
          · have hM : okB s.ma = false := by simpa using hM
            rw [okE_2 hM] at CM
            have E : Hid (rightR s = false) := by show _ = _; rw [H1.out, hM]; simp
            clear hA hM H1
            refine region_up (by kernel_rfl) (by kernel_rfl) ?_
            iterate 2
              go_big_quiet_want
              apply Exists.intro
              refine ⟨fun W hW => ?_, ?_⟩
              · have g0 := cell_later hW F2.out
                have g1 := cell_later hW F3.out
                have g2 := cell_later hW F4.out
                have g3 := cell_later hW F5.out
                have g4 := cell_later hW F6.out
                go_simp
                all_goals exact rfl
              simp only [Act.put, List.setIfInBounds_toArray, List.set_cons_succ, List.set_cons_zero]
              go_big_quiet_on
            go_big_quiet_want
            apply Exists.intro
            refine ⟨fun W hW => ?_, ?_⟩
            · have g0 := cell_later hW F2.out
              have g1 := cell_later hW F3.out
              have g2 := cell_later hW F4.out
              have g3 := cell_later hW F5.out
              have g4 := cell_later hW F6.out
              go_simp
              exact call_up hW (CA.out W (bthen HB0.out hW))
            simp only [Act.put, List.setIfInBounds_toArray, List.set_cons_succ, List.set_cons_zero]
            go_big_quiet_on
            iterate 4
              go_big_quiet_want
              apply Exists.intro
              refine ⟨fun W hW => ?_, ?_⟩
              · have g0 := cell_later hW F2.out
                have g1 := cell_later hW F3.out
                have g2 := cell_later hW F4.out
                have g3 := cell_later hW F5.out
                have g4 := cell_later hW F6.out
                go_simp
                all_goals exact rfl
              simp only [Act.put, List.setIfInBounds_toArray, List.set_cons_succ, List.set_cons_zero]
              go_big_quiet_on
            go_big_quiet_want
            apply Exists.intro
            refine ⟨fun W hW => ?_, ?_⟩
            · have g0 := cell_later hW F2.out
              have g1 := cell_later hW F3.out
              have g2 := cell_later hW F4.out
              have g3 := cell_later hW F5.out
              have g4 := cell_later hW F6.out
              go_simp
              exact call_up hW (CM.out W (bthen HB0.out hW))
            simp only [Act.put, List.setIfInBounds_toArray, List.set_cons_succ, List.set_cons_zero]
            go_big_quiet_on
            iterate 3
              go_big_quiet_want
              apply Exists.intro
              refine ⟨fun W hW => ?_, ?_⟩
              · have g0 := cell_later hW F2.out
                have g1 := cell_later hW F3.out
                have g2 := cell_later hW F4.out
                have g3 := cell_later hW F5.out
                have g4 := cell_later hW F6.out
                go_simp
                all_goals exact rfl
              simp only [Act.put, List.setIfInBounds_toArray, List.set_cons_succ, List.set_cons_zero]
              go_big_quiet_on
            iterate 7 go_big_quiet_skip
            iterate 2
              go_big_quiet_want
              apply Exists.intro
              refine ⟨fun W hW => ?_, ?_⟩
              · have g0 := cell_later hW F2.out
                have g1 := cell_later hW F3.out
                have g2 := cell_later hW F4.out
                have g3 := cell_later hW F5.out
                have g4 := cell_later hW F6.out
                go_simp
                all_goals exact rfl
              simp only [Act.put, List.setIfInBounds_toArray, List.set_cons_succ, List.set_cons_zero]
              go_big_quiet_on
            iterate 7 go_big_quiet_skip
            go_big_quiet_want
            apply Exists.intro
            refine ⟨fun W hW => ?_, ?_⟩
            · have g0 := cell_later hW F2.out
              have g1 := cell_later hW F3.out
              have g2 := cell_later hW F4.out
              have g3 := cell_later hW F5.out
              have g4 := cell_later hW F6.out
              go_simp
              all_goals exact rfl
            simp only [Act.put, List.setIfInBounds_toArray, List.set_cons_succ, List.set_cons_zero]
            go_big_quiet_on
            refine wpQuiet_nil ?_
            intro W hW
            go_wp2
            go_ret
            rw [E.out]
            exact ⟨rfl, bthen HB0.out hW⟩
        · have hA : okB s.al = false := by simpa using hA
          rw [okE_2 hA] at CA
          have E : Hid (rightR s = false) := by show _ = _; rw [H1.out, hA]; simp
          clear hA H1
          refine region_up (by kernel_rfl) (by kernel_rfl) ?_
          iterate 2
            go_big_quiet_want
            apply Exists.intro
            refine ⟨fun W hW => ?_, ?_⟩
            · have g0 := cell_later hW F2.out
              have g1 := cell_later hW F3.out
              have g2 := cell_later hW F4.out
              have g3 := cell_later hW F5.out
              have g4 := cell_later hW F6.out
              go_simp
              all_goals exact rfl
            simp only [Act.put, List.setIfInBounds_toArray, List.set_cons_succ, List.set_cons_zero]
            go_big_quiet_on
          go_big_quiet_want
          apply Exists.intro
          refine ⟨fun W hW => ?_, ?_⟩
          · have g0 := cell_later hW F2.out
            have g1 := cell_later hW F3.out
            have g2 := cell_later hW F4.out
            have g3 := cell_later hW F5.out
            have g4 := cell_later hW F6.out
            go_simp
            exact call_up hW (CA.out W (bthen HB0.out hW))
          simp only [Act.put, List.setIfInBounds_toArray, List.set_cons_succ, List.set_cons_zero]
          go_big_quiet_on
          iterate 2
            go_big_quiet_want
            apply Exists.intro
            refine ⟨fun W hW => ?_, ?_⟩
            · have g0 := cell_later hW F2.out
              have g1 := cell_later hW F3.out
              have g2 := cell_later hW F4.out
              have g3 := cell_later hW F5.out
              have g4 := cell_later hW F6.out
              go_simp
              all_goals exact rfl
            simp only [Act.put, List.setIfInBounds_toArray, List.set_cons_succ, List.set_cons_zero]
            go_big_quiet_on
          iterate 4 go_big_quiet_skip
          iterate 2
            go_big_quiet_want
            apply Exists.intro
            refine ⟨fun W hW => ?_, ?_⟩
            · have g0 := cell_later hW F2.out
              have g1 := cell_later hW F3.out
              have g2 := cell_later hW F4.out
              have g3 := cell_later hW F5.out
              have g4 := cell_later hW F6.out
              go_simp
              all_goals exact rfl
            simp only [Act.put, List.setIfInBounds_toArray, List.set_cons_succ, List.set_cons_zero]
            go_big_quiet_on
          iterate 7 go_big_quiet_skip
          iterate 2
            go_big_quiet_want
            apply Exists.intro
            refine ⟨fun W hW => ?_, ?_⟩
            · have g0 := cell_later hW F2.out
              have g1 := cell_later hW F3.out
              have g2 := cell_later hW F4.out
              have g3 := cell_later hW F5.out
              have g4 := cell_later hW F6.out
              go_simp
              all_goals exact rfl
            simp only [Act.put, List.setIfInBounds_toArray, List.set_cons_succ, List.set_cons_zero]
            go_big_quiet_on
          iterate 7 go_big_quiet_skip
          go_big_quiet_want
          apply Exists.intro
          refine ⟨fun W hW => ?_, ?_⟩
          · have g0 := cell_later hW F2.out
            have g1 := cell_later hW F3.out
            have g2 := cell_later hW F4.out
            have g3 := cell_later hW F5.out
            have g4 := cell_later hW F6.out
            go_simp
            all_goals exact rfl
          simp only [Act.put, List.setIfInBounds_toArray, List.set_cons_succ, List.set_cons_zero]
          go_big_quiet_on
          refine wpQuiet_nil ?_
          intro W hW
          go_wp2
          go_ret
          rw [E.out]
          exact ⟨rfl, bthen HB0.out hW⟩
      · go_enter Tryd.func41, Tryd.ntmps41
        go_wp2
        generalize w.alloc (.cells #[.int .i64 s.first, .int .i64 1, .int .i64 2, .int .i64 n, .slice A m ca, .int .i64 n', .slice B m' cb, .bool s.sw] 26) = W0 at *
        by_cases hA : okB s.al = true
        · rw [okE_0 hA] at CA
          by_cases hM : okB s.ma = true
          · rw [okE_0 hM] at CM
            by_cases hn : n = mq
            · by_cases hn' : n' = mq
              · subst hn
                obtain rfl := hn'
                have E : Hid (rightR s = subTo s.al s.ma n'.toNat) := by
                  show _ = _
                  rw [H1.out, hA, hM, ← HAN.out, ← HMN.out]
                  simp
                have HL1 : Hid (s.al.w.length = 1) := by show _ = _; have := okB_parts hA; have := HAN.out; have := HQ.out; omega
                have HL2 : Hid (s.ma.w.length = 1) := by show _ = _; have := okB_parts hM; have := HMN.out; have := HQ.out; omega
                clear hA hM H1
                refine region_up (by kernel_rfl) (by kernel_rfl) ?_
                iterate 2
                  go_big_quiet_want
                  apply Exists.intro
                  refine ⟨fun W hW => ?_, ?_⟩
                  · have g0 := cell_later hW F2.out
                    have g1 := cell_later hW F3.out
                    have g2 := cell_later hW F4.out
                    have g3 := cell_later hW F5.out
                    have g4 := cell_later hW F6.out
                    go_simp
                    all_goals exact rfl
                  simp only [Act.put, List.setIfInBounds_toArray, List.set_cons_succ, List.set_cons_zero]
                  go_big_quiet_on
                go_big_quiet_want
                apply Exists.intro
                refine ⟨fun W hW => ?_, ?_⟩
                · have g0 := cell_later hW F2.out
                  have g1 := cell_later hW F3.out
                  have g2 := cell_later hW F4.out
                  have g3 := cell_later hW F5.out
                  have g4 := cell_later hW F6.out
                  go_simp
                  exact call_up hW (CA.out W (bthen HB0.out hW))
                simp only [Act.put, List.setIfInBounds_toArray, List.set_cons_succ, List.set_cons_zero]
                go_big_quiet_on
                iterate 4
                  go_big_quiet_want
                  apply Exists.intro
                  refine ⟨fun W hW => ?_, ?_⟩
                  · have g0 := cell_later hW F2.out
                    have g1 := cell_later hW F3.out
                    have g2 := cell_later hW F4.out
                    have g3 := cell_later hW F5.out
                    have g4 := cell_later hW F6.out
                    go_simp
                    all_goals exact rfl
                  simp only [Act.put, List.setIfInBounds_toArray, List.set_cons_succ, List.set_cons_zero]
                  go_big_quiet_on
                go_big_quiet_want
                apply Exists.intro
                refine ⟨fun W hW => ?_, ?_⟩
                · have g0 := cell_later hW F2.out
                  have g1 := cell_later hW F3.out
                  have g2 := cell_later hW F4.out
                  have g3 := cell_later hW F5.out
                  have g4 := cell_later hW F6.out
                  go_simp
                  exact call_up hW (CM.out W (bthen HB0.out hW))
                simp only [Act.put, List.setIfInBounds_toArray, List.set_cons_succ, List.set_cons_zero]
                go_big_quiet_on
                iterate 8
                  go_big_quiet_want
                  apply Exists.intro
                  refine ⟨fun W hW => ?_, ?_⟩
                  · have g0 := cell_later hW F2.out
                    have g1 := cell_later hW F3.out
                    have g2 := cell_later hW F4.out
                    have g3 := cell_later hW F5.out
                    have g4 := cell_later hW F6.out
                    go_simp
                    all_goals exact rfl
                  simp only [Act.put, List.setIfInBounds_toArray, List.set_cons_succ, List.set_cons_zero]
                  go_big_quiet_on
                go_big_quiet_want
                apply Exists.intro
                refine ⟨fun W hW => ?_, ?_⟩
                · have g0 := cell_later hW F2.out
                  have g1 := cell_later hW F3.out
                  have g2 := cell_later hW F4.out
                  have g3 := cell_later hW F5.out
                  have g4 := cell_later hW F6.out
                  go_simp
                  exact call_up hW (C39.out W)
                simp only [Act.put, List.setIfInBounds_toArray, List.set_cons_succ, List.set_cons_zero]
                go_big_quiet_on
                iterate 8
                  go_big_quiet_want
                  apply Exists.intro
                  refine ⟨fun W hW => ?_, ?_⟩
                  · have g0 := cell_later hW F2.out
                    have g1 := cell_later hW F3.out
                    have g2 := cell_later hW F4.out
                    have g3 := cell_later hW F5.out
                    have g4 := cell_later hW F6.out
                    go_simp
                    all_goals exact rfl
                  simp only [Act.put, List.setIfInBounds_toArray, List.set_cons_succ, List.set_cons_zero]
                  go_big_quiet_on
                go_big_quiet_want
                apply Exists.intro
                refine ⟨fun W hW => ?_, ?_⟩
                · have g0 := cell_later hW F2.out
                  have g1 := cell_later hW F3.out
                  have g2 := cell_later hW F4.out
                  have g3 := cell_later hW F5.out
                  have g4 := cell_later hW F6.out
                  go_simp
                  exact call_up hW (C39.out W)
                simp only [Act.put, List.setIfInBounds_toArray, List.set_cons_succ, List.set_cons_zero]
                go_big_quiet_on
                iterate 2
                  go_big_quiet_want
                  apply Exists.intro
                  refine ⟨fun W hW => ?_, ?_⟩
                  · have g0 := cell_later hW F2.out
                    have g1 := cell_later hW F3.out
                    have g2 := cell_later hW F4.out
                    have g3 := cell_later hW F5.out
                    have g4 := cell_later hW F6.out
                    go_simp
                    all_goals exact rfl
                  simp only [Act.put, List.setIfInBounds_toArray, List.set_cons_succ, List.set_cons_zero]
                  go_big_quiet_on
                refine wpQuiet_nil ?_
                intro W hW
                have f3 := cell_later hW F3.out
                have f4 := cell_later hW F4.out
                have f5 := cell_later hW F5.out
                have f6 := cell_later hW F6.out
                have HBW := Lib.hid (bthen HB0.out hW)
                have G3 := Lib.hid f3
                have G4 := Lib.hid f4
                have G5 := Lib.hid f5
                have G6 := Lib.hid f6
                clear hW f3 f4 f5 f6
                go_wp2
                obtain ⟨k0, hk0⟩ := Int.eq_ofNat_of_zero_le (show 0 ≤ n' by have := HQ.out; omega)
                subst hk0
                obtain ⟨wo, hwo⟩ : ∃ wo : World, wo = W := ⟨_, rfl⟩
                have hk8 : k0 ≤ 8 := by have := HQ.out; omega
                go_loopw [5] (fun i wr => ∃ k : Nat, k ≤ k0 ∧ i = .int .i64 k ∧ Hid (subTo s.al s.ma k = true) ∧ Hid (Below W.heap.size W wr)) (fun i _ => k0 - (intOf i).toNat)
                case atStart => exact ⟨0, Nat.zero_le _, rfl, rfl, Below.refl _ _⟩
                case round =>
                  obtain ⟨k, hk, rfl, HT, HBr⟩ := hrel
                  have f3 := cell_later HBr.out G3.out
                  have f4 := cell_later HBr.out G4.out
                  have f5 := cell_later HBr.out G5.out
                  have f6 := cell_later HBr.out G6.out
                  by_cases hlt : k < k0
                  · go_wp2_with fail
                    refine (CJ.out _ (bthen HBW.out HBr.out) k (by have := HL2.out; omega) (by omega)).mono ?_
                    rintro e w1 ⟨rfl, hb1⟩
                    have f3 := cell_later hb1 f3
                    have f4 := cell_later hb1 f4
                    have f5 := cell_later hb1 f5
                    have f6 := cell_later hb1 f6
                    have HB1 := Lib.hid (bthen HBr.out hb1)
                    clear hb1
                    by_cases hm : bitP s.ma k = true
                    · have HM1 := Lib.hid hm
                      rw [hm]
                      clear hm
                      go_wp2_with fail
                      refine (CI.out _ (bthen HBW.out HB1.out) k (by have := HL1.out; omega) (by omega)).mono ?_
                      rintro e w2 ⟨rfl, hb2⟩
                      have HB2 := Lib.hid (bthen HB1.out hb2)
                      clear hb2
                      by_cases ha : bitP s.al k = true
                      · have HA1 := Lib.hid ha
                        rw [ha]
                        clear ha
                        go_wp2
                        go_roundw
                        case rel => exact ⟨k + 1, by omega, by go_num, by (show _ = _; rw [subTo_succ, HT.out, HA1.out]; simp), HB2.out⟩
                        case measure => simp [intOf]; omega
                      · have HA1 : Hid (bitP s.al k = false) := by show _ = _; simpa using ha
                        rw [HA1.out]
                        clear ha
                        go_wp2
                        go_ret
                        rw [E.out, Int.toNat_natCast, subTo_no hlt HM1.out HA1.out]
                        exact ⟨rfl, bthen HBW.out HB2.out⟩
                    · have HM1 : Hid (bitP s.ma k = false) := by show _ = _; simpa using hm
                      rw [HM1.out]
                      clear hm
                      go_wp2
                      go_roundw
                      case rel => exact ⟨k + 1, by omega, by go_num, by (show _ = _; rw [subTo_succ, HT.out, HM1.out]; simp), HB1.out⟩
                      case measure => simp [intOf]; omega
                  · obtain rfl : k = k0 := by omega
                    go_wp2
                    go_ret
                    rw [E.out, Int.toNat_natCast, HT.out]
                    exact ⟨rfl, bthen HBW.out HBr.out⟩
              · have E : Hid (rightR s = false) := by
                  show _ = _
                  rw [H1.out, ← HMN.out, beq_eq_false_iff_ne.2 hn']
                  simp
                have e1 : (n == mq) = true := by simpa using hn
                have e2 : (n != mq) = false := by simpa using hn
                have e3 : (n' != mq) = true := by simpa using hn'
                clear hA hM hn hn' H1
                refine region_up (by kernel_rfl) (by kernel_rfl) ?_
                iterate 2
                  go_big_quiet_want
                  apply Exists.intro
                  refine ⟨fun W hW => ?_, ?_⟩
                  · have g0 := cell_later hW F2.out
                    have g1 := cell_later hW F3.out
                    have g2 := cell_later hW F4.out
                    have g3 := cell_later hW F5.out
                    have g4 := cell_later hW F6.out
                    go_simp
                    all_goals exact rfl
                  simp only [Act.put, List.setIfInBounds_toArray, List.set_cons_succ, List.set_cons_zero]
                  go_big_quiet_on
                go_big_quiet_want
                apply Exists.intro
                refine ⟨fun W hW => ?_, ?_⟩
                · have g0 := cell_later hW F2.out
                  have g1 := cell_later hW F3.out
                  have g2 := cell_later hW F4.out
                  have g3 := cell_later hW F5.out
                  have g4 := cell_later hW F6.out
                  go_simp
                  exact call_up hW (CA.out W (bthen HB0.out hW))
                simp only [Act.put, List.setIfInBounds_toArray, List.set_cons_succ, List.set_cons_zero]
                go_big_quiet_on
                iterate 4
                  go_big_quiet_want
                  apply Exists.intro
                  refine ⟨fun W hW => ?_, ?_⟩
                  · have g0 := cell_later hW F2.out
                    have g1 := cell_later hW F3.out
                    have g2 := cell_later hW F4.out
                    have g3 := cell_later hW F5.out
                    have g4 := cell_later hW F6.out
                    go_simp
                    all_goals exact rfl
                  simp only [Act.put, List.setIfInBounds_toArray, List.set_cons_succ, List.set_cons_zero]
                  go_big_quiet_on
                go_big_quiet_want
                apply Exists.intro
                refine ⟨fun W hW => ?_, ?_⟩
                · have g0 := cell_later hW F2.out
                  have g1 := cell_later hW F3.out
                  have g2 := cell_later hW F4.out
                  have g3 := cell_later hW F5.out
                  have g4 := cell_later hW F6.out
                  go_simp
                  exact call_up hW (CM.out W (bthen HB0.out hW))
                simp only [Act.put, List.setIfInBounds_toArray, List.set_cons_succ, List.set_cons_zero]
                go_big_quiet_on
                iterate 8
                  go_big_quiet_want
                  apply Exists.intro
                  refine ⟨fun W hW => ?_, ?_⟩
                  · have g0 := cell_later hW F2.out
                    have g1 := cell_later hW F3.out
                    have g2 := cell_later hW F4.out
                    have g3 := cell_later hW F5.out
                    have g4 := cell_later hW F6.out
                    go_simp
                    all_goals exact rfl
                  simp only [Act.put, List.setIfInBounds_toArray, List.set_cons_succ, List.set_cons_zero]
                  go_big_quiet_on
                go_big_quiet_want
                apply Exists.intro
                refine ⟨fun W hW => ?_, ?_⟩
                · have g0 := cell_later hW F2.out
                  have g1 := cell_later hW F3.out
                  have g2 := cell_later hW F4.out
                  have g3 := cell_later hW F5.out
                  have g4 := cell_later hW F6.out
                  go_simp
                  exact call_up hW (C39.out W)
                simp only [Act.put, List.setIfInBounds_toArray, List.set_cons_succ, List.set_cons_zero]
                go_big_quiet_on
                iterate 8
                  go_big_quiet_want
                  apply Exists.intro
                  refine ⟨fun W hW => ?_, ?_⟩
                  · have g0 := cell_later hW F2.out
                    have g1 := cell_later hW F3.out
                    have g2 := cell_later hW F4.out
                    have g3 := cell_later hW F5.out
                    have g4 := cell_later hW F6.out
                    go_simp
                    all_goals exact rfl
                  simp only [Act.put, List.setIfInBounds_toArray, List.set_cons_succ, List.set_cons_zero]
                  go_big_quiet_on
                go_big_quiet_want
                apply Exists.intro
                refine ⟨fun W hW => ?_, ?_⟩
                · have g0 := cell_later hW F2.out
                  have g1 := cell_later hW F3.out
                  have g2 := cell_later hW F4.out
                  have g3 := cell_later hW F5.out
                  have g4 := cell_later hW F6.out
                  go_simp
                  exact call_up hW (C39.out W)
                simp only [Act.put, List.setIfInBounds_toArray, List.set_cons_succ, List.set_cons_zero]
                go_big_quiet_on
                iterate 2
                  go_big_quiet_want
                  apply Exists.intro
                  refine ⟨fun W hW => ?_, ?_⟩
                  · have g0 := cell_later hW F2.out
                    have g1 := cell_later hW F3.out
                    have g2 := cell_later hW F4.out
                    have g3 := cell_later hW F5.out
                    have g4 := cell_later hW F6.out
                    go_simp
                    all_goals exact rfl
                  simp only [Act.put, List.setIfInBounds_toArray, List.set_cons_succ, List.set_cons_zero]
                  go_big_quiet_on
                refine wpQuiet_nil ?_
                intro W hW
                go_wp2
                go_ret
                rw [E.out]
                exact ⟨rfl, bthen HB0.out hW⟩
            · have E : Hid (rightR s = false) := by
                show _ = _
                rw [H1.out, ← HAN.out, beq_eq_false_iff_ne.2 hn]
                simp
              have e1 : (n != mq) = true := by simpa using hn
              clear hA hM hn H1
              refine region_up (by kernel_rfl) (by kernel_rfl) ?_
              iterate 2
                go_big_quiet_want
                apply Exists.intro
                refine ⟨fun W hW => ?_, ?_⟩
                · have g0 := cell_later hW F2.out
                  have g1 := cell_later hW F3.out
                  have g2 := cell_later hW F4.out
                  have g3 := cell_later hW F5.out
                  have g4 := cell_later hW F6.out
                  go_simp
                  all_goals exact rfl
                simp only [Act.put, List.setIfInBounds_toArray, List.set_cons_succ, List.set_cons_zero]
                go_big_quiet_on
              go_big_quiet_want
              apply Exists.intro
              refine ⟨fun W hW => ?_, ?_⟩
              · have g0 := cell_later hW F2.out
                have g1 := cell_later hW F3.out
                have g2 := cell_later hW F4.out
                have g3 := cell_later hW F5.out
                have g4 := cell_later hW F6.out
                go_simp
                exact call_up hW (CA.out W (bthen HB0.out hW))
              simp only [Act.put, List.setIfInBounds_toArray, List.set_cons_succ, List.set_cons_zero]
              go_big_quiet_on
              iterate 4
                go_big_quiet_want
                apply Exists.intro
                refine ⟨fun W hW => ?_, ?_⟩
                · have g0 := cell_later hW F2.out
                  have g1 := cell_later hW F3.out
                  have g2 := cell_later hW F4.out
                  have g3 := cell_later hW F5.out
                  have g4 := cell_later hW F6.out
                  go_simp
                  all_goals exact rfl
                simp only [Act.put, List.setIfInBounds_toArray, List.set_cons_succ, List.set_cons_zero]
                go_big_quiet_on
              go_big_quiet_want
              apply Exists.intro
              refine ⟨fun W hW => ?_, ?_⟩
              · have g0 := cell_later hW F2.out
                have g1 := cell_later hW F3.out
                have g2 := cell_later hW F4.out
                have g3 := cell_later hW F5.out
                have g4 := cell_later hW F6.out
                go_simp
                exact call_up hW (CM.out W (bthen HB0.out hW))
              simp only [Act.put, List.setIfInBounds_toArray, List.set_cons_succ, List.set_cons_zero]
              go_big_quiet_on
              iterate 8
                go_big_quiet_want
                apply Exists.intro
                refine ⟨fun W hW => ?_, ?_⟩
                · have g0 := cell_later hW F2.out
                  have g1 := cell_later hW F3.out
                  have g2 := cell_later hW F4.out
                  have g3 := cell_later hW F5.out
                  have g4 := cell_later hW F6.out
                  go_simp
                  all_goals exact rfl
                simp only [Act.put, List.setIfInBounds_toArray, List.set_cons_succ, List.set_cons_zero]
                go_big_quiet_on
              go_big_quiet_want
              apply Exists.intro
              refine ⟨fun W hW => ?_, ?_⟩
              · have g0 := cell_later hW F2.out
                have g1 := cell_later hW F3.out
                have g2 := cell_later hW F4.out
                have g3 := cell_later hW F5.out
                have g4 := cell_later hW F6.out
                go_simp
                exact call_up hW (C39.out W)
              simp only [Act.put, List.setIfInBounds_toArray, List.set_cons_succ, List.set_cons_zero]
              go_big_quiet_on
              iterate 3
                go_big_quiet_want
                apply Exists.intro
                refine ⟨fun W hW => ?_, ?_⟩
                · have g0 := cell_later hW F2.out
                  have g1 := cell_later hW F3.out
                  have g2 := cell_later hW F4.out
                  have g3 := cell_later hW F5.out
                  have g4 := cell_later hW F6.out
                  go_simp
                  all_goals exact rfl
                simp only [Act.put, List.setIfInBounds_toArray, List.set_cons_succ, List.set_cons_zero]
                go_big_quiet_on
              iterate 7 go_big_quiet_skip
              go_big_quiet_want
              apply Exists.intro
              refine ⟨fun W hW => ?_, ?_⟩
              · have g0 := cell_later hW F2.out
                have g1 := cell_later hW F3.out
                have g2 := cell_later hW F4.out
                have g3 := cell_later hW F5.out
                have g4 := cell_later hW F6.out
                go_simp
                all_goals exact rfl
              simp only [Act.put, List.setIfInBounds_toArray, List.set_cons_succ, List.set_cons_zero]
              go_big_quiet_on
              refine wpQuiet_nil ?_
              intro W hW
              go_wp2
              go_ret
              rw [E.out]
              exact ⟨rfl, bthen HB0.out hW⟩
          · have hM : okB s.ma = false := by simpa using hM
            rw [okE_2 hM] at CM
            have E : Hid (rightR s = false) := by show _ = _; rw [H1.out, hM]; simp
            clear hA hM H1
            refine region_up (by kernel_rfl) (by kernel_rfl) ?_
            iterate 2
              go_big_quiet_want
              apply Exists.intro
              refine ⟨fun W hW => ?_, ?_⟩
              · have g0 := cell_later hW F2.out
                have g1 := cell_later hW F3.out
                have g2 := cell_later hW F4.out
                have g3 := cell_later hW F5.out
                have g4 := cell_later hW F6.out
                go_simp
                all_goals exact rfl
              simp only [Act.put, List.setIfInBounds_toArray, List.set_cons_succ, List.set_cons_zero]
              go_big_quiet_on
            go_big_quiet_want
            apply Exists.intro
            refine ⟨fun W hW => ?_, ?_⟩
            · have g0 := cell_later hW F2.out
              have g1 := cell_later hW F3.out
              have g2 := cell_later hW F4.out
              have g3 := cell_later hW F5.out
              have g4 := cell_later hW F6.out
              go_simp
              exact call_up hW (CA.out W (bthen HB0.out hW))
            simp only [Act.put, List.setIfInBounds_toArray, List.set_cons_succ, List.set_cons_zero]
            go_big_quiet_on
            iterate 4
              go_big_quiet_want
              apply Exists.intro
              refine ⟨fun W hW => ?_, ?_⟩
              · have g0 := cell_later hW F2.out
                have g1 := cell_later hW F3.out
                have g2 := cell_later hW F4.out
                have g3 := cell_later hW F5.out
                have g4 := cell_later hW F6.out
                go_simp
                all_goals exact rfl
              simp only [Act.put, List.setIfInBounds_toArray, List.set_cons_succ, List.set_cons_zero]
              go_big_quiet_on
            go_big_quiet_want
            apply Exists.intro
            refine ⟨fun W hW => ?_, ?_⟩
            · have g0 := cell_later hW F2.out
              have g1 := cell_later hW F3.out
              have g2 := cell_later hW F4.out
              have g3 := cell_later hW F5.out
              have g4 := cell_later hW F6.out
              go_simp
              exact call_up hW (CM.out W (bthen HB0.out hW))
            simp only [Act.put, List.setIfInBounds_toArray, List.set_cons_succ, List.set_cons_zero]
            go_big_quiet_on
            iterate 3
              go_big_quiet_want
              apply Exists.intro
              refine ⟨fun W hW => ?_, ?_⟩
              · have g0 := cell_later hW F2.out
                have g1 := cell_later hW F3.out
                have g2 := cell_later hW F4.out
                have g3 := cell_later hW F5.out
                have g4 := cell_later hW F6.out
                go_simp
                all_goals exact rfl
              simp only [Act.put, List.setIfInBounds_toArray, List.set_cons_succ, List.set_cons_zero]
              go_big_quiet_on
            iterate 7 go_big_quiet_skip
            iterate 2
              go_big_quiet_want
              apply Exists.intro
              refine ⟨fun W hW => ?_, ?_⟩
              · have g0 := cell_later hW F2.out
                have g1 := cell_later hW F3.out
                have g2 := cell_later hW F4.out
                have g3 := cell_later hW F5.out
                have g4 := cell_later hW F6.out
                go_simp
                all_goals exact rfl
              simp only [Act.put, List.setIfInBounds_toArray, List.set_cons_succ, List.set_cons_zero]
              go_big_quiet_on
            iterate 7 go_big_quiet_skip
            go_big_quiet_want
            apply Exists.intro
            refine ⟨fun W hW => ?_, ?_⟩
            · have g0 := cell_later hW F2.out
              have g1 := cell_later hW F3.out
              have g2 := cell_later hW F4.out
              have g3 := cell_later hW F5.out
              have g4 := cell_later hW F6.out
              go_simp
              all_goals exact rfl
            simp only [Act.put, List.setIfInBounds_toArray, List.set_cons_succ, List.set_cons_zero]
            go_big_quiet_on
            refine wpQuiet_nil ?_
            intro W hW
            go_wp2
            go_ret
            rw [E.out]
            exact ⟨rfl, bthen HB0.out hW⟩
        · have hA : okB s.al = false := by simpa using hA
          rw [okE_2 hA] at CA
          have E : Hid (rightR s = false) := by show _ = _; rw [H1.out, hA]; simp
          clear hA H1
          refine region_up (by kernel_rfl) (by kernel_rfl) ?_
          iterate 2
            go_big_quiet_want
            apply Exists.intro
            refine ⟨fun W hW => ?_, ?_⟩
            · have g0 := cell_later hW F2.out
              have g1 := cell_later hW F3.out
              have g2 := cell_later hW F4.out
              have g3 := cell_later hW F5.out
              have g4 := cell_later hW F6.out
              go_simp
              all_goals exact rfl
            simp only [Act.put, List.setIfInBounds_toArray, List.set_cons_succ, List.set_cons_zero]
            go_big_quiet_on
          go_big_quiet_want
          apply Exists.intro
          refine ⟨fun W hW => ?_, ?_⟩
          · have g0 := cell_later hW F2.out
            have g1 := cell_later hW F3.out
            have g2 := cell_later hW F4.out
            have g3 := cell_later hW F5.out
            have g4 := cell_later hW F6.out
            go_simp
            exact call_up hW (CA.out W (bthen HB0.out hW))
          simp only [Act.put, List.setIfInBounds_toArray, List.set_cons_succ, List.set_cons_zero]
          go_big_quiet_on
          iterate 2
            go_big_quiet_want
            apply Exists.intro
            refine ⟨fun W hW => ?_, ?_⟩
            · have g0 := cell_later hW F2.out
              have g1 := cell_later hW F3.out
              have g2 := cell_later hW F4.out
              have g3 := cell_later hW F5.out
              have g4 := cell_later hW F6.out
              go_simp
              all_goals exact rfl
            simp only [Act.put, List.setIfInBounds_toArray, List.set_cons_succ, List.set_cons_zero]
            go_big_quiet_on
          iterate 4 go_big_quiet_skip
          iterate 2
            go_big_quiet_want
            apply Exists.intro
            refine ⟨fun W hW => ?_, ?_⟩
            · have g0 := cell_later hW F2.out
              have g1 := cell_later hW F3.out
              have g2 := cell_later hW F4.out
              have g3 := cell_later hW F5.out
              have g4 := cell_later hW F6.out
              go_simp
              all_goals exact rfl
            simp only [Act.put, List.setIfInBounds_toArray, List.set_cons_succ, List.set_cons_zero]
            go_big_quiet_on
          iterate 7 go_big_quiet_skip
          iterate 2
            go_big_quiet_want
            apply Exists.intro
            refine ⟨fun W hW => ?_, ?_⟩
            · have g0 := cell_later hW F2.out
              have g1 := cell_later hW F3.out
              have g2 := cell_later hW F4.out
              have g3 := cell_later hW F5.out
              have g4 := cell_later hW F6.out
              go_simp
              all_goals exact rfl
            simp only [Act.put, List.setIfInBounds_toArray, List.set_cons_succ, List.set_cons_zero]
            go_big_quiet_on
          iterate 7 go_big_quiet_skip
          go_big_quiet_want
          apply Exists.intro
          refine ⟨fun W hW => ?_, ?_⟩
          · have g0 := cell_later hW F2.out
            have g1 := cell_later hW F3.out
            have g2 := cell_later hW F4.out
            have g3 := cell_later hW F5.out
            have g4 := cell_later hW F6.out
            go_simp
            all_goals exact rfl
          simp only [Act.put, List.setIfInBounds_toArray, List.set_cons_succ, List.set_cons_zero]
          go_big_quiet_on
          refine wpQuiet_nil ?_
          intro W hW
          go_wp2
          go_ret
          rw [E.out]
          exact ⟨rfl, bthen HB0.out hW⟩
      · go_enter Tryd.func41, Tryd.ntmps41
        go_wp2
        generalize w.alloc (.cells #[.int .i64 s.first, .int .i64 1, .int .i64 4, .int .i64 n, .slice A m ca, .int .i64 n', .slice B m' cb, .bool s.sw] 26) = W0 at *
        by_cases hA : okB s.al = true
        · rw [okE_0 hA] at CA
          by_cases hM : okB s.ma = true
          · rw [okE_0 hM] at CM
            by_cases hn : n = mq
            · by_cases hn' : n' = mq
              · subst hn
                obtain rfl := hn'
                have E : Hid (rightR s = subTo s.al s.ma n'.toNat) := by
                  show _ = _
                  rw [H1.out, hA, hM, ← HAN.out, ← HMN.out]
                  simp
                have HL1 : Hid (s.al.w.length = 1) := by show _ = _; have := okB_parts hA; have := HAN.out; have := HQ.out; omega
                have HL2 : Hid (s.ma.w.length = 1) := by show _ = _; have := okB_parts hM; have := HMN.out; have := HQ.out; omega
                clear hA hM H1
                refine region_up (by kernel_rfl) (by kernel_rfl) ?_
                iterate 2
                  go_big_quiet_want
                  apply Exists.intro
                  refine ⟨fun W hW => ?_, ?_⟩
                  · have g0 := cell_later hW F2.out
                    have g1 := cell_later hW F3.out
                    have g2 := cell_later hW F4.out
                    have g3 := cell_later hW F5.out
                    have g4 := cell_later hW F6.out
                    go_simp
                    all_goals exact rfl
                  simp only [Act.put, List.setIfInBounds_toArray, List.set_cons_succ, List.set_cons_zero]
                  go_big_quiet_on
                go_big_quiet_want
                apply Exists.intro
                refine ⟨fun W hW => ?_, ?_⟩
                · have g0 := cell_later hW F2.out
                  have g1 := cell_later hW F3.out
                  have g2 := cell_later hW F4.out
                  have g3 := cell_later hW F5.out
                  have g4 := cell_later hW F6.out
                  go_simp
                  exact call_up hW (CA.out W (bthen HB0.out hW))
                simp only [Act.put, List.setIfInBounds_toArray, List.set_cons_succ, List.set_cons_zero]
                go_big_quiet_on
                iterate 4
                  go_big_quiet_want
                  apply Exists.intro
                  refine ⟨fun W hW => ?_, ?_⟩
                  · have g0 := cell_later hW F2.out
                    have g1 := cell_later hW F3.out
                    have g2 := cell_later hW F4.out
                    have g3 := cell_later hW F5.out
                    have g4 := cell_later hW F6.out
                    go_simp
                    all_goals exact rfl
                  simp only [Act.put, List.setIfInBounds_toArray, List.set_cons_succ, List.set_cons_zero]
                  go_big_quiet_on
                go_big_quiet_want
                apply Exists.intro
                refine ⟨fun W hW => ?_, ?_⟩
                · have g0 := cell_later hW F2.out
                  have g1 := cell_later hW F3.out
                  have g2 := cell_later hW F4.out
                  have g3 := cell_later hW F5.out
                  have g4 := cell_later hW F6.out
                  go_simp
                  exact call_up hW (CM.out W (bthen HB0.out hW))
                simp only [Act.put, List.setIfInBounds_toArray, List.set_cons_succ, List.set_cons_zero]
                go_big_quiet_on
                iterate 8
                  go_big_quiet_want
                  apply Exists.intro
                  refine ⟨fun W hW => ?_, ?_⟩
                  · have g0 := cell_later hW F2.out
                    have g1 := cell_later hW F3.out
                    have g2 := cell_later hW F4.out
                    have g3 := cell_later hW F5.out
                    have g4 := cell_later hW F6.out
                    go_simp
                    all_goals exact rfl
                  simp only [Act.put, List.setIfInBounds_toArray, List.set_cons_succ, List.set_cons_zero]
                  go_big_quiet_on
                go_big_quiet_want
                apply Exists.intro
                refine ⟨fun W hW => ?_, ?_⟩
                · have g0 := cell_later hW F2.out
                  have g1 := cell_later hW F3.out
                  have g2 := cell_later hW F4.out
                  have g3 := cell_later hW F5.out
                  have g4 := cell_later hW F6.out
                  go_simp
                  exact call_up hW (C39.out W)
                simp only [Act.put, List.setIfInBounds_toArray, List.set_cons_succ, List.set_cons_zero]
                go_big_quiet_on
                iterate 8
                  go_big_quiet_want
                  apply Exists.intro
                  refine ⟨fun W hW => ?_, ?_⟩
                  · have g0 := cell_later hW F2.out
                    have g1 := cell_later hW F3.out
                    have g2 := cell_later hW F4.out
                    have g3 := cell_later hW F5.out
                    have g4 := cell_later hW F6.out
                    go_simp
                    all_goals exact rfl
                  simp only [Act.put, List.setIfInBounds_toArray, List.set_cons_succ, List.set_cons_zero]
                  go_big_quiet_on
                go_big_quiet_want
                apply Exists.intro
                refine ⟨fun W hW => ?_, ?_⟩
                · have g0 := cell_later hW F2.out
                  have g1 := cell_later hW F3.out
                  have g2 := cell_later hW F4.out
                  have g3 := cell_later hW F5.out
                  have g4 := cell_later hW F6.out
                  go_simp
                  exact call_up hW (C39.out W)
                simp only [Act.put, List.setIfInBounds_toArray, List.set_cons_succ, List.set_cons_zero]
                go_big_quiet_on
                iterate 2
                  go_big_quiet_want
                  apply Exists.intro
                  refine ⟨fun W hW => ?_, ?_⟩
                  · have g0 := cell_later hW F2.out
                    have g1 := cell_later hW F3.out
                    have g2 := cell_later hW F4.out
                    have g3 := cell_later hW F5.out
                    have g4 := cell_later hW F6.out
                    go_simp
                    all_goals exact rfl
                  simp only [Act.put, List.setIfInBounds_toArray, List.set_cons_succ, List.set_cons_zero]
                  go_big_quiet_on
                refine wpQuiet_nil ?_
                intro W hW
                have f3 := cell_later hW F3.out
                have f4 := cell_later hW F4.out
                have f5 := cell_later hW F5.out
                have f6 := cell_later hW F6.out
                have HBW := Lib.hid (bthen HB0.out hW)
                have G3 := Lib.hid f3
                have G4 := Lib.hid f4
                have G5 := Lib.hid f5
                have G6 := Lib.hid f6
                clear hW f3 f4 f5 f6
                go_wp2
                obtain ⟨k0, hk0⟩ := Int.eq_ofNat_of_zero_le (show 0 ≤ n' by have := HQ.out; omega)
                subst hk0
                obtain ⟨wo, hwo⟩ : ∃ wo : World, wo = W := ⟨_, rfl⟩
                have hk8 : k0 ≤ 8 := by have := HQ.out; omega
                go_loopw [5] (fun i wr => ∃ k : Nat, k ≤ k0 ∧ i = .int .i64 k ∧ Hid (subTo s.al s.ma k = true) ∧ Hid (Below W.heap.size W wr)) (fun i _ => k0 - (intOf i).toNat)
                case atStart => exact ⟨0, Nat.zero_le _, rfl, rfl, Below.refl _ _⟩
                case round =>
                  obtain ⟨k, hk, rfl, HT, HBr⟩ := hrel
                  have f3 := cell_later HBr.out G3.out
                  have f4 := cell_later HBr.out G4.out
                  have f5 := cell_later HBr.out G5.out
                  have f6 := cell_later HBr.out G6.out
                  by_cases hlt : k < k0
                  · go_wp2_with fail
                    refine (CJ.out _ (bthen HBW.out HBr.out) k (by have := HL2.out; omega) (by omega)).mono ?_
                    rintro e w1 ⟨rfl, hb1⟩
                    have f3 := cell_later hb1 f3
                    have f4 := cell_later hb1 f4
                    have f5 := cell_later hb1 f5
                    have f6 := cell_later hb1 f6
                    have HB1 := Lib.hid (bthen HBr.out hb1)
                    clear hb1
                    by_cases hm : bitP s.ma k = true
                    · have HM1 := Lib.hid hm
                      rw [hm]
                      clear hm
                      go_wp2_with fail
                      refine (CI.out _ (bthen HBW.out HB1.out) k (by have := HL1.out; omega) (by omega)).mono ?_
                      rintro e w2 ⟨rfl, hb2⟩
                      have HB2 := Lib.hid (bthen HB1.out hb2)
                      clear hb2
                      by_cases ha : bitP s.al k = true
                      · have HA1 := Lib.hid ha
                        rw [ha]
                        clear ha
                        go_wp2
                        go_roundw
                        case rel => exact ⟨k + 1, by omega, by go_num, by (show _ = _; rw [subTo_succ, HT.out, HA1.out]; simp), HB2.out⟩
                        case measure => simp [intOf]; omega
                      · have HA1 : Hid (bitP s.al k = false) := by show _ = _; simpa using ha
                        rw [HA1.out]
                        clear ha
                        go_wp2
                        go_ret
                        rw [E.out, Int.toNat_natCast, subTo_no hlt HM1.out HA1.out]
                        exact ⟨rfl, bthen HBW.out HB2.out⟩
                    · have HM1 : Hid (bitP s.ma k = false) := by show _ = _; simpa using hm
                      rw [HM1.out]
                      clear hm
                      go_wp2
                      go_roundw
                      case rel => exact ⟨k + 1, by omega, by go_num, by (show _ = _; rw [subTo_succ, HT.out, HM1.out]; simp), HB1.out⟩
                      case measure => simp [intOf]; omega
                  · obtain rfl : k = k0 := by omega
                    go_wp2
                    go_ret
                    rw [E.out, Int.toNat_natCast, HT.out]
                    exact ⟨rfl, bthen HBW.out HBr.out⟩
              · have E : Hid (rightR s = false) := by
                  show _ = _
                  rw [H1.out, ← HMN.out, beq_eq_false_iff_ne.2 hn']
                  simp
                have e1 : (n == mq) = true := by simpa using hn
                have e2 : (n != mq) = false := by simpa using hn
                have e3 : (n' != mq) = true := by simpa using hn'
                clear hA hM hn hn' H1
                refine region_up (by kernel_rfl) (by kernel_rfl) ?_
                iterate 2
                  go_big_quiet_want
                  apply Exists.intro
                  refine ⟨fun W hW => ?_, ?_⟩
                  · have g0 := cell_later hW F2.out
                    have g1 := cell_later hW F3.out
                    have g2 := cell_later hW F4.out
                    have g3 := cell_later hW F5.out
                    have g4 := cell_later hW F6.out
                    go_simp
                    all_goals exact rfl
                  simp only [Act.put, List.setIfInBounds_toArray, List.set_cons_succ, List.set_cons_zero]
                  go_big_quiet_on
                go_big_quiet_want
                apply Exists.intro
                refine ⟨fun W hW => ?_, ?_⟩
                · have g0 := cell_later hW F2.out
                  have g1 := cell_later hW F3.out
                  have g2 := cell_later hW F4.out
                  have g3 := cell_later hW F5.out
                  have g4 := cell_later hW F6.out
                  go_simp
                  exact call_up hW (CA.out W (bthen HB0.out hW))
                simp only [Act.put, List.setIfInBounds_toArray, List.set_cons_succ, List.set_cons_zero]
                go_big_quiet_on
                iterate 4
                  go_big_quiet_want
                  apply Exists.intro
                  refine ⟨fun W hW => ?_, ?_⟩
                  · have g0 := cell_later hW F2.out
                    have g1 := cell_later hW F3.out
                    have g2 := cell_later hW F4.out
                    have g3 := cell_later hW F5.out
                    have g4 := cell_later hW F6.out
                    go_simp
                    all_goals exact rfl
                  simp only [Act.put, List.setIfInBounds_toArray, List.set_cons_succ, List.set_cons_zero]
                  go_big_quiet_on
                go_big_quiet_want
                apply Exists.intro
                refine ⟨fun W hW => ?_, ?_⟩
                · have g0 := cell_later hW F2.out
                  have g1 := cell_later hW F3.out
                  have g2 := cell_later hW F4.out
                  have g3 := cell_later hW F5.out
                  have g4 := cell_later hW F6.out
                  go_simp
                  exact call_up hW (CM.out W (bthen HB0.out hW))
                simp only [Act.put, List.setIfInBounds_toArray, List.set_cons_succ, List.set_cons_zero]
                go_big_quiet_on
                iterate 8
                  go_big_quiet_want
                  apply Exists.intro
                  refine ⟨fun W hW => ?_, ?_⟩
                  · have g0 := cell_later hW F2.out
                    have g1 := cell_later hW F3.out
                    have g2 := cell_later hW F4.out
                    have g3 := cell_later hW F5.out
                    have g4 := cell_later hW F6.out
                    go_simp
                    all_goals exact rfl
                  simp only [Act.put, List.setIfInBounds_toArray, List.set_cons_succ, List.set_cons_zero]
                  go_big_quiet_on
                go_big_quiet_want
                apply Exists.intro
                refine ⟨fun W hW => ?_, ?_⟩
                · have g0 := cell_later hW F2.out
                  have g1 := cell_later hW F3.out
                  have g2 := cell_later hW F4.out
                  have g3 := cell_later hW F5.out
                  have g4 := cell_later hW F6.out
                  go_simp
                  exact call_up hW (C39.out W)
                simp only [Act.put, List.setIfInBounds_toArray, List.set_cons_succ, List.set_cons_zero]
                go_big_quiet_on
                iterate 8
                  go_big_quiet_want
                  apply Exists.intro
                  refine ⟨fun W hW => ?_, ?_⟩
                  · have g0 := cell_later hW F2.out
                    have g1 := cell_later hW F3.out
                    have g2 := cell_later hW F4.out
                    have g3 := cell_later hW F5.out
                    have g4 := cell_later hW F6.out
                    go_simp
                    all_goals exact rfl
                  simp only [Act.put, List.setIfInBounds_toArray, List.set_cons_succ, List.set_cons_zero]
                  go_big_quiet_on
                go_big_quiet_want
                apply Exists.intro
                refine ⟨fun W hW => ?_, ?_⟩
                · have g0 := cell_later hW F2.out
                  have g1 := cell_later hW F3.out
                  have g2 := cell_later hW F4.out
                  have g3 := cell_later hW F5.out
                  have g4 := cell_later hW F6.out
                  go_simp
                  exact call_up hW (C39.out W)
                simp only [Act.put, List.setIfInBounds_toArray, List.set_cons_succ, List.set_cons_zero]
                go_big_quiet_on
                iterate 2
                  go_big_quiet_want
                  apply Exists.intro
                  refine ⟨fun W hW => ?_, ?_⟩
                  · have g0 := cell_later hW F2.out
                    have g1 := cell_later hW F3.out
                    have g2 := cell_later hW F4.out
                    have g3 := cell_later hW F5.out
                    have g4 := cell_later hW F6.out
                    go_simp
                    all_goals exact rfl
                  simp only [Act.put, List.setIfInBounds_toArray, List.set_cons_succ, List.set_cons_zero]
                  go_big_quiet_on
                refine wpQuiet_nil ?_
                intro W hW
                go_wp2
                go_ret
                rw [E.out]
                exact ⟨rfl, bthen HB0.out hW⟩
            · have E : Hid (rightR s = false) := by
                show _ = _
                rw [H1.out, ← HAN.out, beq_eq_false_iff_ne.2 hn]
                simp
              have e1 : (n != mq) = true := by simpa using hn
              clear hA hM hn H1
              refine region_up (by kernel_rfl) (by kernel_rfl) ?_
              iterate 2
                go_big_quiet_want
                apply Exists.intro
                refine ⟨fun W hW => ?_, ?_⟩
                · have g0 := cell_later hW F2.out
                  have g1 := cell_later hW F3.out
                  have g2 := cell_later hW F4.out
                  have g3 := cell_later hW F5.out
                  have g4 := cell_later hW F6.out
                  go_simp
                  all_goals exact rfl
                simp only [Act.put, List.setIfInBounds_toArray, List.set_cons_succ, List.set_cons_zero]
                go_big_quiet_on
              go_big_quiet_want
              apply Exists.intro
              refine ⟨fun W hW => ?_, ?_⟩
              · have g0 := cell_later hW F2.out
                have g1 := cell_later hW F3.out
                have g2 := cell_later hW F4.out
                have g3 := cell_later hW F5.out
                have g4 := cell_later hW F6.out
                go_simp
                exact call_up hW (CA.out W (bthen HB0.out hW))
              simp only [Act.put, List.setIfInBounds_toArray, List.set_cons_succ, List.set_cons_zero]
              go_big_quiet_on
              iterate 4
                go_big_quiet_want
                apply Exists.intro
                refine ⟨fun W hW => ?_, ?_⟩
                · have g0 := cell_later hW F2.out
                  have g1 := cell_later hW F3.out
                  have g2 := cell_later hW F4.out
                  have g3 := cell_later hW F5.out
                  have g4 := cell_later hW F6.out
                  go_simp
                  all_goals exact rfl
                simp only [Act.put, List.setIfInBounds_toArray, List.set_cons_succ, List.set_cons_zero]
                go_big_quiet_on
              go_big_quiet_want
              apply Exists.intro
              refine ⟨fun W hW => ?_, ?_⟩
              · have g0 := cell_later hW F2.out
                have g1 := cell_later hW F3.out
                have g2 := cell_later hW F4.out
                have g3 := cell_later hW F5.out
                have g4 := cell_later hW F6.out
                go_simp
                exact call_up hW (CM.out W (bthen HB0.out hW))
              simp only [Act.put, List.setIfInBounds_toArray, List.set_cons_succ, List.set_cons_zero]
              go_big_quiet_on
              iterate 8
                go_big_quiet_want
                apply Exists.intro
                refine ⟨fun W hW => ?_, ?_⟩
                · have g0 := cell_later hW F2.out
                  have g1 := cell_later hW F3.out
                  have g2 := cell_later hW F4.out
                  have g3 := cell_later hW F5.out
                  have g4 := cell_later hW F6.out
                  go_simp
                  all_goals exact rfl
                simp only [Act.put, List.setIfInBounds_toArray, List.set_cons_succ, List.set_cons_zero]
                go_big_quiet_on
              go_big_quiet_want
              apply Exists.intro
              refine ⟨fun W hW => ?_, ?_⟩
              · have g0 := cell_later hW F2.out
                have g1 := cell_later hW F3.out
                have g2 := cell_later hW F4.out
                have g3 := cell_later hW F5.out
                have g4 := cell_later hW F6.out
                go_simp
                exact call_up hW (C39.out W)
              simp only [Act.put, List.setIfInBounds_toArray, List.set_cons_succ, List.set_cons_zero]
              go_big_quiet_on
              iterate 3
                go_big_quiet_want
                apply Exists.intro
                refine ⟨fun W hW => ?_, ?_⟩
                · have g0 := cell_later hW F2.out
                  have g1 := cell_later hW F3.out
                  have g2 := cell_later hW F4.out
                  have g3 := cell_later hW F5.out
                  have g4 := cell_later hW F6.out
                  go_simp
                  all_goals exact rfl
                simp only [Act.put, List.setIfInBounds_toArray, List.set_cons_succ, List.set_cons_zero]
                go_big_quiet_on
              iterate 7 go_big_quiet_skip
              go_big_quiet_want
              apply Exists.intro
              refine ⟨fun W hW => ?_, ?_⟩
              · have g0 := cell_later hW F2.out
                have g1 := cell_later hW F3.out
                have g2 := cell_later hW F4.out
                have g3 := cell_later hW F5.out
                have g4 := cell_later hW F6.out
                go_simp
                all_goals exact rfl
              simp only [Act.put, List.setIfInBounds_toArray, List.set_cons_succ, List.set_cons_zero]
              go_big_quiet_on
              refine wpQuiet_nil ?_
              intro W hW
              go_wp2
              go_ret
              rw [E.out]
              exact ⟨rfl, bthen HB0.out hW⟩
          · have hM : okB s.ma = false := by simpa using hM
            rw [okE_2 hM] at CM
            have E : Hid (rightR s = false) := by show _ = _; rw [H1.out, hM]; simp
            clear hA hM H1
            refine region_up (by kernel_rfl) (by kernel_rfl) ?_
            iterate 2
              go_big_quiet_want
              apply Exists.intro
              refine ⟨fun W hW => ?_, ?_⟩
              · have g0 := cell_later hW F2.out
                have g1 := cell_later hW F3.out
                have g2 := cell_later hW F4.out
                have g3 := cell_later hW F5.out
                have g4 := cell_later hW F6.out
                go_simp
                all_goals exact rfl
              simp only [Act.put, List.setIfInBounds_toArray, List.set_cons_succ, List.set_cons_zero]
              go_big_quiet_on
            go_big_quiet_want
            apply Exists.intro
            refine ⟨fun W hW => ?_, ?_⟩
            · have g0 := cell_later hW F2.out
              have g1 := cell_later hW F3.out
              have g2 := cell_later hW F4.out
              have g3 := cell_later hW F5.out
              have g4 := cell_later hW F6.out
              go_simp
              exact call_up hW (CA.out W (bthen HB0.out hW))
            simp only [Act.put, List.setIfInBounds_toArray, List.set_cons_succ, List.set_cons_zero]
            go_big_quiet_on
            iterate 4
              go_big_quiet_want
              apply Exists.intro
              refine ⟨fun W hW => ?_, ?_⟩
              · have g0 := cell_later hW F2.out
                have g1 := cell_later hW F3.out
                have g2 := cell_later hW F4.out
                have g3 := cell_later hW F5.out
                have g4 := cell_later hW F6.out
                go_simp
                all_goals exact rfl
              simp only [Act.put, List.setIfInBounds_toArray, List.set_cons_succ, List.set_cons_zero]
              go_big_quiet_on
            go_big_quiet_want
            apply Exists.intro
            refine ⟨fun W hW => ?_, ?_⟩
            · have g0 := cell_later hW F2.out
              have g1 := cell_later hW F3.out
              have g2 := cell_later hW F4.out
              have g3 := cell_later hW F5.out
              have g4 := cell_later hW F6.out
              go_simp
              exact call_up hW (CM.out W (bthen HB0.out hW))
            simp only [Act.put, List.setIfInBounds_toArray, List.set_cons_succ, List.set_cons_zero]
            go_big_quiet_on
            iterate 3
              go_big_quiet_want
              apply Exists.intro
              refine ⟨fun W hW => ?_, ?_⟩
              · have g0 := cell_later hW F2.out
                have g1 := cell_later hW F3.out
                have g2 := cell_later hW F4.out
                have g3 := cell_later hW F5.out
                have g4 := cell_later hW F6.out
                go_simp
                all_goals exact rfl
              simp only [Act.put, List.setIfInBounds_toArray, List.set_cons_succ, List.set_cons_zero]
              go_big_quiet_on
            iterate 7 go_big_quiet_skip
            iterate 2
              go_big_quiet_want
              apply Exists.intro
              refine ⟨fun W hW => ?_, ?_⟩
              · have g0 := cell_later hW F2.out
                have g1 := cell_later hW F3.out
                have g2 := cell_later hW F4.out
                have g3 := cell_later hW F5.out
                have g4 := cell_later hW F6.out
                go_simp
                all_goals exact rfl
              simp only [Act.put, List.setIfInBounds_toArray, List.set_cons_succ, List.set_cons_zero]
              go_big_quiet_on
            iterate 7 go_big_quiet_skip
            go_big_quiet_want
            apply Exists.intro
            refine ⟨fun W hW => ?_, ?_⟩
            · have g0 := cell_later hW F2.out
              have g1 := cell_later hW F3.out
              have g2 := cell_later hW F4.out
              have g3 := cell_later hW F5.out
              have g4 := cell_later hW F6.out
              go_simp
              all_goals exact rfl
            simp only [Act.put, List.setIfInBounds_toArray, List.set_cons_succ, List.set_cons_zero]
            go_big_quiet_on
            refine wpQuiet_nil ?_
            intro W hW
            go_wp2
            go_ret
            rw [E.out]
            exact ⟨rfl, bthen HB0.out hW⟩
        · have hA : okB s.al = false := by simpa using hA
          rw [okE_2 hA] at CA
          have E : Hid (rightR s = false) := by show _ = _; rw [H1.out, hA]; simp
          clear hA H1
          refine region_up (by kernel_rfl) (by kernel_rfl) ?_
          iterate 2
            go_big_quiet_want
            apply Exists.intro
            refine ⟨fun W hW => ?_, ?_⟩
            · have g0 := cell_later hW F2.out
              have g1 := cell_later hW F3.out
              have g2 := cell_later hW F4.out
              have g3 := cell_later hW F5.out
              have g4 := cell_later hW F6.out
              go_simp
              all_goals exact rfl
            simp only [Act.put, List.setIfInBounds_toArray, List.set_cons_succ, List.set_cons_zero]
            go_big_quiet_on
          go_big_quiet_want
          apply Exists.intro
          refine ⟨fun W hW => ?_, ?_⟩
          · have g0 := cell_later hW F2.out
            have g1 := cell_later hW F3.out
            have g2 := cell_later hW F4.out
            have g3 := cell_later hW F5.out
            have g4 := cell_later hW F6.out
            go_simp
            exact call_up hW (CA.out W (bthen HB0.out hW))
          simp only [Act.put, List.setIfInBounds_toArray, List.set_cons_succ, List.set_cons_zero]
          go_big_quiet_on
          iterate 2
            go_big_quiet_want
            apply Exists.intro
            refine ⟨fun W hW => ?_, ?_⟩
            · have g0 := cell_later hW F2.out
              have g1 := cell_later hW F3.out
              have g2 := cell_later hW F4.out
              have g3 := cell_later hW F5.out
              have g4 := cell_later hW F6.out
              go_simp
              all_goals exact rfl
            simp only [Act.put, List.setIfInBounds_toArray, List.set_cons_succ, List.set_cons_zero]
            go_big_quiet_on
          iterate 4 go_big_quiet_skip
          iterate 2
            go_big_quiet_want
            apply Exists.intro
            refine ⟨fun W hW => ?_, ?_⟩
            · have g0 := cell_later hW F2.out
              have g1 := cell_later hW F3.out
              have g2 := cell_later hW F4.out
              have g3 := cell_later hW F5.out
              have g4 := cell_later hW F6.out
              go_simp
              all_goals exact rfl
            simp only [Act.put, List.setIfInBounds_toArray, List.set_cons_succ, List.set_cons_zero]
            go_big_quiet_on
          iterate 7 go_big_quiet_skip
          iterate 2
            go_big_quiet_want
            apply Exists.intro
            refine ⟨fun W hW => ?_, ?_⟩
            · have g0 := cell_later hW F2.out
              have g1 := cell_later hW F3.out
              have g2 := cell_later hW F4.out
              have g3 := cell_later hW F5.out
              have g4 := cell_later hW F6.out
              go_simp
              all_goals exact rfl
            simp only [Act.put, List.setIfInBounds_toArray, List.set_cons_succ, List.set_cons_zero]
            go_big_quiet_on
          iterate 7 go_big_quiet_skip
          go_big_quiet_want
          apply Exists.intro
          refine ⟨fun W hW => ?_, ?_⟩
          · have g0 := cell_later hW F2.out
            have g1 := cell_later hW F3.out
            have g2 := cell_later hW F4.out
            have g3 := cell_later hW F5.out
            have g4 := cell_later hW F6.out
            go_simp
            all_goals exact rfl
          simp only [Act.put, List.setIfInBounds_toArray, List.set_cons_succ, List.set_cons_zero]
          go_big_quiet_on
          refine wpQuiet_nil ?_
          intro W hW
          go_wp2
          go_ret
          rw [E.out]
          exact ⟨rfl, bthen HB0.out hW⟩
      · go_enter Tryd.func41, Tryd.ntmps41
        go_wp2
        generalize w.alloc (.cells #[.int .i64 s.first, .int .i64 1, .int .i64 8, .int .i64 n, .slice A m ca, .int .i64 n', .slice B m' cb, .bool s.sw] 26) = W0 at *
        by_cases hA : okB s.al = true
        · rw [okE_0 hA] at CA
          by_cases hM : okB s.ma = true
          · rw [okE_0 hM] at CM
            by_cases hn : n = mq
            · by_cases hn' : n' = mq
              · subst hn
                obtain rfl := hn'
                have E : Hid (rightR s = subTo s.al s.ma n'.toNat) := by
                  show _ = _
                  rw [H1.out, hA, hM, ← HAN.out, ← HMN.out]
                  simp
                have HL1 : Hid (s.al.w.length = 1) := by show _ = _; have := okB_parts hA; have := HAN.out; have := HQ.out; omega
                have HL2 : Hid (s.ma.w.length = 1) := by show _ = _; have := okB_parts hM; have := HMN.out; have := HQ.out; omega
                clear hA hM H1
                refine region_up (by kernel_rfl) (by kernel_rfl) ?_
                iterate 2
                  go_big_quiet_want
                  apply Exists.intro
                  refine ⟨fun W hW => ?_, ?_⟩
                  · have g0 := cell_later hW F2.out
                    have g1 := cell_later hW F3.out
                    have g2 := cell_later hW F4.out
                    have g3 := cell_later hW F5.out
                    have g4 := cell_later hW F6.out
                    go_simp
                    all_goals exact rfl
                  simp only [Act.put, List.setIfInBounds_toArray, List.set_cons_succ, List.set_cons_zero]
                  go_big_quiet_on
                go_big_quiet_want
                apply Exists.intro
                refine ⟨fun W hW => ?_, ?_⟩
                · have g0 := cell_later hW F2.out
                  have g1 := cell_later hW F3.out
                  have g2 := cell_later hW F4.out
                  have g3 := cell_later hW F5.out
                  have g4 := cell_later hW F6.out
                  go_simp
                  exact call_up hW (CA.out W (bthen HB0.out hW))
                simp only [Act.put, List.setIfInBounds_toArray, List.set_cons_succ, List.set_cons_zero]
                go_big_quiet_on
                iterate 4
                  go_big_quiet_want
                  apply Exists.intro
                  refine ⟨fun W hW => ?_, ?_⟩
                  · have g0 := cell_later hW F2.out
                    have g1 := cell_later hW F3.out
                    have g2 := cell_later hW F4.out
                    have g3 := cell_later hW F5.out
                    have g4 := cell_later hW F6.out
                    go_simp
                    all_goals exact rfl
                  simp only [Act.put, List.setIfInBounds_toArray, List.set_cons_succ, List.set_cons_zero]
                  go_big_quiet_on
                go_big_quiet_want
                apply Exists.intro
                refine ⟨fun W hW => ?_, ?_⟩
                · have g0 := cell_later hW F2.out
                  have g1 := cell_later hW F3.out
                  have g2 := cell_later hW F4.out
                  have g3 := cell_later hW F5.out
                  have g4 := cell_later hW F6.out
                  go_simp
                  exact call_up hW (CM.out W (bthen HB0.out hW))
                simp only [Act.put, List.setIfInBounds_toArray, List.set_cons_succ, List.set_cons_zero]
                go_big_quiet_on
                iterate 8
                  go_big_quiet_want
                  apply Exists.intro
                  refine ⟨fun W hW => ?_, ?_⟩
                  · have g0 := cell_later hW F2.out
                    have g1 := cell_later hW F3.out
                    have g2 := cell_later hW F4.out
                    have g3 := cell_later hW F5.out
                    have g4 := cell_later hW F6.out
                    go_simp
                    all_goals exact rfl
                  simp only [Act.put, List.setIfInBounds_toArray, List.set_cons_succ, List.set_cons_zero]
                  go_big_quiet_on
                go_big_quiet_want
                apply Exists.intro
                refine ⟨fun W hW => ?_, ?_⟩
                · have g0 := cell_later hW F2.out
                  have g1 := cell_later hW F3.out
                  have g2 := cell_later hW F4.out
                  have g3 := cell_later hW F5.out
                  have g4 := cell_later hW F6.out
                  go_simp
                  exact call_up hW (C39.out W)
                simp only [Act.put, List.setIfInBounds_toArray, List.set_cons_succ, List.set_cons_zero]
                go_big_quiet_on
                iterate 8
                  go_big_quiet_want
                  apply Exists.intro
                  refine ⟨fun W hW => ?_, ?_⟩
                  · have g0 := cell_later hW F2.out
                    have g1 := cell_later hW F3.out
                    have g2 := cell_later hW F4.out
                    have g3 := cell_later hW F5.out
                    have g4 := cell_later hW F6.out
                    go_simp
                    all_goals exact rfl
                  simp only [Act.put, List.setIfInBounds_toArray, List.set_cons_succ, List.set_cons_zero]
                  go_big_quiet_on
                go_big_quiet_want
                apply Exists.intro
                refine ⟨fun W hW => ?_, ?_⟩
                · have g0 := cell_later hW F2.out
                  have g1 := cell_later hW F3.out
                  have g2 := cell_later hW F4.out
                  have g3 := cell_later hW F5.out
                  have g4 := cell_later hW F6.out
                  go_simp
                  exact call_up hW (C39.out W)
                simp only [Act.put, List.setIfInBounds_toArray, List.set_cons_succ, List.set_cons_zero]
                go_big_quiet_on
                iterate 2
                  go_big_quiet_want
                  apply Exists.intro
                  refine ⟨fun W hW => ?_, ?_⟩
                  · have g0 := cell_later hW F2.out
                    have g1 := cell_later hW F3.out
                    have g2 := cell_later hW F4.out
                    have g3 := cell_later hW F5.out
                    have g4 := cell_later hW F6.out
                    go_simp
                    all_goals exact rfl
                  simp only [Act.put, List.setIfInBounds_toArray, List.set_cons_succ, List.set_cons_zero]
                  go_big_quiet_on
                refine wpQuiet_nil ?_
                intro W hW
                have f3 := cell_later hW F3.out
                have f4 := cell_later hW F4.out
                have f5 := cell_later hW F5.out
                have f6 := cell_later hW F6.out
                have HBW := Lib.hid (bthen HB0.out hW)
                have G3 := Lib.hid f3
                have G4 := Lib.hid f4
                have G5 := Lib.hid f5
                have G6 := Lib.hid f6
                clear hW f3 f4 f5 f6
                go_wp2
                obtain ⟨k0, hk0⟩ := Int.eq_ofNat_of_zero_le (show 0 ≤ n' by have := HQ.out; omega)
                subst hk0
                obtain ⟨wo, hwo⟩ : ∃ wo : World, wo = W := ⟨_, rfl⟩
                have hk8 : k0 ≤ 8 := by have := HQ.out; omega
                go_loopw [5] (fun i wr => ∃ k : Nat, k ≤ k0 ∧ i = .int .i64 k ∧ Hid (subTo s.al s.ma k = true) ∧ Hid (Below W.heap.size W wr)) (fun i _ => k0 - (intOf i).toNat)
                case atStart => exact ⟨0, Nat.zero_le _, rfl, rfl, Below.refl _ _⟩
                case round =>
                  obtain ⟨k, hk, rfl, HT, HBr⟩ := hrel
                  have f3 := cell_later HBr.out G3.out
                  have f4 := cell_later HBr.out G4.out
                  have f5 := cell_later HBr.out G5.out
                  have f6 := cell_later HBr.out G6.out
                  by_cases hlt : k < k0
                  · go_wp2_with fail
                    refine (CJ.out _ (bthen HBW.out HBr.out) k (by have := HL2.out; omega) (by omega)).mono ?_
                    rintro e w1 ⟨rfl, hb1⟩
                    have f3 := cell_later hb1 f3
                    have f4 := cell_later hb1 f4
                    have f5 := cell_later hb1 f5
                    have f6 := cell_later hb1 f6
                    have HB1 := Lib.hid (bthen HBr.out hb1)
                    clear hb1
                    by_cases hm : bitP s.ma k = true
                    · have HM1 := Lib.hid hm
                      rw [hm]
                      clear hm
                      go_wp2_with fail
                      refine (CI.out _ (bthen HBW.out HB1.out) k (by have := HL1.out; omega) (by omega)).mono ?_
                      rintro e w2 ⟨rfl, hb2⟩
                      have HB2 := Lib.hid (bthen HB1.out hb2)
                      clear hb2
                      by_cases ha : bitP s.al k = true
                      · have HA1 := Lib.hid ha
                        rw [ha]
                        clear ha
                        go_wp2
                        go_roundw
                        case rel => exact ⟨k + 1, by omega, by go_num, by (show _ = _; rw [subTo_succ, HT.out, HA1.out]; simp), HB2.out⟩
                        case measure => simp [intOf]; omega
                      · have HA1 : Hid (bitP s.al k = false) := by show _ = _; simpa using ha
                        rw [HA1.out]
                        clear ha
                        go_wp2
                        go_ret
                        rw [E.out, Int.toNat_natCast, subTo_no hlt HM1.out HA1.out]
                        exact ⟨rfl, bthen HBW.out HB2.out⟩
                    · have HM1 : Hid (bitP s.ma k = false) := by show _ = _; simpa using hm
                      rw [HM1.out]
                      clear hm
                      go_wp2
                      go_roundw
                      case rel => exact ⟨k + 1, by omega, by go_num, by (show _ = _; rw [subTo_succ, HT.out, HM1.out]; simp), HB1.out⟩
                      case measure => simp [intOf]; omega
                  · obtain rfl : k = k0 := by omega
                    go_wp2
                    go_ret
                    rw [E.out, Int.toNat_natCast, HT.out]
                    exact ⟨rfl, bthen HBW.out HBr.out⟩
              · have E : Hid (rightR s = false) := by
                  show _ = _
                  rw [H1.out, ← HMN.out, beq_eq_false_iff_ne.2 hn']
                  simp
                have e1 : (n == mq) = true := by simpa using hn
                have e2 : (n != mq) = false := by simpa using hn
                have e3 : (n' != mq) = true := by simpa using hn'
                clear hA hM hn hn' H1
                refine region_up (by kernel_rfl) (by kernel_rfl) ?_
                iterate 2
                  go_big_quiet_want
                  apply Exists.intro
                  refine ⟨fun W hW => ?_, ?_⟩
                  · have g0 := cell_later hW F2.out
                    have g1 := cell_later hW F3.out
                    have g2 := cell_later hW F4.out
                    have g3 := cell_later hW F5.out
                    have g4 := cell_later hW F6.out
                    go_simp
                    all_goals exact rfl
                  simp only [Act.put, List.setIfInBounds_toArray, List.set_cons_succ, List.set_cons_zero]
                  go_big_quiet_on
                go_big_quiet_want
                apply Exists.intro
                refine ⟨fun W hW => ?_, ?_⟩
                · have g0 := cell_later hW F2.out
                  have g1 := cell_later hW F3.out
                  have g2 := cell_later hW F4.out
                  have g3 := cell_later hW F5.out
                  have g4 := cell_later hW F6.out
                  go_simp
                  exact call_up hW (CA.out W (bthen HB0.out hW))
                simp only [Act.put, List.setIfInBounds_toArray, List.set_cons_succ, List.set_cons_zero]
                go_big_quiet_on
                iterate 4
                  go_big_quiet_want
                  apply Exists.intro
                  refine ⟨fun W hW => ?_, ?_⟩
                  · have g0 := cell_later hW F2.out
                    have g1 := cell_later hW F3.out
                    have g2 := cell_later hW F4.out
                    have g3 := cell_later hW F5.out
                    have g4 := cell_later hW F6.out
                    go_simp
                    all_goals exact rfl
                  simp only [Act.put, List.setIfInBounds_toArray, List.set_cons_succ, List.set_cons_zero]
                  go_big_quiet_on
                go_big_quiet_want
                apply Exists.intro
                refine ⟨fun W hW => ?_, ?_⟩
                · have g0 := cell_later hW F2.out
                  have g1 := cell_later hW F3.out
                  have g2 := cell_later hW F4.out
                  have g3 := cell_later hW F5.out
                  have g4 := cell_later hW F6.out
                  go_simp
                  exact call_up hW (CM.out W (bthen HB0.out hW))
                simp only [Act.put, List.setIfInBounds_toArray, List.set_cons_succ, List.set_cons_zero]
                go_big_quiet_on
                iterate 8
                  go_big_quiet_want
                  apply Exists.intro
                  refine ⟨fun W hW => ?_, ?_⟩
                  · have g0 := cell_later hW F2.out
                    have g1 := cell_later hW F3.out
                    have g2 := cell_later hW F4.out
                    have g3 := cell_later hW F5.out
                    have g4 := cell_later hW F6.out
                    go_simp
                    all_goals exact rfl
                  simp only [Act.put, List.setIfInBounds_toArray, List.set_cons_succ, List.set_cons_zero]
                  go_big_quiet_on
                go_big_quiet_want
                apply Exists.intro
                refine ⟨fun W hW => ?_, ?_⟩
                · have g0 := cell_later hW F2.out
                  have g1 := cell_later hW F3.out
                  have g2 := cell_later hW F4.out
                  have g3 := cell_later hW F5.out
                  have g4 := cell_later hW F6.out
                  go_simp
                  exact call_up hW (C39.out W)
                simp only [Act.put, List.setIfInBounds_toArray, List.set_cons_succ, List.set_cons_zero]
                go_big_quiet_on
                iterate 8
                  go_big_quiet_want
                  apply Exists.intro
                  refine ⟨fun W hW => ?_, ?_⟩
                  · have g0 := cell_later hW F2.out
                    have g1 := cell_later hW F3.out
                    have g2 := cell_later hW F4.out
                    have g3 := cell_later hW F5.out
                    have g4 := cell_later hW F6.out
                    go_simp
                    all_goals exact rfl
                  simp only [Act.put, List.setIfInBounds_toArray, List.set_cons_succ, List.set_cons_zero]
                  go_big_quiet_on
                go_big_quiet_want
                apply Exists.intro
                refine ⟨fun W hW => ?_, ?_⟩
                · have g0 := cell_later hW F2.out
                  have g1 := cell_later hW F3.out
                  have g2 := cell_later hW F4.out
                  have g3 := cell_later hW F5.out
                  have g4 := cell_later hW F6.out
                  go_simp
                  exact call_up hW (C39.out W)
                simp only [Act.put, List.setIfInBounds_toArray, List.set_cons_succ, List.set_cons_zero]
                go_big_quiet_on
                iterate 2
                  go_big_quiet_want
                  apply Exists.intro
                  refine ⟨fun W hW => ?_, ?_⟩
                  · have g0 := cell_later hW F2.out
                    have g1 := cell_later hW F3.out
                    have g2 := cell_later hW F4.out
                    have g3 := cell_later hW F5.out
                    have g4 := cell_later hW F6.out
                    go_simp
                    all_goals exact rfl
                  simp only [Act.put, List.setIfInBounds_toArray, List.set_cons_succ, List.set_cons_zero]
                  go_big_quiet_on
                refine wpQuiet_nil ?_
                intro W hW
                go_wp2
                go_ret
                rw [E.out]
                exact ⟨rfl, bthen HB0.out hW⟩
            · have E : Hid (rightR s = false) := by
                show _ = _
                rw [H1.out, ← HAN.out, beq_eq_false_iff_ne.2 hn]
                simp
              have e1 : (n != mq) = true := by simpa using hn
              clear hA hM hn H1
              refine region_up (by kernel_rfl) (by kernel_rfl) ?_
              iterate 2
                go_big_quiet_want
                apply Exists.intro
                refine ⟨fun W hW => ?_, ?_⟩
                · have g0 := cell_later hW F2.out
                  have g1 := cell_later hW F3.out
                  have g2 := cell_later hW F4.out
                  have g3 := cell_later hW F5.out
                  have g4 := cell_later hW F6.out
                  go_simp
                  all_goals exact rfl
                simp only [Act.put, List.setIfInBounds_toArray, List.set_cons_succ, List.set_cons_zero]
                go_big_quiet_on
              go_big_quiet_want
              apply Exists.intro
              refine ⟨fun W hW => ?_, ?_⟩
              · have g0 := cell_later hW F2.out
                have g1 := cell_later hW F3.out
                have g2 := cell_later hW F4.out
                have g3 := cell_later hW F5.out
                have g4 := cell_later hW F6.out
                go_simp
                exact call_up hW (CA.out W (bthen HB0.out hW))
              simp only [Act.put, List.setIfInBounds_toArray, List.set_cons_succ, List.set_cons_zero]
              go_big_quiet_on
              iterate 4
                go_big_quiet_want
                apply Exists.intro
                refine ⟨fun W hW => ?_, ?_⟩
                · have g0 := cell_later hW F2.out
                  have g1 := cell_later hW F3.out
                  have g2 := cell_later hW F4.out
                  have g3 := cell_later hW F5.out
                  have g4 := cell_later hW F6.out
                  go_simp
                  all_goals exact rfl
                simp only [Act.put, List.setIfInBounds_toArray, List.set_cons_succ, List.set_cons_zero]
                go_big_quiet_on
              go_big_quiet_want
              apply Exists.intro
              refine ⟨fun W hW => ?_, ?_⟩
              · have g0 := cell_later hW F2.out
                have g1 := cell_later hW F3.out
                have g2 := cell_later hW F4.out
                have g3 := cell_later hW F5.out
                have g4 := cell_later hW F6.out
                go_simp
                exact call_up hW (CM.out W (bthen HB0.out hW))
              simp only [Act.put, List.setIfInBounds_toArray, List.set_cons_succ, List.set_cons_zero]
              go_big_quiet_on
              iterate 8
                go_big_quiet_want
                apply Exists.intro
                refine ⟨fun W hW => ?_, ?_⟩
                · have g0 := cell_later hW F2.out
                  have g1 := cell_later hW F3.out
                  have g2 := cell_later hW F4.out
                  have g3 := cell_later hW F5.out
                  have g4 := cell_later hW F6.out
                  go_simp
                  all_goals exact rfl
                simp only [Act.put, List.setIfInBounds_toArray, List.set_cons_succ, List.set_cons_zero]
                go_big_quiet_on
              go_big_quiet_want
              apply Exists.intro
              refine ⟨fun W hW => ?_, ?_⟩
              · have g0 := cell_later hW F2.out
                have g1 := cell_later hW F3.out
                have g2 := cell_later hW F4.out
                have g3 := cell_later hW F5.out
                have g4 := cell_later hW F6.out
                go_simp
                exact call_up hW (C39.out W)
              simp only [Act.put, List.setIfInBounds_toArray, List.set_cons_succ, List.set_cons_zero]
              go_big_quiet_on
              iterate 3
                go_big_quiet_want
                apply Exists.intro
                refine ⟨fun W hW => ?_, ?_⟩
                · have g0 := cell_later hW F2.out
                  have g1 := cell_later hW F3.out
                  have g2 := cell_later hW F4.out
                  have g3 := cell_later hW F5.out
                  have g4 := cell_later hW F6.out
                  go_simp
                  all_goals exact rfl
                simp only [Act.put, List.setIfInBounds_toArray, List.set_cons_succ, List.set_cons_zero]
                go_big_quiet_on
              iterate 7 go_big_quiet_skip
              go_big_quiet_want
              apply Exists.intro
              refine ⟨fun W hW => ?_, ?_⟩
              · have g0 := cell_later hW F2.out
                have g1 := cell_later hW F3.out
                have g2 := cell_later hW F4.out
                have g3 := cell_later hW F5.out
                have g4 := cell_later hW F6.out
                go_simp
                all_goals exact rfl
              simp only [Act.put, List.setIfInBounds_toArray, List.set_cons_succ, List.set_cons_zero]
              go_big_quiet_on
              refine wpQuiet_nil ?_
              intro W hW
              go_wp2
              go_ret
              rw [E.out]
              exact ⟨rfl, bthen HB0.out hW⟩
          · have hM : okB s.ma = false := by simpa using hM
            rw [okE_2 hM] at CM
            have E : Hid (rightR s = false) := by show _ = _; rw [H1.out, hM]; simp
            clear hA hM H1
            refine region_up (by kernel_rfl) (by kernel_rfl) ?_
            iterate 2
              go_big_quiet_want
              apply Exists.intro
              refine ⟨fun W hW => ?_, ?_⟩
              · have g0 := cell_later hW F2.out
                have g1 := cell_later hW F3.out
                have g2 := cell_later hW F4.out
                have g3 := cell_later hW F5.out
                have g4 := cell_later hW F6.out
                go_simp
                all_goals exact rfl
              simp only [Act.put, List.setIfInBounds_toArray, List.set_cons_succ, List.set_cons_zero]
              go_big_quiet_on
            go_big_quiet_want
            apply Exists.intro
            refine ⟨fun W hW => ?_, ?_⟩
            · have g0 := cell_later hW F2.out
              have g1 := cell_later hW F3.out
              have g2 := cell_later hW F4.out
              have g3 := cell_later hW F5.out
              have g4 := cell_later hW F6.out
              go_simp
              exact call_up hW (CA.out W (bthen HB0.out hW))
            simp only [Act.put, List.setIfInBounds_toArray, List.set_cons_succ, List.set_cons_zero]
            go_big_quiet_on
            iterate 4
              go_big_quiet_want
              apply Exists.intro
              refine ⟨fun W hW => ?_, ?_⟩
              · have g0 := cell_later hW F2.out
                have g1 := cell_later hW F3.out
                have g2 := cell_later hW F4.out
                have g3 := cell_later hW F5.out
                have g4 := cell_later hW F6.out
                go_simp
                all_goals exact rfl
              simp only [Act.put, List.setIfInBounds_toArray, List.set_cons_succ, List.set_cons_zero]
              go_big_quiet_on
            go_big_quiet_want
            apply Exists.intro
            refine ⟨fun W hW => ?_, ?_⟩
            · have g0 := cell_later hW F2.out
              have g1 := cell_later hW F3.out
              have g2 := cell_later hW F4.out
              have g3 := cell_later hW F5.out
              have g4 := cell_later hW F6.out
              go_simp
              exact call_up hW (CM.out W (bthen HB0.out hW))
            simp only [Act.put, List.setIfInBounds_toArray, List.set_cons_succ, List.set_cons_zero]
            go_big_quiet_on
            iterate 3
              go_big_quiet_want
              apply Exists.intro
              refine ⟨fun W hW => ?_, ?_⟩
              · have g0 := cell_later hW F2.out
                have g1 := cell_later hW F3.out
                have g2 := cell_later hW F4.out
                have g3 := cell_later hW F5.out
                have g4 := cell_later hW F6.out
                go_simp
                all_goals exact rfl
              simp only [Act.put, List.setIfInBounds_toArray, List.set_cons_succ, List.set_cons_zero]
              go_big_quiet_on
            iterate 7 go_big_quiet_skip
            iterate 2
              go_big_quiet_want
              apply Exists.intro
              refine ⟨fun W hW => ?_, ?_⟩
              · have g0 := cell_later hW F2.out
                have g1 := cell_later hW F3.out
                have g2 := cell_later hW F4.out
                have g3 := cell_later hW F5.out
                have g4 := cell_later hW F6.out
                go_simp
                all_goals exact rfl
              simp only [Act.put, List.setIfInBounds_toArray, List.set_cons_succ, List.set_cons_zero]
              go_big_quiet_on
            iterate 7 go_big_quiet_skip
            go_big_quiet_want
            apply Exists.intro
            refine ⟨fun W hW => ?_, ?_⟩
            · have g0 := cell_later hW F2.out
              have g1 := cell_later hW F3.out
              have g2 := cell_later hW F4.out
              have g3 := cell_later hW F5.out
              have g4 := cell_later hW F6.out
              go_simp
              all_goals exact rfl
            simp only [Act.put, List.setIfInBounds_toArray, List.set_cons_succ, List.set_cons_zero]
            go_big_quiet_on
            refine wpQuiet_nil ?_
            intro W hW
            go_wp2
            go_ret
            rw [E.out]
            exact ⟨rfl, bthen HB0.out hW⟩
        · have hA : okB s.al = false := by simpa using hA
          rw [okE_2 hA] at CA
          have E : Hid (rightR s = false) := by show _ = _; rw [H1.out, hA]; simp
          clear hA H1
          refine region_up (by kernel_rfl) (by kernel_rfl) ?_
          iterate 2
            go_big_quiet_want
            apply Exists.intro
            refine ⟨fun W hW => ?_, ?_⟩
            · have g0 := cell_later hW F2.out
              have g1 := cell_later hW F3.out
              have g2 := cell_later hW F4.out
              have g3 := cell_later hW F5.out
              have g4 := cell_later hW F6.out
              go_simp
              all_goals exact rfl
            simp only [Act.put, List.setIfInBounds_toArray, List.set_cons_succ, List.set_cons_zero]
            go_big_quiet_on
          go_big_quiet_want
          apply Exists.intro
          refine ⟨fun W hW => ?_, ?_⟩
          · have g0 := cell_later hW F2.out
            have g1 := cell_later hW F3.out
            have g2 := cell_later hW F4.out
            have g3 := cell_later hW F5.out
            have g4 := cell_later hW F6.out
            go_simp
            exact call_up hW (CA.out W (bthen HB0.out hW))
          simp only [Act.put, List.setIfInBounds_toArray, List.set_cons_succ, List.set_cons_zero]
          go_big_quiet_on
          iterate 2
            go_big_quiet_want
            apply Exists.intro
            refine ⟨fun W hW => ?_, ?_⟩
            · have g0 := cell_later hW F2.out
              have g1 := cell_later hW F3.out
              have g2 := cell_later hW F4.out
              have g3 := cell_later hW F5.out
              have g4 := cell_later hW F6.out
              go_simp
              all_goals exact rfl
            simp only [Act.put, List.setIfInBounds_toArray, List.set_cons_succ, List.set_cons_zero]
            go_big_quiet_on
          iterate 4 go_big_quiet_skip
          iterate 2
            go_big_quiet_want
            apply Exists.intro
            refine ⟨fun W hW => ?_, ?_⟩
            · have g0 := cell_later hW F2.out
              have g1 := cell_later hW F3.out
              have g2 := cell_later hW F4.out
              have g3 := cell_later hW F5.out
              have g4 := cell_later hW F6.out
              go_simp
              all_goals exact rfl
            simp only [Act.put, List.setIfInBounds_toArray, List.set_cons_succ, List.set_cons_zero]
            go_big_quiet_on
          iterate 7 go_big_quiet_skip
          iterate 2
            go_big_quiet_want
            apply Exists.intro
            refine ⟨fun W hW => ?_, ?_⟩
            · have g0 := cell_later hW F2.out
              have g1 := cell_later hW F3.out
              have g2 := cell_later hW F4.out
              have g3 := cell_later hW F5.out
              have g4 := cell_later hW F6.out
              go_simp
              all_goals exact rfl
            simp only [Act.put, List.setIfInBounds_toArray, List.set_cons_succ, List.set_cons_zero]
            go_big_quiet_on
          iterate 7 go_big_quiet_skip
          go_big_quiet_want
          apply Exists.intro
          refine ⟨fun W hW => ?_, ?_⟩
          · have g0 := cell_later hW F2.out
            have g1 := cell_later hW F3.out
            have g2 := cell_later hW F4.out
            have g3 := cell_later hW F5.out
            have g4 := cell_later hW F6.out
            go_simp
            all_goals exact rfl
          simp only [Act.put, List.setIfInBounds_toArray, List.set_cons_succ, List.set_cons_zero]
          go_big_quiet_on
          refine wpQuiet_nil ?_
          intro W hW
          go_wp2
          go_ret
          rw [E.out]
          exact ⟨rfl, bthen HB0.out hW⟩
      · go_enter Tryd.func41, Tryd.ntmps41
        go_wp2
        generalize w.alloc (.cells #[.int .i64 s.first, .int .i64 1, .int .i64 16, .int .i64 n, .slice A m ca, .int .i64 n', .slice B m' cb, .bool s.sw] 26) = W0 at *
        by_cases hA : okB s.al = true
        · rw [okE_0 hA] at CA
          by_cases hM : okB s.ma = true
          · rw [okE_0 hM] at CM
            by_cases hn : n = mq
            · by_cases hn' : n' = mq
              · subst hn
                obtain rfl := hn'
                have E : Hid (rightR s = subTo s.al s.ma n'.toNat) := by
                  show _ = _
                  rw [H1.out, hA, hM, ← HAN.out, ← HMN.out]
                  simp
                have HL1 : Hid (s.al.w.length = 1) := by show _ = _; have := okB_parts hA; have := HAN.out; have := HQ.out; omega
                have HL2 : Hid (s.ma.w.length = 1) := by show _ = _; have := okB_parts hM; have := HMN.out; have := HQ.out; omega
                clear hA hM H1
                refine region_up (by kernel_rfl) (by kernel_rfl) ?_
                iterate 2
                  go_big_quiet_want
                  apply Exists.intro
                  refine ⟨fun W hW => ?_, ?_⟩
                  · have g0 := cell_later hW F2.out
                    have g1 := cell_later hW F3.out
                    have g2 := cell_later hW F4.out
                    have g3 := cell_later hW F5.out
                    have g4 := cell_later hW F6.out
                    go_simp
                    all_goals exact rfl
                  simp only [Act.put, List.setIfInBounds_toArray, List.set_cons_succ, List.set_cons_zero]
                  go_big_quiet_on
                go_big_quiet_want
                apply Exists.intro
                refine ⟨fun W hW => ?_, ?_⟩
                · have g0 := cell_later hW F2.out
                  have g1 := cell_later hW F3.out
                  have g2 := cell_later hW F4.out
                  have g3 := cell_later hW F5.out
                  have g4 := cell_later hW F6.out
                  go_simp
                  exact call_up hW (CA.out W (bthen HB0.out hW))
                simp only [Act.put, List.setIfInBounds_toArray, List.set_cons_succ, List.set_cons_zero]
                go_big_quiet_on
                iterate 4
                  go_big_quiet_want
                  apply Exists.intro
                  refine ⟨fun W hW => ?_, ?_⟩
                  · have g0 := cell_later hW F2.out
                    have g1 := cell_later hW F3.out
                    have g2 := cell_later hW F4.out
                    have g3 := cell_later hW F5.out
                    have g4 := cell_later hW F6.out
                    go_simp
                    all_goals exact rfl
                  simp only [Act.put, List.setIfInBounds_toArray, List.set_cons_succ, List.set_cons_zero]
                  go_big_quiet_on
                go_big_quiet_want
                apply Exists.intro
                refine ⟨fun W hW => ?_, ?_⟩
                · have g0 := cell_later hW F2.out
                  have g1 := cell_later hW F3.out
                  have g2 := cell_later hW F4.out
                  have g3 := cell_later hW F5.out
                  have g4 := cell_later hW F6.out
                  go_simp
                  exact call_up hW (CM.out W (bthen HB0.out hW))
                simp only [Act.put, List.setIfInBounds_toArray, List.set_cons_succ, List.set_cons_zero]
                go_big_quiet_on
                iterate 8
                  go_big_quiet_want
                  apply Exists.intro
                  refine ⟨fun W hW => ?_, ?_⟩
                  · have g0 := cell_later hW F2.out
                    have g1 := cell_later hW F3.out
                    have g2 := cell_later hW F4.out
                    have g3 := cell_later hW F5.out
                    have g4 := cell_later hW F6.out
                    go_simp
                    all_goals exact rfl
                  simp only [Act.put, List.setIfInBounds_toArray, List.set_cons_succ, List.set_cons_zero]
                  go_big_quiet_on
                go_big_quiet_want
                apply Exists.intro
                refine ⟨fun W hW => ?_, ?_⟩
                · have g0 := cell_later hW F2.out
                  have g1 := cell_later hW F3.out
                  have g2 := cell_later hW F4.out
                  have g3 := cell_later hW F5.out
                  have g4 := cell_later hW F6.out
                  go_simp
                  exact call_up hW (C39.out W)
                simp only [Act.put, List.setIfInBounds_toArray, List.set_cons_succ, List.set_cons_zero]
                go_big_quiet_on
                iterate 8
                  go_big_quiet_want
                  apply Exists.intro
                  refine ⟨fun W hW => ?_, ?_⟩
                  · have g0 := cell_later hW F2.out
                    have g1 := cell_later hW F3.out
                    have g2 := cell_later hW F4.out
                    have g3 := cell_later hW F5.out
                    have g4 := cell_later hW F6.out
                    go_simp
                    all_goals exact rfl
                  simp only [Act.put, List.setIfInBounds_toArray, List.set_cons_succ, List.set_cons_zero]
                  go_big_quiet_on
                go_big_quiet_want
                apply Exists.intro
                refine ⟨fun W hW => ?_, ?_⟩
                · have g0 := cell_later hW F2.out
                  have g1 := cell_later hW F3.out
                  have g2 := cell_later hW F4.out
                  have g3 := cell_later hW F5.out
                  have g4 := cell_later hW F6.out
                  go_simp
                  exact call_up hW (C39.out W)
                simp only [Act.put, List.setIfInBounds_toArray, List.set_cons_succ, List.set_cons_zero]
                go_big_quiet_on
                iterate 2
                  go_big_quiet_want
                  apply Exists.intro
                  refine ⟨fun W hW => ?_, ?_⟩
                  · have g0 := cell_later hW F2.out
                    have g1 := cell_later hW F3.out
                    have g2 := cell_later hW F4.out
                    have g3 := cell_later hW F5.out
                    have g4 := cell_later hW F6.out
                    go_simp
                    all_goals exact rfl
                  simp only [Act.put, List.setIfInBounds_toArray, List.set_cons_succ, List.set_cons_zero]
                  go_big_quiet_on
                refine wpQuiet_nil ?_
                intro W hW
                have f3 := cell_later hW F3.out
                have f4 := cell_later hW F4.out
                have f5 := cell_later hW F5.out
                have f6 := cell_later hW F6.out
                have HBW := Lib.hid (bthen HB0.out hW)
                have G3 := Lib.hid f3
                have G4 := Lib.hid f4
                have G5 := Lib.hid f5
                have G6 := Lib.hid f6
                clear hW f3 f4 f5 f6
                go_wp2
                obtain ⟨k0, hk0⟩ := Int.eq_ofNat_of_zero_le (show 0 ≤ n' by have := HQ.out; omega)
                subst hk0
                obtain ⟨wo, hwo⟩ : ∃ wo : World, wo = W := ⟨_, rfl⟩
                have hk8 : k0 ≤ 8 := by have := HQ.out; omega
                go_loopw [5] (fun i wr => ∃ k : Nat, k ≤ k0 ∧ i = .int .i64 k ∧ Hid (subTo s.al s.ma k = true) ∧ Hid (Below W.heap.size W wr)) (fun i _ => k0 - (intOf i).toNat)
                case atStart => exact ⟨0, Nat.zero_le _, rfl, rfl, Below.refl _ _⟩
                case round =>
                  obtain ⟨k, hk, rfl, HT, HBr⟩ := hrel
                  have f3 := cell_later HBr.out G3.out
                  have f4 := cell_later HBr.out G4.out
                  have f5 := cell_later HBr.out G5.out
                  have f6 := cell_later HBr.out G6.out
                  by_cases hlt : k < k0
                  · go_wp2_with fail
                    refine (CJ.out _ (bthen HBW.out HBr.out) k (by have := HL2.out; omega) (by omega)).mono ?_
                    rintro e w1 ⟨rfl, hb1⟩
                    have f3 := cell_later hb1 f3
                    have f4 := cell_later hb1 f4
                    have f5 := cell_later hb1 f5
                    have f6 := cell_later hb1 f6
                    have HB1 := Lib.hid (bthen HBr.out hb1)
                    clear hb1
                    by_cases hm : bitP s.ma k = true
                    · have HM1 := Lib.hid hm
                      rw [hm]
                      clear hm
                      go_wp2_with fail
                      refine (CI.out _ (bthen HBW.out HB1.out) k (by have := HL1.out; omega) (by omega)).mono ?_
                      rintro e w2 ⟨rfl, hb2⟩
                      have HB2 := Lib.hid (bthen HB1.out hb2)
                      clear hb2
                      by_cases ha : bitP s.al k = true
                      · have HA1 := Lib.hid ha
                        rw [ha]
                        clear ha
                        go_wp2
                        go_roundw
                        case rel => exact ⟨k + 1, by omega, by go_num, by (show _ = _; rw [subTo_succ, HT.out, HA1.out]; simp), HB2.out⟩
                        case measure => simp [intOf]; omega
                      · have HA1 : Hid (bitP s.al k = false) := by show _ = _; simpa using ha
                        rw [HA1.out]
                        clear ha
                        go_wp2
                        go_ret
                        rw [E.out, Int.toNat_natCast, subTo_no hlt HM1.out HA1.out]
                        exact ⟨rfl, bthen HBW.out HB2.out⟩
                    · have HM1 : Hid (bitP s.ma k = false) := by show _ = _; simpa using hm
                      rw [HM1.out]
                      clear hm
                      go_wp2
                      go_roundw
                      case rel => exact ⟨k + 1, by omega, by go_num, by (show _ = _; rw [subTo_succ, HT.out, HM1.out]; simp), HB1.out⟩
                      case measure => simp [intOf]; omega
                  · obtain rfl : k = k0 := by omega
                    go_wp2
                    go_ret
                    rw [E.out, Int.toNat_natCast, HT.out]
                    exact ⟨rfl, bthen HBW.out HBr.out⟩
              · have E : Hid (rightR s = false) := by
                  show _ = _
                  rw [H1.out, ← HMN.out, beq_eq_false_iff_ne.2 hn']
                  simp
                have e1 : (n == mq) = true := by simpa using hn
                have e2 : (n != mq) = false := by simpa using hn
                have e3 : (n' != mq) = true := by simpa using hn'
                clear hA hM hn hn' H1
                refine region_up (by kernel_rfl) (by kernel_rfl) ?_
                iterate 2
                  go_big_quiet_want
                  apply Exists.intro
                  refine ⟨fun W hW => ?_, ?_⟩
                  · have g0 := cell_later hW F2.out
                    have g1 := cell_later hW F3.out
                    have g2 := cell_later hW F4.out
                    have g3 := cell_later hW F5.out
                    have g4 := cell_later hW F6.out
                    go_simp
                    all_goals exact rfl
                  simp only [Act.put, List.setIfInBounds_toArray, List.set_cons_succ, List.set_cons_zero]
                  go_big_quiet_on
                go_big_quiet_want
                apply Exists.intro
                refine ⟨fun W hW => ?_, ?_⟩
                · have g0 := cell_later hW F2.out
                  have g1 := cell_later hW F3.out
                  have g2 := cell_later hW F4.out
                  have g3 := cell_later hW F5.out
                  have g4 := cell_later hW F6.out
                  go_simp
                  exact call_up hW (CA.out W (bthen HB0.out hW))
                simp only [Act.put, List.setIfInBounds_toArray, List.set_cons_succ, List.set_cons_zero]
                go_big_quiet_on
                iterate 4
                  go_big_quiet_want
                  apply Exists.intro
                  refine ⟨fun W hW => ?_, ?_⟩
                  · have g0 := cell_later hW F2.out
                    have g1 := cell_later hW F3.out
                    have g2 := cell_later hW F4.out
                    have g3 := cell_later hW F5.out
                    have g4 := cell_later hW F6.out
                    go_simp
                    all_goals exact rfl
                  simp only [Act.put, List.setIfInBounds_toArray, List.set_cons_succ, List.set_cons_zero]
                  go_big_quiet_on
                go_big_quiet_want
                apply Exists.intro
                refine ⟨fun W hW => ?_, ?_⟩
                · have g0 := cell_later hW F2.out
                  have g1 := cell_later hW F3.out
                  have g2 := cell_later hW F4.out
                  have g3 := cell_later hW F5.out
                  have g4 := cell_later hW F6.out
                  go_simp
                  exact call_up hW (CM.out W (bthen HB0.out hW))
                simp only [Act.put, List.setIfInBounds_toArray, List.set_cons_succ, List.set_cons_zero]
                go_big_quiet_on
                iterate 8
                  go_big_quiet_want
                  apply Exists.intro
                  refine ⟨fun W hW => ?_, ?_⟩
                  · have g0 := cell_later hW F2.out
                    have g1 := cell_later hW F3.out
                    have g2 := cell_later hW F4.out
                    have g3 := cell_later hW F5.out
                    have g4 := cell_later hW F6.out
                    go_simp
                    all_goals exact rfl
                  simp only [Act.put, List.setIfInBounds_toArray, List.set_cons_succ, List.set_cons_zero]
                  go_big_quiet_on
                go_big_quiet_want
                apply Exists.intro
                refine ⟨fun W hW => ?_, ?_⟩
                · have g0 := cell_later hW F2.out
                  have g1 := cell_later hW F3.out
                  have g2 := cell_later hW F4.out
                  have g3 := cell_later hW F5.out
                  have g4 := cell_later hW F6.out
                  go_simp
                  exact call_up hW (C39.out W)
                simp only [Act.put, List.setIfInBounds_toArray, List.set_cons_succ, List.set_cons_zero]
                go_big_quiet_on
                iterate 8
                  go_big_quiet_want
                  apply Exists.intro
                  refine ⟨fun W hW => ?_, ?_⟩
                  · have g0 := cell_later hW F2.out
                    have g1 := cell_later hW F3.out
                    have g2 := cell_later hW F4.out
                    have g3 := cell_later hW F5.out
                    have g4 := cell_later hW F6.out
                    go_simp
                    all_goals exact rfl
                  simp only [Act.put, List.setIfInBounds_toArray, List.set_cons_succ, List.set_cons_zero]
                  go_big_quiet_on
                go_big_quiet_want
                apply Exists.intro
                refine ⟨fun W hW => ?_, ?_⟩
                · have g0 := cell_later hW F2.out
                  have g1 := cell_later hW F3.out
                  have g2 := cell_later hW F4.out
                  have g3 := cell_later hW F5.out
                  have g4 := cell_later hW F6.out
                  go_simp
                  exact call_up hW (C39.out W)
                simp only [Act.put, List.setIfInBounds_toArray, List.set_cons_succ, List.set_cons_zero]
                go_big_quiet_on
                iterate 2
                  go_big_quiet_want
                  apply Exists.intro
                  refine ⟨fun W hW => ?_, ?_⟩
                  · have g0 := cell_later hW F2.out
                    have g1 := cell_later hW F3.out
                    have g2 := cell_later hW F4.out
                    have g3 := cell_later hW F5.out
                    have g4 := cell_later hW F6.out
                    go_simp
                    all_goals exact rfl
                  simp only [Act.put, List.setIfInBounds_toArray, List.set_cons_succ, List.set_cons_zero]
                  go_big_quiet_on
                refine wpQuiet_nil ?_
                intro W hW
                go_wp2
                go_ret
                rw [E.out]
                exact ⟨rfl, bthen HB0.out hW⟩
            · have E : Hid (rightR s = false) := by
                show _ = _
                rw [H1.out, ← HAN.out, beq_eq_false_iff_ne.2 hn]
                simp
              have e1 : (n != mq) = true := by simpa using hn
              clear hA hM hn H1
              refine region_up (by kernel_rfl) (by kernel_rfl) ?_
              iterate 2
                go_big_quiet_want
                apply Exists.intro
                refine ⟨fun W hW => ?_, ?_⟩
                · have g0 := cell_later hW F2.out
                  have g1 := cell_later hW F3.out
                  have g2 := cell_later hW F4.out
                  have g3 := cell_later hW F5.out
                  have g4 := cell_later hW F6.out
                  go_simp
                  all_goals exact rfl
                simp only [Act.put, List.setIfInBounds_toArray, List.set_cons_succ, List.set_cons_zero]
                go_big_quiet_on
              go_big_quiet_want
              apply Exists.intro
              refine ⟨fun W hW => ?_, ?_⟩
              · have g0 := cell_later hW F2.out
                have g1 := cell_later hW F3.out
                have g2 := cell_later hW F4.out
                have g3 := cell_later hW F5.out
                have g4 := cell_later hW F6.out
                go_simp
                exact call_up hW (CA.out W (bthen HB0.out hW))
              simp only [Act.put, List.setIfInBounds_toArray, List.set_cons_succ, List.set_cons_zero]
              go_big_quiet_on
              iterate 4
                go_big_quiet_want
                apply Exists.intro
                refine ⟨fun W hW => ?_, ?_⟩
                · have g0 := cell_later hW F2.out
                  have g1 := cell_later hW F3.out
                  have g2 := cell_later hW F4.out
                  have g3 := cell_later hW F5.out
                  have g4 := cell_later hW F6.out
                  go_simp
                  all_goals exact rfl
                simp only [Act.put, List.setIfInBounds_toArray, List.set_cons_succ, List.set_cons_zero]
                go_big_quiet_on
              go_big_quiet_want
              apply Exists.intro
              refine ⟨fun W hW => ?_, ?_⟩
              · have g0 := cell_later hW F2.out
                have g1 := cell_later hW F3.out
                have g2 := cell_later hW F4.out
                have g3 := cell_later hW F5.out
                have g4 := cell_later hW F6.out
                go_simp
                exact call_up hW (CM.out W (bthen HB0.out hW))
              simp only [Act.put, List.setIfInBounds_toArray, List.set_cons_succ, List.set_cons_zero]
              go_big_quiet_on
              iterate 8
                go_big_quiet_want
                apply Exists.intro
                refine ⟨fun W hW => ?_, ?_⟩
                · have g0 := cell_later hW F2.out
                  have g1 := cell_later hW F3.out
                  have g2 := cell_later hW F4.out
                  have g3 := cell_later hW F5.out
                  have g4 := cell_later hW F6.out
                  go_simp
                  all_goals exact rfl
                simp only [Act.put, List.setIfInBounds_toArray, List.set_cons_succ, List.set_cons_zero]
                go_big_quiet_on
              go_big_quiet_want
              apply Exists.intro
              refine ⟨fun W hW => ?_, ?_⟩
              · have g0 := cell_later hW F2.out
                have g1 := cell_later hW F3.out
                have g2 := cell_later hW F4.out
                have g3 := cell_later hW F5.out
                have g4 := cell_later hW F6.out
                go_simp
                exact call_up hW (C39.out W)
              simp only [Act.put, List.setIfInBounds_toArray, List.set_cons_succ, List.set_cons_zero]
              go_big_quiet_on
              iterate 3
                go_big_quiet_want
                apply Exists.intro
                refine ⟨fun W hW => ?_, ?_⟩
                · have g0 := cell_later hW F2.out
                  have g1 := cell_later hW F3.out
                  have g2 := cell_later hW F4.out
                  have g3 := cell_later hW F5.out
                  have g4 := cell_later hW F6.out
                  go_simp
                  all_goals exact rfl
                simp only [Act.put, List.setIfInBounds_toArray, List.set_cons_succ, List.set_cons_zero]
                go_big_quiet_on
              iterate 7 go_big_quiet_skip
              go_big_quiet_want
              apply Exists.intro
              refine ⟨fun W hW => ?_, ?_⟩
              · have g0 := cell_later hW F2.out
                have g1 := cell_later hW F3.out
                have g2 := cell_later hW F4.out
                have g3 := cell_later hW F5.out
                have g4 := cell_later hW F6.out
                go_simp
                all_goals exact rfl
              simp only [Act.put, List.setIfInBounds_toArray, List.set_cons_succ, List.set_cons_zero]
              go_big_quiet_on
              refine wpQuiet_nil ?_
              intro W hW
              go_wp2
              go_ret
              rw [E.out]
              exact ⟨rfl, bthen HB0.out hW⟩
          · have hM : okB s.ma = false := by simpa using hM
            rw [okE_2 hM] at CM
            have E : Hid (rightR s = false) := by show _ = _; rw [H1.out, hM]; simp
            clear hA hM H1
            refine region_up (by kernel_rfl) (by kernel_rfl) ?_
            iterate 2
              go_big_quiet_want
              apply Exists.intro
              refine ⟨fun W hW => ?_, ?_⟩
              · have g0 := cell_later hW F2.out
                have g1 := cell_later hW F3.out
                have g2 := cell_later hW F4.out
                have g3 := cell_later hW F5.out
                have g4 := cell_later hW F6.out
                go_simp
                all_goals exact rfl
              simp only [Act.put, List.setIfInBounds_toArray, List.set_cons_succ, List.set_cons_zero]
              go_big_quiet_on
            go_big_quiet_want
            apply Exists.intro
            refine ⟨fun W hW => ?_, ?_⟩
            · have g0 := cell_later hW F2.out
              have g1 := cell_later hW F3.out
              have g2 := cell_later hW F4.out
              have g3 := cell_later hW F5.out
              have g4 := cell_later hW F6.out
              go_simp
              exact call_up hW (CA.out W (bthen HB0.out hW))
            simp only [Act.put, List.setIfInBounds_toArray, List.set_cons_succ, List.set_cons_zero]
            go_big_quiet_on
            iterate 4
              go_big_quiet_want
              apply Exists.intro
              refine ⟨fun W hW => ?_, ?_⟩
              · have g0 := cell_later hW F2.out
                have g1 := cell_later hW F3.out
                have g2 := cell_later hW F4.out
                have g3 := cell_later hW F5.out
                have g4 := cell_later hW F6.out
                go_simp
                all_goals exact rfl
              simp only [Act.put, List.setIfInBounds_toArray, List.set_cons_succ, List.set_cons_zero]
              go_big_quiet_on
            go_big_quiet_want
            apply Exists.intro
            refine ⟨fun W hW => ?_, ?_⟩
            · have g0 := cell_later hW F2.out
              have g1 := cell_later hW F3.out
              have g2 := cell_later hW F4.out
              have g3 := cell_later hW F5.out
              have g4 := cell_later hW F6.out
              go_simp
              exact call_up hW (CM.out W (bthen HB0.out hW))
            simp only [Act.put, List.setIfInBounds_toArray, List.set_cons_succ, List.set_cons_zero]
            go_big_quiet_on
            iterate 3
              go_big_quiet_want
              apply Exists.intro
              refine ⟨fun W hW => ?_, ?_⟩
              · have g0 := cell_later hW F2.out
                have g1 := cell_later hW F3.out
                have g2 := cell_later hW F4.out
                have g3 := cell_later hW F5.out
                have g4 := cell_later hW F6.out
                go_simp
                all_goals exact rfl
              simp only [Act.put, List.setIfInBounds_toArray, List.set_cons_succ, List.set_cons_zero]
              go_big_quiet_on
            iterate 7 go_big_quiet_skip
            iterate 2
              go_big_quiet_want
              apply Exists.intro
              refine ⟨fun W hW => ?_, ?_⟩
              · have g0 := cell_later hW F2.out
                have g1 := cell_later hW F3.out
                have g2 := cell_later hW F4.out
                have g3 := cell_later hW F5.out
                have g4 := cell_later hW F6.out
                go_simp
                all_goals exact rfl
              simp only [Act.put, List.setIfInBounds_toArray, List.set_cons_succ, List.set_cons_zero]
              go_big_quiet_on
            iterate 7 go_big_quiet_skip
            go_big_quiet_want
            apply Exists.intro
            refine ⟨fun W hW => ?_, ?_⟩
            · have g0 := cell_later hW F2.out
              have g1 := cell_later hW F3.out
              have g2 := cell_later hW F4.out
              have g3 := cell_later hW F5.out
              have g4 := cell_later hW F6.out
              go_simp
              all_goals exact rfl
            simp only [Act.put, List.setIfInBounds_toArray, List.set_cons_succ, List.set_cons_zero]
            go_big_quiet_on
            refine wpQuiet_nil ?_
            intro W hW
            go_wp2
            go_ret
            rw [E.out]
            exact ⟨rfl, bthen HB0.out hW⟩
        · have hA : okB s.al = false := by simpa using hA
          rw [okE_2 hA] at CA
          have E : Hid (rightR s = false) := by show _ = _; rw [H1.out, hA]; simp
          clear hA H1
          refine region_up (by kernel_rfl) (by kernel_rfl) ?_
          iterate 2
            go_big_quiet_want
            apply Exists.intro
            refine ⟨fun W hW => ?_, ?_⟩
            · have g0 := cell_later hW F2.out
              have g1 := cell_later hW F3.out
              have g2 := cell_later hW F4.out
              have g3 := cell_later hW F5.out
              have g4 := cell_later hW F6.out
              go_simp
              all_goals exact rfl
            simp only [Act.put, List.setIfInBounds_toArray, List.set_cons_succ, List.set_cons_zero]
            go_big_quiet_on
          go_big_quiet_want
          apply Exists.intro
          refine ⟨fun W hW => ?_, ?_⟩
          · have g0 := cell_later hW F2.out
            have g1 := cell_later hW F3.out
            have g2 := cell_later hW F4.out
            have g3 := cell_later hW F5.out
            have g4 := cell_later hW F6.out
            go_simp
            exact call_up hW (CA.out W (bthen HB0.out hW))
          simp only [Act.put, List.setIfInBounds_toArray, List.set_cons_succ, List.set_cons_zero]
          go_big_quiet_on
          iterate 2
            go_big_quiet_want
            apply Exists.intro
            refine ⟨fun W hW => ?_, ?_⟩
            · have g0 := cell_later hW F2.out
              have g1 := cell_later hW F3.out
              have g2 := cell_later hW F4.out
              have g3 := cell_later hW F5.out
              have g4 := cell_later hW F6.out
              go_simp
              all_goals exact rfl
            simp only [Act.put, List.setIfInBounds_toArray, List.set_cons_succ, List.set_cons_zero]
            go_big_quiet_on
          iterate 4 go_big_quiet_skip
          iterate 2
            go_big_quiet_want
            apply Exists.intro
            refine ⟨fun W hW => ?_, ?_⟩
            · have g0 := cell_later hW F2.out
              have g1 := cell_later hW F3.out
              have g2 := cell_later hW F4.out
              have g3 := cell_later hW F5.out
              have g4 := cell_later hW F6.out
              go_simp
              all_goals exact rfl
            simp only [Act.put, List.setIfInBounds_toArray, List.set_cons_succ, List.set_cons_zero]
            go_big_quiet_on
          iterate 7 go_big_quiet_skip
          iterate 2
            go_big_quiet_want
            apply Exists.intro
            refine ⟨fun W hW => ?_, ?_⟩
            · have g0 := cell_later hW F2.out
              have g1 := cell_later hW F3.out
              have g2 := cell_later hW F4.out
              have g3 := cell_later hW F5.out
              have g4 := cell_later hW F6.out
              go_simp
              all_goals exact rfl
            simp only [Act.put, List.setIfInBounds_toArray, List.set_cons_succ, List.set_cons_zero]
            go_big_quiet_on
          iterate 7 go_big_quiet_skip
          go_big_quiet_want
          apply Exists.intro
          refine ⟨fun W hW => ?_, ?_⟩
          · have g0 := cell_later hW F2.out
            have g1 := cell_later hW F3.out
            have g2 := cell_later hW F4.out
            have g3 := cell_later hW F5.out
            have g4 := cell_later hW F6.out
            go_simp
            all_goals exact rfl
          simp only [Act.put, List.setIfInBounds_toArray, List.set_cons_succ, List.set_cons_zero]
          go_big_quiet_on
          refine wpQuiet_nil ?_
          intro W hW
          go_wp2
          go_ret
          rw [E.out]
          exact ⟨rfl, bthen HB0.out hW⟩
    · have E : Hid (rightR s = false) := by
        show _ = _
        rw [rightR, fitP]
        by_cases h0 : 0 ≤ s.first
        · rw [decide_eq_false (show ¬ s.first ≤ 1024 - s.pages from fun h => hf ⟨h0, h⟩)]; simp
        · rw [decide_eq_false h0]; simp
      have hf' : s.first < 0 ∨ (¬ s.first < 0 ∧ 1024 - s.pages < s.first) := by omega
      clear hsh hf
      generalize s.size = z at *
      generalize s.pages = p at *
      rcases hcs with ⟨rfl, hp2, hp⟩ | ⟨rfl, rfl⟩ | ⟨rfl, rfl⟩ | ⟨rfl, rfl⟩ | ⟨rfl, rfl⟩ <;> rcases hf' with hf | ⟨h0, hf⟩
      all_goals
        go_enter Tryd.func41, Tryd.ntmps41
        go_wp2
        go_ret
        rw [E.out]
        exact ⟨rfl, HB0.out⟩
  · have E : Hid (rightR s = false) := by show _ = _; simp [rightR, fitP, hsh]
    have hcs : (s.size = 0 ∧ s.pages < 2) ∨ (s.size = 0 ∧ 2 ≤ s.pages ∧ 4 < s.pages) ∨ (s.size = 2 ∧ s.pages ≠ 1) ∨ (s.size = 4 ∧ s.pages ≠ 1) ∨ (s.size = 8 ∧ s.pages ≠ 1) ∨ (s.size = 16 ∧ s.pages ≠ 1) ∨ (s.size ≠ 0 ∧ s.size ≠ 2 ∧ s.size ≠ 4 ∧ s.size ≠ 8 ∧ s.size ≠ 16) := by
      unfold shapedP at hsh
      by_cases hz : s.size = 0
      · simp [hz] at hsh; omega
      · by_cases h2 : s.size = 2 ∨ s.size = 4 ∨ s.size = 8 ∨ s.size = 16
        · simp [hz, h2] at hsh; omega
        · omega
    clear hsh
    generalize s.size = z at *
    generalize s.pages = p at *
    rcases hcs with ⟨rfl, hp⟩ | ⟨rfl, hp2, hp⟩ | ⟨rfl, hp⟩ | ⟨rfl, hp⟩ | ⟨rfl, hp⟩ | ⟨rfl, hp⟩ | ⟨h0, h2, h4, h8, h16⟩
    · go_enter Tryd.func41, Tryd.ntmps41
      go_wp2
      go_ret
      rw [E.out]
      exact ⟨rfl, HB0.out⟩
    · go_enter Tryd.func41, Tryd.ntmps41
      go_wp2
      go_ret
      rw [E.out]
      exact ⟨rfl, HB0.out⟩
    · have e1 : (p == 1) = false := by simpa using hp
      clear hp
      go_enter Tryd.func41, Tryd.ntmps41
      go_wp2
      go_ret
      rw [E.out]
      exact ⟨rfl, HB0.out⟩
    · have e1 : (p == 1) = false := by simpa using hp
      clear hp
      go_enter Tryd.func41, Tryd.ntmps41
      go_wp2
      go_ret
      rw [E.out]
      exact ⟨rfl, HB0.out⟩
    · have e1 : (p == 1) = false := by simpa using hp
      clear hp
      go_enter Tryd.func41, Tryd.ntmps41
      go_wp2
      go_ret
      rw [E.out]
      exact ⟨rfl, HB0.out⟩
    · have e1 : (p == 1) = false := by simpa using hp
      clear hp
      go_enter Tryd.func41, Tryd.ntmps41
      go_wp2
      go_ret
      rw [E.out]
      exact ⟨rfl, HB0.out⟩
    · have e0 : (z == 0) = false := by simpa using h0
      have e2 : (z == 2) = false := by simpa using h2
      have e4 : (z == 4) = false := by simpa using h4
      have e8 : (z == 8) = false := by simpa using h8
      have e16 : (z == 16) = false := by simpa using h16
      clear h0 h2 h4 h8 h16
      go_enter Tryd.func41, Tryd.ntmps41
      go_wp2
      go_ret
      rw [E.out]
      exact ⟨rfl, HB0.out⟩
end Go.Proofs.YtchbbldanmmpjaaDoor
