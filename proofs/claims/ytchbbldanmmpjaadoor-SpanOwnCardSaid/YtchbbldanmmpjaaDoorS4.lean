/- The walk of the reference's Check of bits. -/
import Derived.Test.YtchbbldanmmpjaaDoorS3
namespace Go.Proofs.YtchbbldanmmpjaaDoor
open Go.RowKit
set_option linter.unusedVariables false
set_option linter.unusedSimpArgs false

set_option maxRecDepth 100000 in
set_option maxHeartbeats 8000000 in
theorem check67 (v : BitV) (b : BitB) (w : World) (h : RdB w v b) : Calls Tryd.prog 67 #[v.v] w (Ret (.int .i64 (okE b)) w) := by
  have hn := h.n
  have hm := h.m
  have hlo := h.lo
  have hhi := h.hi
  have hl := h.row.len
  have H := Lib.hid h
  have hb : Below w.heap.size w (w.alloc (Obj.cells #[.int .i64 v.n, .slice v.A v.m v.c] 24)) := balloc (Below.refl _ _) _
  have HB := Lib.hid hb
  clear h
  obtain ⟨n, A, m, c⟩ := v
  simp only at hn hm hb HB
  subst hn
  subst hm
  by_cases h0 : 0 ≤ b.n
  · by_cases h1 : b.n ≤ 4096
    · by_cases h2 : (b.w.length : Int) = (b.n + 63) / 64
      · have HI := Lib.hid (fun W (hW : Below w.heap.size w W) (i : Nat) (hi : i / 64 < b.w.length) (hs : i ≤ 1000000) => is51 ⟨b.n, A, b.w.length, c⟩ b i W (H.out.below hW) hi hs)
        have OK : Hid (okB b = true ↔ ∀ i : Nat, b.n ≤ (i : Int) → i < 64 * b.w.length → bitP b i = false) := by
          show _ ↔ _
          unfold okB
          simp only [Bool.and_eq_true, decide_eq_true_eq, List.all_eq_true, List.mem_range, Bool.or_eq_true, Bool.not_eq_true']
          constructor
          · intro ⟨_, _, _, h⟩ i hi1 hi2
            rcases h i hi2 with h | h
            · omega
            · exact h
          · intro h
            refine ⟨h0, h1, h2, fun i hi => ?_⟩
            by_cases hin : (i : Int) < b.n
            · exact .inl hin
            · exact .inr (h i (by omega) hi)
        clear H hb
        unfold BitV.v at HI ⊢
        simp only at HI ⊢
        generalize b.w.length = m at *
        generalize b.n = n at *
        obtain ⟨k, rfl⟩ := Int.eq_ofNat_of_zero_le h0
        have q1 : ((m : Int) != ((k : Int) + 63) / 64) = false := by rw [bne_eq_false_iff_eq]; omega
        have q2 : ¬ (k : Int) < 0 := by omega
        have q3 : ¬ 4096 < (k : Int) := by omega
        have hm64 : m ≤ 64 := by omega
        clear h2
        have F1 : Hid ((w.alloc (Obj.cells #[.int .i64 k, .slice A m c] 24)).cell? ⟨w.heap.size, 0, none⟩ = some (.int .i64 k)) := by show _ = _; go_simp
        have F2 : Hid ((w.alloc (Obj.cells #[.int .i64 k, .slice A m c] 24)).cell? ⟨w.heap.size, 1, none⟩ = some (.slice A m c)) := by show _ = _; go_simp
        go_enter Tryd.func67, Tryd.ntmps67
        go_wp2_with fail
        generalize w.alloc (Obj.cells #[.int .i64 k, .slice A m c] 24) = w0 at *
        go_loopw [3] (fun i wr => ∃ j : Nat, i = .int .i64 j ∧ (j : Int) ≤ max (k : Int) (64 * (m : Int)) ∧ k ≤ j ∧ Hid (∀ i : Nat, k ≤ i → i < j → i < 64 * m → bitP b i = false) ∧ Hid (Below w0.heap.size w0 wr)) (fun i _ => 64 * m - (intOf i).toNat)
        case atStart => exact ⟨k, rfl, by omega, Nat.le_refl _, fun i h1 h2 => by omega, Below.refl _ _⟩
        case round =>
          obtain ⟨j, rfl, hj, hkj, HN, HBW⟩ := hrel
          obtain ⟨wo, rfl⟩ : ∃ wo : World, wo = wr := ⟨_, rfl⟩
          have f1 := cell_later HBW.out F1.out
          have f2 := cell_later HBW.out F2.out
          have HBo := Lib.hid (bthen HB.out HBW.out)
          by_cases hlt : j < 64 * m
          · have C51 := Lib.hid (HI.out wo HBo.out j (by omega) (by omega))
            have hj1 : (j : Int) < 64 * (m : Int) := by omega
            clear HI
            cases hbit : bitP b j with
            | true =>
              have E : Hid (okE b = 2) := by
                show _ = _
                unfold okE
                rw [if_neg]
                intro h
                have := OK.out.1 h j (by omega) hlt
                rw [hbit] at this
                cases this
              rw [hbit] at C51
              clear hbit OK HN hj F1 F2 hlt
              go_wp2_with (go_at_call 51; refine C51.out.mono ?_; rintro e w2 ⟨rfl, hb2⟩)
              go_ret
              rw [E.out]
              exact ⟨rfl, bthen HBo.out hb2⟩
            | false =>
              have HN2 : Hid (∀ i : Nat, k ≤ i → i < j + 1 → i < 64 * m → bitP b i = false) := by
                intro i h1 h2 h3
                rcases Nat.lt_succ_iff_lt_or_eq.1 h2 with h | rfl
                · exact HN.out i h1 h h3
                · exact hbit
              rw [hbit] at C51
              have hj2 : ((j + 1 : Nat) : Int) ≤ max (k : Int) (64 * (m : Int)) := by omega
              have HJ := Lib.hid hj2
              have HLT := Lib.hid hlt
              clear hbit OK HN hj hj2 F1 F2 hlt
              go_wp2_with (go_at_call 51; refine C51.out.mono ?_; rintro e w2 ⟨rfl, hb2⟩; have f3 := cell_later hb2 f1; have f4 := cell_later hb2 f2; have HB2 := Lib.hid (bthen HBW.out hb2); clear hb2 f1 f2)
              go_roundw
              case rel => exact ⟨j + 1, by go_num, HJ.out, by omega, HN2.out, HB2.out⟩
              case measure => have := HLT.out; simp [intOf]; omega
          · have E : Hid (okE b = 0) := by
              show _ = _
              unfold okE
              rw [if_pos]
              exact OK.out.2 fun i h1 h2 => HN.out i (by omega) (by omega) h2
            have hj1 : ¬ (j : Int) < 64 * (m : Int) := by omega
            clear HI OK HN hj F1 F2 hlt
            go_wp2
            go_ret
            rw [E.out]
            exact ⟨rfl, HBo.out⟩
      · have E := Lib.hid (okE_len h2)
        clear H hb
        unfold BitV.v
        simp only
        generalize b.w.length = m at *
        generalize b.n = n at *
        obtain ⟨k, rfl⟩ := Int.eq_ofNat_of_zero_le h0
        have q1 : ((m : Int) != ((k : Int) + 63) / 64) = true := by rw [bne_iff_ne]; omega
        have q2 : ¬ (k : Int) < 0 := by omega
        have q3 : ¬ 4096 < (k : Int) := by omega
        clear h2
        go_enter Tryd.func67, Tryd.ntmps67
        go_wp2
        go_ret
        rw [E.out]
        exact ⟨rfl, HB.out⟩
    · have E := Lib.hid (okE_big h1)
      have h1' : 4096 < b.n := by omega
      have h0' : ¬ b.n < 0 := by omega
      unfold BitV.v
      simp only
      clear H hb
      generalize b.n = n at *
      go_enter Tryd.func67, Tryd.ntmps67
      go_wp2
      go_ret
      rw [E.out]
      exact ⟨rfl, HB.out⟩
  · have E := Lib.hid (okE_neg h0)
    have h0' : b.n < 0 := by omega
    unfold BitV.v
    simp only
    clear H hb
    generalize b.n = n at *
    go_enter Tryd.func67, Tryd.ntmps67
    go_wp2
    go_ret
    rw [E.out]
    exact ⟨rfl, HB.out⟩
end Go.Proofs.YtchbbldanmmpjaaDoor
