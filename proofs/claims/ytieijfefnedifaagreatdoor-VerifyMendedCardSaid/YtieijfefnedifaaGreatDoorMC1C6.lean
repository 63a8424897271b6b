/- Shapes and sizes: the walks of head's and class's functions. -/
import Derived.Shelf.Small.Bits
import Derived.Sort.WalkA14
import Derived.Test.YtieijfefnedifaaGreatDoorMH1H3
import Derived.Test.YtieijfefnedifaaGreatDoorMB5
namespace Go.Proofs.YtieijfefnedifaaGreatDoor
open Go.RowKit Go.Sort
set_option linter.unusedVariables false
set_option linter.unusedSimpArgs false
def lays129_ren : Go.Shelf.Ren := ⟨fun | 129 => 62 | n => n, fun | 46 => 146 | 3 => 3 | 53 => 46 | 4 => 4 | 5 => 5 | 9 => 9 | n => n, fun | n => n⟩
theorem lays129 : Go.Proofs.Lays.n129 Tryz.prog lays129_ren := {
  mixed := by kernel_rfl
  f129 := Tryz.func62.trans (congrArg some (by kernel_rfl))
  t3 := Tryz.underlying3
  a3 := Tryz.isAgg3
  z3 := Tryz.sizeOf3
  v3 := Tryz.zeroValue3
  t4 := Tryz.underlying4
  a4 := Tryz.isAgg4
  z4 := Tryz.sizeOf4
  v4 := Tryz.zeroValue4
  t5 := Tryz.underlying5
  a5 := Tryz.isAgg5
  z5 := Tryz.sizeOf5
  v5 := Tryz.zeroValue5
  t9 := Tryz.underlying9
  a9 := Tryz.isAgg9
  z9 := Tryz.sizeOf9
  v9 := Tryz.zeroValue9
  t46 := Tryz.underlying146
  a46 := Tryz.isAgg146
  z46 := Tryz.sizeOf146
  v46 := Tryz.zeroValue146
  t53 := Tryz.underlying46
  a53 := Tryz.isAgg46
  z53 := Tryz.sizeOf46
  v53 := Tryz.zeroValue46 }
def lenN (x : Int) : Nat := Go.Sort.bitsLen x.toNat
theorem lenN_le (x : Int) (h : 0 ≤ x) (n : Nat) : lenN x ≤ n ↔ x < 2 ^ n := by
  unfold lenN Go.Sort.bitsLen
  obtain ⟨a, rfl⟩ := Int.eq_ofNat_of_zero_le h
  rw [Int.toNat_natCast]
  have e : ((a : Int) < 2 ^ n) ↔ a < 2 ^ n := by
    rw [show ((2 : Int) ^ n) = ((2 ^ n : Nat) : Int) from by simp]
    exact Int.ofNat_lt
  rw [e]
  by_cases h0 : a = 0
  · subst h0
    simp [Nat.pow_pos]
  · rw [if_neg h0]
    constructor
    · intro hl
      exact Nat.lt_of_lt_of_le Nat.lt_log2_self (Nat.pow_le_pow_right (by decide) hl)
    · intro hl
      exact (Nat.log2_lt h0).2 hl
theorem p64i : (2 : Int) ^ 64 = 18446744073709551616 := by decide
theorem p64n : (2 : Nat) ^ 64 = 18446744073709551616 := by decide
theorem lenN_64 (x : Int) (h : 0 ≤ x ∧ x < 18446744073709551616) : lenN x ≤ 64 := (lenN_le x h.1 64).2 (by rw [p64i]; exact h.2)
theorem len64 (x : Int) (w : World) (h : 0 ≤ x ∧ x < 18446744073709551616) : Calls Tryz.prog 62 #[.int .u64 x] w (Ret (.int .i64 (lenN x)) w) := by
  have hc := Any.bits_Len64 lays129 x w h.1 (by omega)
  have e1 : Lib.bitLen x.toNat = lenN x := by
    unfold lenN
    exact bitLen_eq _ (by rw [p64n]; omega)
  rw [e1] at hc
  refine hc.mono ?_
  rintro e w' ⟨rfl, rfl⟩
  exact ⟨rfl, Below.refl _ _⟩
theorem len96 (x : Int) (w : World) (h : 0 ≤ x ∧ x < 18446744073709551616) : Calls Tryz.prog 96 #[.int .u64 x] w (Ret (.int .i64 (lenN x)) w) := by
  have HC := Lib.hid (fun W => len64 x W h)
  clear h
  go_enter Tryz.func96, Tryz.ntmps96
  go_wp2_with (go_at_call 62; refine (HC.out _).mono ?_)
  rintro e w1 ⟨rfl, hb1⟩
  go_wp2
  go_ret
  exact ⟨rfl, hb1⟩
def shE (n m : Int) : Int := if shOk n m then 0 else 2
theorem hcheck (n m : Int) (w : World) (hm : 0 ≤ m ∧ m < 18446744073709551616) : Calls Tryz.prog 32 #[.agg #[.int .i64 n, .int .u64 m]] w (Ret (.int .i64 (shE n m)) w) := by
  have HC := Lib.hid (fun W => len64 m W hm)
  have hL := lenN_le m hm.1 n.toNat
  have h64 := lenN_64 m hm
  clear hm
  have HB0 : Hid (Below w.heap.size w (w.alloc (.cells #[.int .i64 n, .int .u64 m] 56))) := balloc (Below.refl _ _) _
  have F0 : Hid ((w.alloc (.cells #[.int .i64 n, .int .u64 m] 56)).cell? ⟨w.heap.size, 0, none⟩ = some (.int .i64 n)) := by show _ = _; go_simp
  have F1 : Hid ((w.alloc (.cells #[.int .i64 n, .int .u64 m] 56)).cell? ⟨w.heap.size, 1, none⟩ = some (.int .u64 m)) := by show _ = _; go_simp
  by_cases h0 : n < 0
  · have E : Hid (shE n m = 2) := by show _ = _; unfold shE shOk; rw [if_neg]; simp; omega
    clear hL
    go_enter Tryz.func32, Tryz.ntmps32
    go_wp2
    generalize w.alloc (.cells #[.int .i64 n, .int .u64 m] 56) = W1 at *
    refine region_up (by kernel_rfl) (by kernel_rfl) ?_
    iterate 4
      go_big_quiet_want
      apply Exists.intro
      refine ⟨fun W hW => ?_, ?_⟩
      · have g0 := cell_later hW F0.out
        have g1 := cell_later hW F1.out
        go_simp
        all_goals exact rfl
      simp only [Act.put, List.setIfInBounds_toArray, List.set_cons_succ, List.set_cons_zero]
      go_big_quiet_on
    iterate 3 go_big_quiet_skip
    iterate 2
      go_big_quiet_want
      apply Exists.intro
      refine ⟨fun W hW => ?_, ?_⟩
      · have g0 := cell_later hW F0.out
        have g1 := cell_later hW F1.out
        go_simp
        all_goals exact rfl
      simp only [Act.put, List.setIfInBounds_toArray, List.set_cons_succ, List.set_cons_zero]
      go_big_quiet_on
    iterate 6 go_big_quiet_skip
    go_big_quiet_want
    apply Exists.intro
    refine ⟨fun W hW => ?_, ?_⟩
    · have g0 := cell_later hW F0.out
      have g1 := cell_later hW F1.out
      go_simp
      all_goals exact rfl
    simp only [Act.put, List.setIfInBounds_toArray, List.set_cons_succ, List.set_cons_zero]
    go_big_quiet_on
    refine wpQuiet_nil ?_
    intro W hW
    go_wp2
    go_ret
    rw [E.out]
    exact ⟨rfl, bthen HB0.out hW⟩
  · have d0 : decide (n < 0) = false := decide_eq_false h0
    by_cases h1 : 48 < n
    · have E : Hid (shE n m = 2) := by show _ = _; unfold shE shOk; rw [if_neg]; simp; omega
      clear hL
      go_enter Tryz.func32, Tryz.ntmps32
      go_wp2
      generalize w.alloc (.cells #[.int .i64 n, .int .u64 m] 56) = W1 at *
      refine region_up (by kernel_rfl) (by kernel_rfl) ?_
      iterate 9
        go_big_quiet_want
        apply Exists.intro
        refine ⟨fun W hW => ?_, ?_⟩
        · have g0 := cell_later hW F0.out
          have g1 := cell_later hW F1.out
          go_simp
          all_goals exact rfl
        simp only [Act.put, List.setIfInBounds_toArray, List.set_cons_succ, List.set_cons_zero]
        go_big_quiet_on
      iterate 6 go_big_quiet_skip
      go_big_quiet_want
      apply Exists.intro
      refine ⟨fun W hW => ?_, ?_⟩
      · have g0 := cell_later hW F0.out
        have g1 := cell_later hW F1.out
        go_simp
        all_goals exact rfl
      simp only [Act.put, List.setIfInBounds_toArray, List.set_cons_succ, List.set_cons_zero]
      go_big_quiet_on
      refine wpQuiet_nil ?_
      intro W hW
      go_wp2
      go_ret
      rw [E.out]
      exact ⟨rfl, bthen HB0.out hW⟩
    · have d1 : decide (48 < n) = false := decide_eq_false h1
      by_cases h2 : n < (lenN m : Int)
      · have E : Hid (shE n m = 2) := by show _ = _; unfold shE shOk; rw [if_neg]; simp; omega
        clear hL
        go_enter Tryz.func32, Tryz.ntmps32
        go_wp2
        generalize w.alloc (.cells #[.int .i64 n, .int .u64 m] 56) = W1 at *
        refine region_up (by kernel_rfl) (by kernel_rfl) ?_
        iterate 11
          go_big_quiet_want
          apply Exists.intro
          refine ⟨fun W hW => ?_, ?_⟩
          · have g0 := cell_later hW F0.out
            have g1 := cell_later hW F1.out
            go_simp
            all_goals exact rfl
          simp only [Act.put, List.setIfInBounds_toArray, List.set_cons_succ, List.set_cons_zero]
          go_big_quiet_on
        go_big_quiet_want
        apply Exists.intro
        refine ⟨fun W hW => ?_, ?_⟩
        · have g0 := cell_later hW F0.out
          have g1 := cell_later hW F1.out
          go_simp
          exact call_up hW (HC.out W)
        simp only [Act.put, List.setIfInBounds_toArray, List.set_cons_succ, List.set_cons_zero]
        go_big_quiet_on
        iterate 4
          go_big_quiet_want
          apply Exists.intro
          refine ⟨fun W hW => ?_, ?_⟩
          · have g0 := cell_later hW F0.out
            have g1 := cell_later hW F1.out
            go_simp
            all_goals exact rfl
          simp only [Act.put, List.setIfInBounds_toArray, List.set_cons_succ, List.set_cons_zero]
          go_big_quiet_on
        refine wpQuiet_nil ?_
        intro W hW
        go_wp2
        go_ret
        rw [E.out]
        exact ⟨rfl, bthen HB0.out hW⟩
      · have E : Hid (shE n m = 0) := by show _ = _; unfold shE shOk; rw [if_pos]; simp; omega
        clear hL
        go_enter Tryz.func32, Tryz.ntmps32
        go_wp2
        generalize w.alloc (.cells #[.int .i64 n, .int .u64 m] 56) = W1 at *
        refine region_up (by kernel_rfl) (by kernel_rfl) ?_
        iterate 11
          go_big_quiet_want
          apply Exists.intro
          refine ⟨fun W hW => ?_, ?_⟩
          · have g0 := cell_later hW F0.out
            have g1 := cell_later hW F1.out
            go_simp
            all_goals exact rfl
          simp only [Act.put, List.setIfInBounds_toArray, List.set_cons_succ, List.set_cons_zero]
          go_big_quiet_on
        go_big_quiet_want
        apply Exists.intro
        refine ⟨fun W hW => ?_, ?_⟩
        · have g0 := cell_later hW F0.out
          have g1 := cell_later hW F1.out
          go_simp
          exact call_up hW (HC.out W)
        simp only [Act.put, List.setIfInBounds_toArray, List.set_cons_succ, List.set_cons_zero]
        go_big_quiet_on
        iterate 4
          go_big_quiet_want
          apply Exists.intro
          refine ⟨fun W hW => ?_, ?_⟩
          · have g0 := cell_later hW F0.out
            have g1 := cell_later hW F1.out
            go_simp
            all_goals exact rfl
          simp only [Act.put, List.setIfInBounds_toArray, List.set_cons_succ, List.set_cons_zero]
          go_big_quiet_on
        refine wpQuiet_nil ?_
        intro W hW
        go_wp2
        go_ret
        rw [E.out]
        exact ⟨rfl, bthen HB0.out hW⟩
/-! ### Sizes -/
theorem clsOf (n : Nat) (w : World) (h : n ≤ 48) : Calls Tryz.prog 63 #[.int .i64 ((n : Int) + 1)] w (Ret (.tuple #[.int .i64 (if 15 < n then -1 else max 0 ((lenN n : Int) - 1)), .int .i64 0]) w) := by
  have HC := Lib.hid (fun W => len96 (n : Int) W ⟨by omega, by omega⟩)
  have hl : lenN (n : Int) ≤ 64 := lenN_64 _ ⟨by omega, by omega⟩
  have q : (n : Int) + 1 - 1 = n := by omega
  by_cases h1 : 15 < n
  · rw [if_pos h1]
    go_enter Tryz.func63, Tryz.ntmps63
    go_wp2
    go_ret2
    exact ⟨rfl, Below.refl _ _⟩
  · rw [if_neg h1]
    go_enter Tryz.func63, Tryz.ntmps63
    go_wp2_with (go_at_call 96; refine (HC.out _).mono ?_)
    rintro e w1 ⟨rfl, hb1⟩
    go_wp2
    go_ret2
    exact ⟨rfl, hb1⟩
def clsZ (c : Int) : Int := if c = 0 then 2 else if c = 1 then 4 else if c = 2 then 8 else if c = 3 then 16 else 0
def clsE (c : Int) : Int := if 0 ≤ c ∧ c ≤ 3 then 0 else 1
theorem clsSize (c : Int) (w : World) (h : -1 ≤ c ∧ c ≤ 3) : Calls Tryz.prog 64 #[.int .i64 c] w (Ret (.tuple #[.int .i64 (clsZ c), .int .i64 (clsE c)]) w) := by
  have hc : c = -1 ∨ c = 0 ∨ c = 1 ∨ c = 2 ∨ c = 3 := by omega
  rcases hc with rfl | rfl | rfl | rfl | rfl
  · go_enter Tryz.func64, Tryz.ntmps64
    go_wp2
    go_ret2
    exact ⟨rfl, Below.refl _ _⟩
  all_goals
    go_enter Tryz.func64, Tryz.ntmps64
    go_wp2
    go_ret2
    exact ⟨rfl, balloc (Below.refl _ _) _⟩
theorem clsPages (n : Nat) (w : World) (h : n ≤ 48) : Calls Tryz.prog 65 #[.int .i64 ((n : Int) + 1)] w (Ret (.tuple #[.int .i64 (pageP n), .int .i64 0]) w) := by
  have HC := Lib.hid (fun W => clsOf n W h)
  have E : Hid (((n : Int) + 1 + 16 - 1) / 16 = pageP n) := by show _ = _; unfold pageP; congr 1; omega
  have HT : Hid (((n : Int) + 1 + 16 - 1).tdiv 16 = pageP n) := by show _ = _; rw [← E.out, Int.tdiv_eq_ediv_of_nonneg (by omega)]
  generalize (if 15 < n then (-1 : Int) else max 0 ((lenN n : Int) - 1)) = c at HC
  have hp : Hid (0 ≤ pageP n ∧ pageP n ≤ 4) := by show _ ∧ _; unfold pageP; omega
  go_enter Tryz.func65, Tryz.ntmps65
  go_wp2_with (go_at_call 63; refine (HC.out _).mono ?_)
  rintro e w1 ⟨rfl, hb1⟩
  go_wp2
  go_ret2
  first
  | (rw [HT.out]; exact ⟨rfl, hb1⟩)
  | (rw [E.out]; exact ⟨rfl, hb1⟩)
theorem sizeP_of (n : Nat) (h : n ≤ 48) : clsZ (if 15 < n then (-1 : Int) else max 0 ((lenN n : Int) - 1)) = sizeP n ∧ -1 ≤ (if 15 < n then (-1 : Int) else max 0 ((lenN n : Int) - 1)) ∧ (if 15 < n then (-1 : Int) else max 0 ((lenN n : Int) - 1)) ≤ 3 := by
  have key : ∀ n : Fin 49, clsZ (if 15 < n.val then (-1 : Int) else max 0 ((lenN n.val : Int) - 1)) = sizeP n.val ∧ -1 ≤ (if 15 < n.val then (-1 : Int) else max 0 ((lenN n.val : Int) - 1)) ∧ (if 15 < n.val then (-1 : Int) else max 0 ((lenN n.val : Int) - 1)) ≤ 3 := by decide +kernel
  exact key ⟨n, by omega⟩
theorem sizes33 (n : Nat) (w : World) (h : n ≤ 48) : Calls Tryz.prog 33 #[.int .i64 ((n : Int) + 1)] w (Ret (.tuple #[.int .i64 (sizeP n), .int .i64 (pageP n)]) w) := by
  have HO := Lib.hid (fun W => clsOf n W h)
  have HP := Lib.hid (fun W => clsPages n W h)
  obtain ⟨e1, e2, e3⟩ := sizeP_of n h
  generalize (if 15 < n then (-1 : Int) else max 0 ((lenN n : Int) - 1)) = c at HO e1 e2 e3
  have HS := Lib.hid (fun W => clsSize c W ⟨e2, e3⟩)
  rw [e1] at HS
  clear e1 e2 e3 h
  go_enter Tryz.func33, Tryz.ntmps33
  go_wp2_with (go_at_call 63; refine (HO.out _).mono ?_)
  rintro e w1 ⟨rfl, hb1⟩
  go_wp2_with (go_at_call 64; refine (HS.out _).mono ?_)
  rintro e w2 ⟨rfl, hb2⟩
  go_wp2_with (go_at_call 65; refine (HP.out _).mono ?_)
  rintro e w3 ⟨rfl, hb3⟩
  go_wp2
  go_ret2
  exact ⟨rfl, bthen (bthen hb1 hb2) hb3⟩
end Go.Proofs.YtieijfefnedifaaGreatDoor

/- The walk of bits.Fill. -/
namespace Go.Proofs.YtieijfefnedifaaGreatDoor
open Go.RowKit
set_option linter.unusedVariables false
set_option linter.unusedSimpArgs false

def KeepB (B : Nat) (W W' : World) : Prop := (∀ b o, b < B → W'.cell? ⟨b, o, none⟩ = W.cell? ⟨b, o, none⟩) ∧ (∀ b o, b < B → W'.frozen? ⟨b, o, none⟩ = W.frozen? ⟨b, o, none⟩) ∧ B ≤ W'.heap.size
theorem KeepB.refl {B : Nat} {W : World} (h : B ≤ W.heap.size) : KeepB B W W := ⟨fun _ _ _ => rfl, fun _ _ _ => rfl, h⟩
theorem KeepB.trans {B : Nat} {W W1 W2 : World} (h : KeepB B W W1) (k : KeepB B W1 W2) : KeepB B W W2 := ⟨fun b o hb => (k.1 b o hb).trans (h.1 b o hb), fun b o hb => (k.2.1 b o hb).trans (h.2.1 b o hb), k.2.2⟩
theorem KeepB.grown {B g : Nat} {W W1 : World} (hg : W.grownBy W1 (some g)) (hB : B ≤ W.heap.size) (h : B ≤ g) : KeepB B W W1 := gcellB hg hB h
theorem KeepB.below {B : Nat} {W W1 : World} (hb : Below W.heap.size W W1) (hB : B ≤ W.heap.size) : KeepB B W W1 := bcellB hb hB

theorem fill_lt {b : BitB} {f k : Nat} {t : Bool} (hl : f + k < 64 * b.w.length) : ∃ x, (fillW b.w f t k)[(f + k) / 64]? = some x ∧ setW (fillW b.w f t k) (f + k) t = (fillW b.w f t k).set ((f + k) / 64) (putW x ((f + k) % 64) t) := by
  have h : (f + k) / 64 < (fillW b.w f t k).length := by rw [fillW_len]; omega
  exact ⟨_, List.getElem?_eq_getElem h, by unfold setW; rw [List.getElem?_eq_getElem h]⟩
set_option maxRecDepth 100000 in
set_option maxHeartbeats 8000000 in
theorem fill80 (v : BitV) (b : BitB) (f n : Int) (t : Bool) (w : World) (h : RdB w v b) : Calls Tryz.prog 80 #[v.v, .int .i64 f, .int .i64 n, .bool t] w (RetBE (fillB b f n t) (fillE b f n) w) := by
  have CC : Hid (∀ W, Below w.heap.size w W → Calls Tryz.prog 91 #[v.v] W (Ret (.int .i64 (okE b)) W)) := fun W hW => check62 v b W (h.below hW)
  have CO : Hid (okB b = true → ∀ W, Below w.heap.size w W → Calls Tryz.prog 88 #[v.v] W (RetB b W)) := fun hk W hW => own37 v b W (h.below hW) (by have := okB_parts hk; omega)
  have hbn := h.n
  obtain ⟨nn, A, m, ca⟩ := v
  simp only at hbn
  subst hbn
  unfold BitV.v at CC CO ⊢
  simp only at CC CO ⊢
  clear h
  have HB0 : Hid (Below w.heap.size w ((w.alloc (.cells #[.int .i64 b.n, .slice A m ca] 26)).alloc (.cells #[.int .i64 0, .slice none 0 0] 26))) := balloc (balloc (Below.refl _ _) _) _
  by_cases hok : okB b = true
  · have CO := Lib.hid (CO.out hok)
    rw [okE_0 hok] at CC
    have hparts := okB_parts hok
    by_cases hin : fillIn b f n
    · have E2 : Hid (fillE b f n = 0) := by show _ = _; unfold fillE; rw [if_pos hok, if_pos hin]
      have hin' := hin
      obtain ⟨q0, q1, q2, q3⟩ := hin'
      obtain ⟨F, rfl⟩ := Int.eq_ofNat_of_zero_le q0
      obtain ⟨N, rfl⟩ := Int.eq_ofNat_of_zero_le q1
      have E1 : Hid (fillB b F N t = ⟨b.n, fillW b.w F t N⟩) := by show _ = _; unfold fillB; rw [if_pos hok, if_pos hin]; rfl
      have HNL : Hid (F + N ≤ 64 * b.w.length ∧ F + N ≤ 4096) := by show _ ∧ _; omega
      have d0 : ¬ (F : Int) < 0 := by omega
      have d1 : ¬ (N : Int) < 0 := by omega
      have d2 : ¬ b.n < (N : Int) := by omega
      have d3 : ¬ b.n - (N : Int) < (F : Int) := by omega
      clear hin hok
      go_enter Tryz.func80, Tryz.ntmps80
      go_wp2_with (go_at_call 91; refine (CC.out _ HB0.out).mono ?_)
      rintro e w1 ⟨rfl, hb1⟩
      obtain ⟨hc1, hf1, hs1⟩ := bcellB (B := w.heap.size + 2) hb1 (by simp)
      have HB1 := Lib.hid (bthen HB0.out hb1)
      clear hb1 CC
      go_wp2_with (go_at_call 88; refine (CO.out _ HB1.out).mono ?_)
      rintro e w2 ⟨⟨n2, A2, m2, c2⟩, rfl, hn2, hm2, hcap2, ho2, hb2⟩
      simp only at hn2 hm2 hcap2 ho2
      obtain ⟨hc2, hf2, hs2⟩ := bcellB hb2 hs1
      have HB2 := Lib.hid (bthen HB1.out hb2)
      subst hn2
      have HM2 := Lib.hid hm2
      have HC2 := Lib.hid hcap2
      have HG : Hid (∀ g, A2 = some ⟨g, 0, none⟩ → w.heap.size + 2 ≤ g ∧ g < w2.heap.size) := by
        intro g e
        subst e
        have hg1 := (ho2.lt g rfl)
        exact ⟨Nat.le_trans hs1 hg1.1, hg1.2⟩
      have HO2 : Hid (OwU w2 (w.heap.size + 2) (.slice A2 m2 c2) b.w) := ho2.mono hs1
      have z0 : w.heap.size < w2.heap.size := by omega
      have z1 : w.heap.size + 1 < w2.heap.size := by omega
      clear hb2 hm2 hcap2 ho2 CO q0 q1 q2 q3
      unfold BitV.v
      simp only
      have HO3 := Lib.hid (HO2.out.al (.cells #[.int .i64 b.n, .slice A2 m2 c2] 141))
      have HB3 := Lib.hid (balloc HB2.out (.cells #[.int .i64 b.n, .slice A2 m2 c2] 141))
      have K0 : Hid ((w2.alloc (.cells #[.int .i64 b.n, .slice A2 m2 c2] 141)).cell? ⟨w2.heap.size, 0, none⟩ = some (.int .i64 b.n)) := by show _ = _; go_simp
      have K1 : Hid ((w2.alloc (.cells #[.int .i64 b.n, .slice A2 m2 c2] 141)).cell? ⟨w2.heap.size, 1, none⟩ = some (.slice A2 m2 c2)) := by show _ = _; go_simp
      have HKP : Hid (KeepB (w.heap.size + 2) w2 (w2.alloc (.cells #[.int .i64 b.n, .slice A2 m2 c2] 141))) := KeepB.below (balloc (Below.refl _ _) _) (by omega)
      go_wp2
      obtain ⟨wo, hwo⟩ : ∃ wo : World, wo = w2.alloc (.cells #[.int .i64 b.n, .slice A2 m2 c2] 141) := ⟨_, rfl⟩
      rw [← hwo] at HO3 HB3 K0 K1 HKP ⊢
      have HZ : Hid (w2.heap.size < wo.heap.size) := by show _ < _; rw [hwo]; simp
      clear hwo
      go_loopw [48] (fun i wr => ∃ k : Nat, k ≤ N ∧ i = .int .i64 k ∧ Hid (OwU wr (w.heap.size + 2) (.slice A2 m2 c2) (fillW b.w F t k)) ∧ Hid (wr.cell? ⟨w2.heap.size, 0, none⟩ = some (.int .i64 b.n)) ∧ Hid (wr.cell? ⟨w2.heap.size, 1, none⟩ = some (.slice A2 m2 c2)) ∧ Hid (KeepB (w.heap.size + 2) w2 wr) ∧ Hid (w2.heap.size < wr.heap.size) ∧ Hid (Below w.heap.size w wr)) (fun i _ => N - (intOf i).toNat)
      case atStart => exact ⟨0, Nat.zero_le _, rfl, HO3.out, K0.out, K1.out, HKP.out, HZ.out, HB3.out⟩
      case round =>
        obtain ⟨k, hk, rfl, HOr, R0, R1, HKr, HZr, HBr⟩ := hrel
        clear K0 K1 HO3 HB3 HKP HZ
        by_cases hlt : k < N
        · obtain ⟨x, hx, hse⟩ := fill_lt (b := b) (f := F) (k := k) (t := t) (by have := HNL.out; omega)
          have HX := Lib.hid hx
          have HSE := Lib.hid hse
          obtain ⟨g, eg⟩ := own_form HOr.out (by have := HNL.out; rw [fillW_len]; omega)
          subst eg
          have HGG := Lib.hid (HG.out g rfl)
          have hfl : (fillW b.w F t k).length = m2 := by rw [fillW_len]; exact HM2.out.symm
          have C68 := Lib.hid (put68 w2.heap.size (w.heap.size + 2) g m2 c2 (F + k) (fillW b.w F t k) x t wr R1.out HOr.out hfl hx (by have := HNL.out; omega))
          have ec : (((F + k : Nat)) : Int) = (F : Int) + (k : Int) := by omega
          rw [ec] at C68
          have hwr : IntKind.i64.wrap ((F : Int) + (k : Int)) = (F : Int) + (k : Int) := wrap_in (by have := HNL.out; omega)
          clear hx hse hfl ec
          go_wp2_with (go_at_call 92; refine C68.out.mono ?_)
          rintro e w4 ⟨rfl, ho4, hg4⟩
          have HO4 : Hid (OwU w4 (w.heap.size + 2) (.slice (some ⟨g, 0, none⟩) m2 c2) (fillW b.w F t (k + 1))) := by
            show OwU _ _ _ _
            rw [fillW, HSE.out]
            exact ho4
          have HK4 := Lib.hid (HKr.out.trans (KeepB.grown hg4 HKr.out.2.2 HGG.out.1))
          have k0 := Lib.hid (gcell hg4 R0.out (by have := HGG.out.2; simp; omega))
          have k1 := Lib.hid (gcell hg4 R1.out (by have := HGG.out.2; simp; omega))
          have HZ4 : Hid (w2.heap.size < w4.heap.size) := by have h1 := hg4.size; have h2 := HZr.out; show _ < _; omega
          have HB4 := Lib.hid (bgrown HBr.out hg4 (fun k' hk' => by cases hk'; have := HGG.out.1; omega))
          clear ho4 hg4 R0 R1 HKr HZr
          go_wp2
          go_roundw
          case rel => exact ⟨k + 1, by omega, by go_num, HO4.out, k0.out, k1.out, HK4.out, HZ4.out, HB4.out⟩
          case measure => simp [intOf]; omega
        · obtain rfl : k = N := by omega
          obtain ⟨hc4, hf4, hs4⟩ := HKr.out
          have k0 := R0.out
          have k1 := R1.out
          have hz := HZr.out
          go_wp2
          refine bodyPost_ret (v := .tuple #[.agg #[.int .i64 b.n, .slice A2 m2 c2], .int .i64 0]) (by simp [results, Tryz.results80, go_sem, hc4, hc2, hc1, z0, z1]) rfl ?_
          rw [E1.out, E2.out]
          refine ⟨⟨b.n, A2, m2, c2⟩, rfl, rfl, ?_, HC2.out, ?_, ?_⟩
          · show m2 = (fillW _ _ _ _).length
            rw [fillW_len]
            exact HM2.out
          · refine OwU.mono (base := w.heap.size + 2) ?_ (by omega)
            repeat (refine OwU.set_lo ?_ (by simp) _)
            exact HOr.out
          · repeat (refine Below.setCell ?_ (by first | (simp; done) | (simp; omega)) _)
            exact HBr.out
    · have E2 : Hid (fillE b f n = 1) := by show _ = _; unfold fillE; rw [if_pos hok, if_neg hin]
      have E1 : Hid (fillB b f n t = b) := by show _ = _; unfold fillB; rw [if_pos hok, if_neg hin]
      have hi' : f < 0 ∨ (¬ f < 0 ∧ n < 0) ∨ (¬ f < 0 ∧ ¬ n < 0 ∧ b.n < n) ∨ (¬ f < 0 ∧ ¬ n < 0 ∧ ¬ b.n < n ∧ b.n - n < f) := by unfold fillIn at hin; omega
      clear hin hok
      rcases hi' with h | ⟨h0, h⟩ | ⟨h0, h1, h⟩ | ⟨h0, h1, h2, h⟩
      all_goals
        go_enter Tryz.func80, Tryz.ntmps80
        go_wp2_with (go_at_call 91; refine (CC.out _ HB0.out).mono ?_)
        rintro e w1 ⟨rfl, hb1⟩
        obtain ⟨hc1, hf1, hs1⟩ := bcellB (B := w.heap.size + 2) hb1 (by simp)
        have HB1 := Lib.hid (bthen HB0.out hb1)
        clear hb1 CC
        go_wp2_with (go_at_call 88; refine (CO.out _ HB1.out).mono ?_)
        rintro e w2 ⟨⟨n2, A2, m2, c2⟩, rfl, hn2, hm2, hcap2, ho2, hb2⟩
        simp only at hn2 hm2 hcap2 ho2
        obtain ⟨hc2, hf2, hs2⟩ := bcellB hb2 hs1
        have HB2 := Lib.hid (bthen HB1.out hb2)
        subst hn2
        have HM2 := Lib.hid hm2
        have HC2 := Lib.hid hcap2
        have HO2 : Hid (OwU w2 (w.heap.size + 2) (.slice A2 m2 c2) b.w) := ho2.mono hs1
        have z0 : w.heap.size < w2.heap.size := by omega
        have z1 : w.heap.size + 1 < w2.heap.size := by omega
        clear hb2 hm2 hcap2 ho2 CO
        unfold BitV.v
        simp only
        go_wp2
        refine bodyPost_ret (v := .tuple #[.agg #[.int .i64 b.n, .slice A2 m2 c2], .int .i64 1]) (by simp [results, Tryz.results80, go_sem, hc2, hc1, z0, z1]) rfl ?_
        rw [E1.out, E2.out]
        refine ⟨⟨b.n, A2, m2, c2⟩, rfl, rfl, HM2.out, HC2.out, ?_, ?_⟩
        · refine OwU.mono (base := w.heap.size + 2) ?_ (by omega)
          refine OwU.al ?_ _
          repeat (refine OwU.set_lo ?_ (by simp) _)
          exact HO2.out
        · refine balloc ?_ _
          repeat (refine Below.setCell ?_ (by first | (simp; done) | (simp; omega)) _)
          exact HB2.out
  · have hok' : okB b = false := by simpa using hok
    have E2 : Hid (fillE b f n = 2) := by show _ = _; unfold fillE; rw [if_neg hok]
    have E1 : Hid (fillB b f n t = ⟨0, []⟩) := by show _ = _; unfold fillB; rw [if_neg hok]
    rw [okE_2 hok'] at CC
    clear hok hok' CO
    go_enter Tryz.func80, Tryz.ntmps80
    go_wp2_with (go_at_call 91; refine (CC.out _ HB0.out).mono ?_)
    rintro e w1 ⟨rfl, hb1⟩
    obtain ⟨hc1, hf1, hs1⟩ := bcellB (B := w.heap.size + 2) hb1 (by simp)
    have HB1 := Lib.hid (bthen HB0.out hb1)
    clear hb1 CC
    go_wp2
    refine bodyPost_ret (v := .tuple #[.agg #[.int .i64 0, .slice none 0 0], .int .i64 2]) (by simp [results, Tryz.results80, go_sem, hc1]) rfl ?_
    rw [E1.out, E2.out]
    refine ⟨⟨0, none, 0, 0⟩, rfl, rfl, rfl, Nat.le_refl _, OwU.nil_ _ _, ?_⟩
    repeat (refine Below.setCell ?_ (by first | (simp; done) | (simp; omega)) _)
    exact HB1.out
end Go.Proofs.YtieijfefnedifaaGreatDoor

/- The walks of head.Pack, Unpack and Is, and of what arena and pages have that is short. -/
namespace Go.Proofs.YtieijfefnedifaaGreatDoor
open Go.RowKit
set_option linter.unusedVariables false
set_option linter.unusedSimpArgs false

theorem u64_wrap_ (n : Int) : IntKind.u64.wrap n = n % 18446744073709551616 := by simp [IntKind.wrap, IntKind.bits, IntKind.signed]
theorem u64_hk : ∀ n : Int, 0 ≤ n → n < 2 ^ 64 → IntKind.u64.wrap n = n := fun n h0 h1 => by
  rw [p64i] at h1
  simp [IntKind.wrap, IntKind.bits, IntKind.signed]
  omega
theorem and_255 (x : Int) (h : 0 ≤ x ∧ x < 18446744073709551616) : Go.bits .and .u64 x 255 = unN x := by
  have := bits_mask .u64 64 (by decide) u64_hk 8 (by decide) x h.1 (by rw [p64i]; exact h.2)
  exact this
theorem shl_shr (x : Int) (h : 0 ≤ x ∧ x < 18446744073709551616) : x * 256 % 18446744073709551616 / 65536 = unM x := by
  unfold unM
  omega
theorem or_pack (n m : Int) (h : shOk n m = true) (hm : 0 ≤ m) : IntKind.u64.wrap (m * 256) = m * 256 ∧ Go.bits .or .u64 11889503016258109440 (m * 256) = 11889503016258109440 + m * 256 ∧ Go.bits .or .u64 (11889503016258109440 + m * 256) n = packW n m ∧ 0 ≤ n ∧ n ≤ 48 := by
  unfold shOk at h
  simp only [Bool.and_eq_true, decide_eq_true_eq] at h
  obtain ⟨h0, h1, h2⟩ := h
  have hp : (2 : Int) ^ n.toNat ≤ 2 ^ 48 := by
    have : (2 : Nat) ^ n.toNat ≤ 2 ^ 48 := Nat.pow_le_pow_right (by decide) (by omega)
    exact_mod_cast this
  have e48 : (2 : Int) ^ 48 = 281474976710656 := by decide
  have e56 : (2 : Int) ^ 56 = 72057594037927936 := by decide
  have e8 : (2 : Int) ^ 8 = 256 := by decide
  rw [e48] at hp
  refine ⟨by rw [u64_wrap_]; omega, ?_, ?_, h0, h1⟩
  · exact bits_join .u64 64 (by decide) u64_hk 56 _ _ (by omega) (by rw [e56]; decide) (by rw [p64i]; omega) (by omega) (by rw [e56]; omega) (by rw [p64i]; omega)
  · unfold packW
    exact bits_join .u64 64 (by decide) u64_hk 8 _ _ (by omega) (by rw [e8]; omega) (by rw [p64i]; omega) h0 (by rw [e8]; omega) (by rw [p64i]; omega)
theorem pack73 (n m : Int) (w : World) (h : shOk n m = true) (hm : 0 ≤ m ∧ m < 18446744073709551616) : Calls Tryz.prog 73 #[.agg #[.int .i64 n, .int .u64 m]] w (Ret (.tuple #[.int .u64 (packW n m), .int .i64 0]) w) := by
  have HC : Hid (∀ W, Calls Tryz.prog 32 #[.agg #[.int .i64 n, .int .u64 m]] W (Ret (.int .i64 0) W)) := fun W => by
    have := hcheck n m W hm
    rwa [show shE n m = 0 from by unfold shE; rw [if_pos h]] at this
  obtain ⟨e1, e2, e3, h0, h1⟩ := or_pack n m h hm.1
  have E1 := Lib.hid e1
  have E2 := Lib.hid e2
  have E3 := Lib.hid e3
  have HB0 : Hid (Below w.heap.size w (w.alloc (.cells #[.int .i64 n, .int .u64 m] 56))) := balloc (Below.refl _ _) _
  clear h hm e1 e2 e3
  go_enter Tryz.func73, Tryz.ntmps73
  go_wp2_with (go_at_call 32; refine (HC.out _).mono ?_)
  rintro e w1 ⟨rfl, hb1⟩
  obtain ⟨hc1, hf1, hs1⟩ := bcellB (B := w.heap.size + 1) hb1 (by simp)
  have HB1 := Lib.hid (bthen HB0.out hb1)
  clear hb1
  go_wp2
  go_ret2
  rw [E1.out, E2.out, E3.out]
  exact ⟨rfl, HB1.out⟩
def unpN (x : Int) : Int := if unOk x then unN x else 0
def unpM (x : Int) : Int := if unOk x then unM x else 0
def unpE (x : Int) : Int := if unOk x then 0 else 2
set_option maxRecDepth 100000 in
set_option maxHeartbeats 8000000 in
theorem unpack76 (x : Int) (w : World) (h : 0 ≤ x ∧ x < 18446744073709551616) : Calls Tryz.prog 76 #[.int .u64 x] w (Ret (.tuple #[.agg #[.int .i64 (unpN x), .int .u64 (unpM x)], .int .i64 (unpE x)]) w) := by
  have hr : 0 ≤ unN x ∧ unN x < 256 ∧ 0 ≤ unM x ∧ unM x < 281474976710656 := by unfold unN unM; omega
  have eN : wrap64 (Go.bits .and .u64 x 255) = unN x := by
    rw [and_255 x h]
    have : ∀ y : Int, 0 ≤ y → y < 256 → wrap64 y = y := by intro y a b; unfold wrap64; omega
    exact this _ hr.1 hr.2.1
  have eM : IntKind.u64.wrap (x * 256) / 65536 = unM x := by rw [u64_wrap_]; exact shl_shr x h
  have EN := Lib.hid eN
  have EM := Lib.hid eM
  have HC := Lib.hid (fun W => hcheck (unN x) (unM x) W ⟨by omega, by omega⟩)
  have EO : Hid (unOk x = (decide (x / 72057594037927936 = 165) && shOk (unN x) (unM x))) := rfl
  have HB0 : Hid (Below w.heap.size w ((w.alloc (.cells #[.int .i64 0, .int .u64 0] 56)).alloc (.cells #[.int .i64 (wrap64 (Go.bits .and .u64 x 255)), .int .u64 (IntKind.u64.wrap (x * 256) / 65536)] 56))) := balloc (balloc (Below.refl _ _) _) _
  clear eN eM hr h
  by_cases hsg : x / 72057594037927936 = 165
  · have d0 : (x / 72057594037927936 != 165) = false := by simp [hsg]
    by_cases hok : shOk (unN x) (unM x) = true
    · have E1 : Hid (unOk x = true) := by show _ = _; rw [EO.out, hok]; simp [hsg]
      have HC : Hid (∀ W, Calls Tryz.prog 32 #[.agg #[.int .i64 (wrap64 (Go.bits .and .u64 x 255)), .int .u64 (IntKind.u64.wrap (x * 256) / 65536)]] W (Ret (.int .i64 0) W)) := fun W => by
        have := HC.out W
        rw [show shE (unN x) (unM x) = 0 from by unfold shE; rw [if_pos hok]] at this
        rwa [EN.out, EM.out]
      clear hsg hok
      go_enter Tryz.func76, Tryz.ntmps76
      go_wp2_with (go_at_call 32; refine (HC.out _).mono ?_)
      rintro e w1 ⟨rfl, hb1⟩
      obtain ⟨hc1, hf1, hs1⟩ := bcellB (B := w.heap.size + 2) hb1 (by simp)
      have HB1 := Lib.hid (bthen HB0.out hb1)
      clear hb1
      go_wp2
      refine bodyPost_ret (v := .tuple #[.agg #[.int .i64 (wrap64 (Go.bits .and .u64 x 255)), .int .u64 (IntKind.u64.wrap (x * 256) / 65536)], .int .i64 0]) (by simp [results, Tryz.results76, go_sem, hc1]) rfl ?_
      unfold unpN unpM unpE
      rw [E1.out, EN.out, EM.out]
      refine ⟨rfl, ?_⟩
      repeat (refine Below.setCell ?_ (by first | (simp; done) | (simp; omega)) _)
      exact HB1.out
    · have E1 : Hid (unOk x = false) := by show _ = _; rw [EO.out]; simp [hok]
      have HC : Hid (∀ W, Calls Tryz.prog 32 #[.agg #[.int .i64 (wrap64 (Go.bits .and .u64 x 255)), .int .u64 (IntKind.u64.wrap (x * 256) / 65536)]] W (Ret (.int .i64 2) W)) := fun W => by
        have := HC.out W
        rw [show shE (unN x) (unM x) = 2 from by unfold shE; rw [if_neg hok]] at this
        rwa [EN.out, EM.out]
      clear hsg hok
      go_enter Tryz.func76, Tryz.ntmps76
      go_wp2_with (go_at_call 32; refine (HC.out _).mono ?_)
      rintro e w1 ⟨rfl, hb1⟩
      obtain ⟨hc1, hf1, hs1⟩ := bcellB (B := w.heap.size + 2) hb1 (by simp)
      have HB1 := Lib.hid (bthen HB0.out hb1)
      clear hb1
      go_wp2
      refine bodyPost_ret (v := .tuple #[.agg #[.int .i64 0, .int .u64 0], .int .i64 2]) (by simp [results, Tryz.results76, go_sem, hc1]) rfl ?_
      unfold unpN unpM unpE
      rw [E1.out]
      refine ⟨rfl, ?_⟩
      repeat (refine Below.setCell ?_ (by first | (simp; done) | (simp; omega)) _)
      exact HB1.out
  · have E1 : Hid (unOk x = false) := by show _ = _; rw [EO.out]; simp [hsg]
    have d0 : (x / 72057594037927936 != 165) = true := by simp [hsg]
    clear HC hsg
    go_enter Tryz.func76, Tryz.ntmps76
    go_wp2
    refine bodyPost_ret (v := .tuple #[.agg #[.int .i64 0, .int .u64 0], .int .i64 2]) (by simp [results, Tryz.results76, go_sem, Nat.add_zero]) rfl ?_
    unfold unpN unpM unpE
    rw [E1.out]
    refine ⟨rfl, ?_⟩
    repeat (refine Below.setCell ?_ (by first | (simp; done) | (simp; omega)) _)
    exact HB0.out
theorem mbit_is (n m : Int) (f : Nat) (w : World) (hm : 0 ≤ m ∧ m < 18446744073709551616) (hf : f ≤ 64) : Calls Tryz.prog 78 #[.agg #[.int .i64 n, .int .u64 m], .int .i64 f] w (Ret (.bool (mbit m f)) w) := by
  have h1 := shr_lt m hm f
  have E : Hid ((m / 2 ^ f % 2 == 1) = mbit m f) := tb m hm.1 f
  have A1 := Lib.hid (and_one_u64 _ h1.1 (by omega))
  go_enter Tryz.func78, Tryz.ntmps78
  go_wp2
  go_ret
  rw [A1.out, E.out]
  exact ⟨rfl, balloc (Below.refl _ _) _⟩
end Go.Proofs.YtieijfefnedifaaGreatDoor

/- The walks of arena's and pages' short functions. -/
namespace Go.Proofs.YtieijfefnedifaaGreatDoor
open Go.RowKit
set_option linter.unusedVariables false
set_option linter.unusedSimpArgs false

def RetA (l : List Int) (w : World) (e : Ending) (w' : World) : Prop := ∃ A c, e = .returned (.agg #[.slice A l.length c]) ∧ l.length ≤ c ∧ OwU w' w.heap.size (.slice A l.length c) l ∧ Below w.heap.size w w'
def RetAE (l : List Int) (x : Int) (w : World) (e : Ending) (w' : World) : Prop := ∃ A c, e = .returned (.tuple #[.agg #[.slice A l.length c], .int .i64 x]) ∧ l.length ≤ c ∧ OwU w' w.heap.size (.slice A l.length c) l ∧ Below w.heap.size w w'
def arE (n : Nat) : Int := if n ≤ 16384 then 0 else 2
theorem archeck (A : Option Addr) (n c : Nat) (w : World) : Calls Tryz.prog 74 #[.agg #[.slice A n c]] w (Ret (.int .i64 (arE n)) w) := by
  by_cases h : n ≤ 16384
  · have E : Hid (arE n = 0) := by show _ = _; unfold arE; rw [if_pos h]
    have q : ¬ (16384 : Int) < (n : Int) := by omega
    go_enter Tryz.func74, Tryz.ntmps74
    go_wp2
    go_ret
    rw [E.out]
    exact ⟨rfl, balloc (Below.refl _ _) _⟩
  · have E : Hid (arE n = 2) := by show _ = _; unfold arE; rw [if_neg h]
    have q : (16384 : Int) < (n : Int) := by omega
    go_enter Tryz.func74, Tryz.ntmps74
    go_wp2
    go_ret
    rw [E.out]
    exact ⟨rfl, balloc (Below.refl _ _) _⟩
set_option maxRecDepth 100000 in
set_option maxHeartbeats 8000000 in
theorem arown (l : List Int) (A : Option Addr) (c : Nat) (w : World) (h : RdU w A l) (hb : l.length * 8 ≤ 140737488355328) : Calls Tryz.prog 46 #[.agg #[.slice A l.length c]] w (RetA l w) := by
  have HC : Hid (∀ W, Below w.heap.size w W → Calls Tryz.prog 87 #[.slice A l.length c] W (RetU l W)) := fun W hW => clone64 l A c W (h.below hW) hb
  have HB0 : Hid (Below w.heap.size w ((w.alloc (.cells #[.slice A l.length c] 24)).alloc (.cells #[.slice none 0 0] 24))) := balloc (balloc (Below.refl _ _) _) _
  clear h hb
  go_enter Tryz.func46, Tryz.ntmps46
  go_wp2_with (go_at_call 87; refine (HC.out _ HB0.out).mono ?_)
  rintro e w1 ⟨v1, rfl, ho1, hb1⟩
  obtain ⟨A1, c1, rfl, hc, hr⟩ := ho1.shape
  obtain ⟨hc1, hf1, hs1⟩ := bcellB (B := w.heap.size + 2) hb1 (by simp)
  have HB1 := Lib.hid (bthen HB0.out hb1)
  have HO1 : Hid (OwU w1 (w.heap.size + 2) (.slice A1 l.length c1) l) := ho1.mono (by simp)
  have HCC := Lib.hid hc
  have z0 : w.heap.size < w1.heap.size := by omega
  have z1 : w.heap.size + 1 < w1.heap.size := by omega
  clear hb1 ho1 hc hr
  go_wp2
  refine bodyPost_ret (v := .agg #[.slice A1 l.length c1]) (by simp [results, Tryz.results46, go_sem, hc1, z0, z1]) rfl ?_
  refine ⟨A1, c1, rfl, HCC.out, ?_, ?_⟩
  · refine OwU.mono (base := w.heap.size + 2) ?_ (by omega)
    repeat (refine OwU.set_lo ?_ (by simp) _)
    exact HO1.out
  · repeat (refine Below.setCell ?_ (by first | (simp; done) | (simp; omega)) _)
    exact HB1.out
def makeAok (n : Int) : Prop := 0 ≤ n ∧ n ≤ 16384
instance (n : Int) : Decidable (makeAok n) := by unfold makeAok; infer_instance
def makeAL (n : Int) : List Int := if makeAok n then List.replicate n.toNat 0 else []
def makeAE (n : Int) : Int := if makeAok n then 0 else 1
set_option maxRecDepth 100000 in
set_option maxHeartbeats 8000000 in
theorem armake (n : Int) (w : World) : Calls Tryz.prog 28 #[.int .i64 n] w (RetAE (makeAL n) (makeAE n) w) := by
  by_cases h : makeAok n
  · have EB : Hid (makeAL n = List.replicate n.toNat 0) := by show _ = _; simp [makeAL, h]
    have EE : Hid (makeAE n = 0) := by show _ = _; simp [makeAE, h]
    obtain ⟨h0, h1⟩ := h
    obtain ⟨k, rfl⟩ := Int.eq_ofNat_of_zero_le h0
    have q2 : ¬ (k : Int) < 0 := by omega
    have q3 : ¬ 16384 < (k : Int) := by omega
    have Q6 : Hid (8 * k ≤ 281474976710656) := by show _ ≤ _; omega
    have Q7 : Hid (k ≤ maxLen) := by show _ ≤ _; unfold maxLen; omega
    obtain ⟨i0, hi, hz0, hz1, hz2⟩ := info_parts info33
    have HZ0 := Lib.hid hz0
    have HZ1 := Lib.hid hz1
    have HZ2 := Lib.hid hz2
    have HI := Lib.hid hi
    clear hz0 hz1 hz2 hi
    go_enter Tryz.func28, Tryz.ntmps28
    go_wp2_with (at_make; refine wpList_make_full _ rfl (.tmp 11) (.tmp 11) 22 rfl (w.heap.size + 1) 46 i0 (.int .u64 0) 1 Tryz.underlying22 HI.out HZ0.out HZ1.out .i64 .i64 _ _ k rfl rfl ?c1 ?c2 ?c3 ?c4 ?c5 ?_)
    try (case c1 => omega)
    try (case c2 => omega)
    case c3 => rw [HZ2.out]; exact Q6.out
    case c4 => exact Q7.out
    intro w' ho hg
    have hs : (w.alloc (.cells #[.slice none 0 0] 24)).heap.size = w.heap.size + 1 := by simp
    have hB : Below w.heap.size w (w.alloc (.cells #[.slice none 0 0] 24)) := balloc (Below.refl _ _) _
    have HB := Lib.hid (bgrown hB hg (by simp))
    obtain ⟨hc, hf⟩ := bcell (bgrown (Below.refl _ _) hg (by simp))
    rw [hs] at hc hf
    have HO : Hid (OwU w' (w.heap.size + 1) (.slice (some ⟨w.heap.size + 1, 0, none⟩) k k) (List.replicate k 0)) := by
      show OwU _ _ _ _
      unfold OwU
      rw [List.length_replicate, ← made_us, Nat.mul_one]
      exact ho
    clear ho hg hB hs
    go_wp2
    refine bodyPost_ret (v := .tuple #[.agg #[.slice (some ⟨w.heap.size + 1, 0, none⟩) k k], .int .i64 0]) (by simp [results, Tryz.results28, go_sem, hc]) rfl ?_
    rw [EB.out, EE.out, Int.toNat_natCast]
    refine ⟨some ⟨w.heap.size + 1, 0, none⟩, k, by rw [List.length_replicate], by rw [List.length_replicate]; exact Nat.le_refl _, ?_, ?_⟩
    · rw [List.length_replicate]
      refine OwU.mono (base := w.heap.size + 1) ?_ (by omega)
      repeat (refine OwU.set_lo ?_ (by simp) _)
      exact HO.out
    · repeat (refine Below.setCell ?_ (by simp) _)
      exact HB.out
  · have EB : Hid (makeAL n = []) := by show _ = _; simp [makeAL, h]
    have EE : Hid (makeAE n = 1) := by show _ = _; simp [makeAE, h]
    have hc : n < 0 ∨ (¬ n < 0 ∧ 16384 < n) := by unfold makeAok at h; omega
    clear h
    rcases hc with h | ⟨h0, h⟩
    all_goals
      go_enter Tryz.func28, Tryz.ntmps28
      go_wp2
      refine bodyPost_ret (v := .tuple #[.agg #[.slice none 0 0], .int .i64 1]) (by simp [results, Tryz.results28, go_sem]) rfl ?_
      rw [EB.out, EE.out]
      exact ⟨none, 0, rfl, Nat.le_refl _, OwU.nil_ _ _, balloc (Below.refl _ _) _⟩
theorem pgcheck (v : BitV) (b : BitB) (w : World) (h : RdB w v b) : Calls Tryz.prog 59 #[v.v] w (Ret (.int .i64 (okE b)) w) := by
  have HC : Hid (∀ W, Below w.heap.size w W → Calls Tryz.prog 91 #[v.v] W (Ret (.int .i64 (okE b)) W)) := fun W hW => check62 v b W (h.below hW)
  clear h
  obtain ⟨n, A, m, c⟩ := v
  unfold BitV.v at HC ⊢
  simp only at HC ⊢
  have HB0 : Hid (Below w.heap.size w (w.alloc (.cells #[.int .i64 n, .slice A m c] 28))) := balloc (Below.refl _ _) _
  go_enter Tryz.func59, Tryz.ntmps59
  go_wp2_with (go_at_call 91; refine (HC.out _ HB0.out).mono ?_)
  rintro e w1 ⟨rfl, hb1⟩
  have HB1 := Lib.hid (bthen HB0.out hb1)
  go_wp2
  go_ret
  exact ⟨rfl, HB1.out⟩
set_option maxRecDepth 100000 in
set_option maxHeartbeats 8000000 in
theorem pgown (v : BitV) (b : BitB) (w : World) (h : RdB w v b) (hb : b.w.length * 8 ≤ 140737488355328) : Calls Tryz.prog 47 #[v.v] w (RetB b w) := by
  have HC : Hid (∀ W, Below w.heap.size w W → Calls Tryz.prog 88 #[v.v] W (RetB b W)) := fun W hW => own37 v b W (h.below hW) hb
  clear h
  obtain ⟨n, A, m, c⟩ := v
  unfold BitV.v at HC ⊢
  simp only at HC ⊢
  have HB0 : Hid (Below w.heap.size w ((w.alloc (.cells #[.int .i64 n, .slice A m c] 28)).alloc (.cells #[.int .i64 0, .slice none 0 0] 28))) := balloc (balloc (Below.refl _ _) _) _
  go_enter Tryz.func47, Tryz.ntmps47
  go_wp2_with (go_at_call 88; refine (HC.out _ HB0.out).mono ?_)
  rintro e w1 ⟨⟨n2, A2, m2, c2⟩, rfl, hn2, hm2, hcap2, ho2, hb1⟩
  simp only at hn2 hm2 hcap2 ho2
  obtain ⟨hc1, hf1, hs1⟩ := bcellB (B := w.heap.size + 2) hb1 (by simp)
  have HB1 := Lib.hid (bthen HB0.out hb1)
  have HO1 : Hid (OwU w1 (w.heap.size + 2) (.slice A2 m2 c2) b.w) := ho2.mono (by simp)
  have HM := Lib.hid hm2
  have HN := Lib.hid hn2
  have HCC := Lib.hid hcap2
  have z0 : w.heap.size < w1.heap.size := by omega
  have z1 : w.heap.size + 1 < w1.heap.size := by omega
  clear hb1 ho2 hm2 hn2 hcap2
  unfold BitV.v
  simp only
  go_wp2
  refine bodyPost_ret (v := .agg #[.int .i64 n2, .slice A2 m2 c2]) (by simp [results, Tryz.results47, go_sem, hc1, z0, z1]) rfl ?_
  refine ⟨⟨n2, A2, m2, c2⟩, rfl, HN.out, HM.out, HCC.out, ?_, ?_⟩
  · refine OwU.mono (base := w.heap.size + 2) ?_ (by omega)
    repeat (refine OwU.set_lo ?_ (by simp) _)
    exact HO1.out
  · repeat (refine Below.setCell ?_ (by first | (simp; done) | (simp; omega)) _)
    exact HB1.out
set_option maxRecDepth 100000 in
set_option maxHeartbeats 8000000 in
theorem pgmake (n : Int) (w : World) : Calls Tryz.prog 29 #[.int .i64 n] w (RetBE (makeB n) (makeE n) w) := by
  have HC : Hid (∀ W, Calls Tryz.prog 58 #[.int .i64 n] W (RetBE (makeB n) (makeE n) W)) := fun W => make35 n W
  have HB0 : Hid (Below w.heap.size w (w.alloc (.cells #[.int .i64 0, .slice none 0 0] 28))) := balloc (Below.refl _ _) _
  go_enter Tryz.func29, Tryz.ntmps29
  go_wp2_with (go_at_call 58; refine (HC.out _).mono ?_)
  rintro e w1 ⟨⟨n2, A2, m2, c2⟩, rfl, hn2, hm2, hcap2, ho2, hb1⟩
  simp only at hn2 hm2 hcap2 ho2
  obtain ⟨hc1, hf1, hs1⟩ := bcellB (B := w.heap.size + 1) hb1 (by simp)
  have HB1 := Lib.hid (bthen HB0.out hb1)
  have HO1 : Hid (OwU w1 (w.heap.size + 1) (.slice A2 m2 c2) (makeB n).w) := ho2.mono (by simp)
  have HM := Lib.hid hm2
  have HN := Lib.hid hn2
  have HCC := Lib.hid hcap2
  have z0 : w.heap.size < w1.heap.size := by omega
  clear hb1 ho2 hm2 hn2 hcap2
  unfold BitV.v
  simp only
  go_wp2
  refine bodyPost_ret (v := .tuple #[.agg #[.int .i64 n2, .slice A2 m2 c2], .int .i64 (makeE n)]) (by simp [results, Tryz.results29, go_sem, hc1, z0]) rfl ?_
  refine ⟨⟨n2, A2, m2, c2⟩, rfl, HN.out, HM.out, HCC.out, ?_, ?_⟩
  · refine OwU.mono (base := w.heap.size + 1) ?_ (by omega)
    refine OwU.al ?_ _
    repeat (refine OwU.set_lo ?_ (by simp) _)
    exact HO1.out
  · refine balloc ?_ _
    repeat (refine Below.setCell ?_ (by first | (simp; done) | (simp; omega)) _)
    exact HB1.out
end Go.Proofs.YtieijfefnedifaaGreatDoor

/- Runs of bits: bits.Run; pages.set and Take. -/
namespace Go.Proofs.YtieijfefnedifaaGreatDoor
open Go.RowKit
set_option linter.unusedVariables false
set_option linter.unusedSimpArgs false

theorem KeepB.ofB {B k : Nat} {W W1 : World} (hb : Below k W W1) (hB : B ≤ k) (hk : k ≤ W.heap.size) : KeepB B W W1 :=
  ⟨fun b o h => hb.cell (p := ⟨b, o, none⟩) (show b < k by omega), fun b o h => hb.frozen (p := ⟨b, o, none⟩) (show b < k by omega), by have := hb.size; omega⟩
theorem firstN_in (b : BitB) {f : Nat} (t : Bool) (hf : f ≤ b.n.toNat) : f ≤ firstN b f t ∧ firstN b f t ≤ b.n.toNat ∧ (firstN b f t < b.n.toNat → bitP b (firstN b f t) = t) := by
  unfold firstN
  cases h : (List.range' f (b.n.toNat - f)).find? (fun i => bitP b i == t) with
  | none => simp; omega
  | some p =>
    rw [List.find?_range'_eq_some] at h
    obtain ⟨h1, h2, _⟩ := h
    rw [List.mem_range'_1] at h2
    simp only [Option.getD_some]
    exact ⟨by omega, by omega, fun _ => by simpa using h1⟩
theorem firstN_more (b : BitB) {f : Nat} {t : Bool} (hf : f < b.n.toNat) (h : bitP b f ≠ t) : f < firstN b f t := by
  have h1 := firstN_in b t (Nat.le_of_lt hf)
  have : firstN b f t ≠ f := by
    intro e
    have := h1.2.2 (by omega)
    rw [e] at this
    exact h this
  omega
def runGo (b : BitB) (n : Nat) : Nat → Nat → Option Nat
  | 0, _ => none
  | k + 1, a => if a < b.n.toNat then (if n + a ≤ firstN b a true then some a else runGo b n k (firstN b (firstN b a true) false)) else none
def runO (b : BitB) (n : Int) : Option Nat := runGo b n.toNat (b.n.toNat + 1) (firstN b 0 false)
def runE (b : BitB) (n : Int) : Int := if okB b = true then (if n < 1 then 1 else match runO b n with | some _ => 0 | none => 3) else 2
def runI (b : BitB) (n : Int) : Int := if okB b = true then (if n < 1 then 0 else match runO b n with | some a => (a : Int) | none => 0) else 0
theorem runGo_fit {b : BitB} {n : Nat} : ∀ {k a x : Nat}, runGo b n k a = some x → n + x ≤ b.n.toNat := by
  intro k
  induction k with
  | zero => intro a x h; simp [runGo] at h
  | succ k ih =>
    intro a x h
    rw [runGo] at h
    split at h
    · split at h
      · have e := Option.some.inj h
        subst e
        have := (firstN_in b true (f := a) (by omega)).2.1
        omega
      · exact ih h
    · cases h
set_option maxRecDepth 100000 in
set_option maxHeartbeats 8000000 in
theorem run60 (v : BitV) (b : BitB) (n : Int) (w : World) (h : RdB w v b) (hT : Tab w) : Calls Tryz.prog 60 #[v.v, .int .i64 n] w (Ret (.tuple #[.int .i64 (runI b n), .int .i64 (runE b n)]) w) := by
  have CC : Hid (∀ W, Below w.heap.size w W → Calls Tryz.prog 91 #[v.v] W (Ret (.int .i64 (okE b)) W)) := fun W hW => check62 v b W (h.below hW)
  have hbn := h.n
  have hm := h.m
  have HW := Lib.hid h.words
  have HR := Lib.hid h.row
  have HT := Lib.hid hT
  obtain ⟨nn, A, m, ca⟩ := v
  simp only at hbn hm HR
  subst hbn
  unfold BitV.v at CC ⊢
  simp only at CC ⊢
  clear h hT
  have HB0 : Hid (Below w.heap.size w (w.alloc (.cells #[.int .i64 b.n, .slice A m ca] 26))) := balloc (Below.refl _ _) _
  by_cases hok : okB b = true
  · rw [okE_0 hok] at CC
    have hparts := okB_parts hok
    by_cases h1 : n < 1
    · have E1 : Hid (runI b n = 0) := by show _ = _; unfold runI; rw [if_pos hok, if_pos h1]
      have E2 : Hid (runE b n = 1) := by show _ = _; unfold runE; rw [if_pos hok, if_pos h1]
      clear hok hparts hm
      go_enter Tryz.func60, Tryz.ntmps60
      go_wp2_with (go_at_call 91; refine (CC.out _ HB0.out).mono ?_)
      rintro e w1 ⟨rfl, hb1⟩
      have HB1 := Lib.hid (bthen HB0.out hb1)
      clear hb1 CC
      go_wp2
      go_ret2
      rw [E1.out, E2.out]
      exact ⟨rfl, HB1.out⟩
    · obtain ⟨K, rfl⟩ := Int.eq_ofNat_of_zero_le (show 0 ≤ n by omega)
      have EI : Hid (∀ o : Option Nat, runO b K = o → runI b K = (match o with | some a => (a : Int) | none => 0)) := by intro o ho; unfold runI; rw [if_pos hok, if_neg h1, ho]
      have EE : Hid (∀ o : Option Nat, runO b K = o → runE b K = (match o with | some _ => 0 | none => 3)) := by intro o ho; unfold runE; rw [if_pos hok, if_neg h1, ho]
      have EO : Hid (runO b K = runGo b K (b.n.toNat + 1) (firstN b 0 false)) := rfl
      obtain ⟨N, hN⟩ := Int.eq_ofNat_of_zero_le hparts.1
      have HN : Hid (b.n.toNat = N ∧ b.n = (N : Int) ∧ N ≤ 4096) := ⟨by omega, hN, by omega⟩
      have C70 : Hid (∀ (k : Nat) (f : Nat) (t : Bool) (W : World), Below w.heap.size w W → W.cell? ⟨k, 0, none⟩ = some (.int .i64 b.n) → W.cell? ⟨k, 1, none⟩ = some (.slice A m ca) → f ≤ N → Calls Tryz.prog 95 #[.pointer (some ⟨k, 0, none⟩), .int .i64 f, .bool t] W (Ret (.int .i64 (firstN b f t)) W)) :=
        fun k f t W hW c0 c1 hf => first70 k m ca f A b t W c0 c1 (HR.out.below hW) hm.symm (by omega) (by omega) (by omega) (HT.out.below hW) ⟨hparts.1, by omega⟩ HW.out
      have HF := Lib.hid (fun f t (hf : f ≤ N) => (by have := firstN_in b (f := f) t (by omega); have e : b.n.toNat = N := by omega
                                                      rw [e] at this; exact this : f ≤ firstN b f t ∧ firstN b f t ≤ N ∧ (firstN b f t < N → bitP b (firstN b f t) = t)))
      have HMO := Lib.hid (fun f t (hf : f < N) (hb : bitP b f ≠ t) => firstN_more b (f := f) (t := t) (by omega) hb)
      have h1' : ¬ (K : Int) < 1 := h1
      rw [hN] at HB0 CC C70 ⊢
      clear hok hparts hm h1 hN
      go_enter Tryz.func60, Tryz.ntmps60
      go_wp2_with (go_at_call 91; refine (CC.out _ HB0.out).mono ?_)
      rintro e w1 ⟨rfl, hb1⟩
      obtain ⟨hc1, hf1, hs1⟩ := bcellB (B := w.heap.size + 1) hb1 (by simp)
      have HB1 := Lib.hid (bthen HB0.out hb1)
      clear hb1 CC
      have HB2 := Lib.hid (balloc HB1.out (.cells #[.int .i64 (N : Int), .slice A m ca] 141))
      have K0 : Hid ((w1.alloc (.cells #[.int .i64 (N : Int), .slice A m ca] 141)).cell? ⟨w1.heap.size, 0, none⟩ = some (.int .i64 (N : Int))) := by show _ = _; go_simp
      have K1 : Hid ((w1.alloc (.cells #[.int .i64 (N : Int), .slice A m ca] 141)).cell? ⟨w1.heap.size, 1, none⟩ = some (.slice A m ca)) := by show _ = _; go_simp
      have C1 : Hid (Calls Tryz.prog 95 #[.pointer (some ⟨w1.heap.size, 0, none⟩), .int .i64 0, .bool false] (w1.alloc (.cells #[.int .i64 (N : Int), .slice A m ca] 141)) (Ret (.int .i64 (firstN b 0 false)) (w1.alloc (.cells #[.int .i64 (N : Int), .slice A m ca] 141)))) := C70.out _ 0 false _ HB2.out K0.out K1.out (Nat.zero_le _)
      go_wp2_with (go_at_call 95; refine C1.out.mono ?_)
      rintro e w2 ⟨rfl, hb2⟩
      obtain ⟨hc2, hf2, hs2⟩ := bcellB (B := w.heap.size + 1) hb2 (by simp; omega)
      have R0 := Lib.hid (cell_later hb2 K0.out)
      have R1 := Lib.hid (cell_later hb2 K1.out)
      have HB3 := Lib.hid (bthen HB2.out hb2)
      have HF0 := Lib.hid (HF.out 0 false (Nat.zero_le _))
      have L0 : Hid (w2.cell? ⟨w.heap.size, 0, none⟩ = some (.int .i64 (N : Int))) := cell_later hb2 (cell_later (balloc (Below.refl _ w1) _) ((hc1 _ _ (by omega)).trans (by go_simp)))
      clear hb2 K0 K1 hc1 hf1 hc2 hf2 C1
      go_wp2
      obtain ⟨wo, hwo⟩ : ∃ wo : World, wo = w2 := ⟨_, rfl⟩
      go_loopw [8] (fun i wr => ∃ a : Nat, a ≤ N ∧ i = .int .i64 a ∧ Hid (a < N → bitP b a = false) ∧ Hid (∃ k, runO b K = runGo b K k a ∧ N < k + a) ∧ Hid (wr.cell? ⟨w1.heap.size, 0, none⟩ = some (.int .i64 (N : Int))) ∧ Hid (wr.cell? ⟨w1.heap.size, 1, none⟩ = some (.slice A m ca)) ∧ Hid (wr.cell? ⟨w.heap.size, 0, none⟩ = some (.int .i64 (N : Int))) ∧ Hid (Below w.heap.size w wr)) (fun i _ => N - (intOf i).toNat)
      case atStart => exact ⟨_, HF0.out.2.1, rfl, HF0.out.2.2, ⟨_, EO.out, by rw [HN.out.1]; omega⟩, R0.out, R1.out, L0.out, HB3.out⟩
      case round =>
        obtain ⟨a, ha, rfl, HZ, HO, r0, r1, l0, HBr⟩ := hrel
        clear R0 R1 L0 HB3
        by_cases hlt : a < N
        · have hz := HZ.out hlt
          have HFE := Lib.hid (HF.out a true ha)
          have HME := Lib.hid (HMO.out a true hlt (by rw [hz]; decide))
          have C2 := Lib.hid (C70.out w1.heap.size a true wr HBr.out r0.out r1.out ha)
          have ll0 := l0.out
          obtain ⟨k, hk1, hk2⟩ := HO.out
          obtain ⟨k, rfl⟩ : ∃ j, k = j + 1 := ⟨k - 1, by omega⟩
          rw [runGo, HN.out.1, if_pos hlt] at hk1
          obtain ⟨q, hq⟩ : ∃ q, q = firstN b a true := ⟨_, rfl⟩
          rw [← hq] at HFE HME C2 hk1
          have HQ := Lib.hid hq
          have HKK := Lib.hid hk2
          clear hz hq hk2 HO
          by_cases hfit : K + a ≤ q
          · rw [if_pos hfit] at hk1
            have E1 := Lib.hid (EI.out _ hk1)
            have E2 := Lib.hid (EE.out _ hk1)
            have hge : (K : Int) ≤ (q : Int) - (a : Int) := by omega
            have hw0 : IntKind.i64.wrap ((q : Int) - (a : Int)) = (q : Int) - (a : Int) := wrap_in (by have := HFE.out; have := HN.out; omega)
            clear hk1 hfit
            go_wp2_with (go_at_call 95; refine C2.out.mono ?_)
            rintro e w4 ⟨rfl, hb4⟩
            have HB4 := Lib.hid (bthen HBr.out hb4)
            clear hb4
            go_wp2
            go_ret2
            rw [E1.out, E2.out]
            exact ⟨rfl, HB4.out⟩
          · rw [if_neg hfit] at hk1
            have HK1 := Lib.hid hk1
            have hge : ¬ (K : Int) ≤ (q : Int) - (a : Int) := by omega
            have hw0 : IntKind.i64.wrap ((q : Int) - (a : Int)) = (q : Int) - (a : Int) := wrap_in (by have := HFE.out; have := HN.out; omega)
            clear hk1 hfit
            go_wp2_with (go_at_call 95; refine C2.out.mono ?_)
            rintro e w4 ⟨rfl, hb4⟩
            have HB4 := Lib.hid (bthen HBr.out hb4)
            have r04 := Lib.hid (cell_later hb4 r0.out)
            have r14 := Lib.hid (cell_later hb4 r1.out)
            have l04 := Lib.hid (cell_later hb4 l0.out)
            have C3 := Lib.hid (C70.out w1.heap.size q false w4 HB4.out r04.out r14.out HFE.out.2.1)
            have HFQ := Lib.hid (HF.out q false HFE.out.2.1)
            clear hb4 C2 r0 r1 l0 ll0
            go_wp2_with (go_at_call 95; refine C3.out.mono ?_)
            rintro e w5 ⟨rfl, hb5⟩
            have HB5 := Lib.hid (bthen HB4.out hb5)
            have r05 := Lib.hid (cell_later hb5 r04.out)
            have r15 := Lib.hid (cell_later hb5 r14.out)
            have l05 := Lib.hid (cell_later hb5 l04.out)
            clear hb5 C3
            go_wp2
            go_roundw
            case rel => exact ⟨_, HFQ.out.2.1, rfl, HFQ.out.2.2, ⟨k, by show _ = _; rw [HK1.out, HQ.out], by have := HFQ.out.1; have := HME.out; have := HKK.out; omega⟩, r05.out, r15.out, l05.out, HB5.out⟩
            case measure => have := HFQ.out.1; have := HME.out; simp [intOf]; omega
        · obtain rfl : a = N := by omega
          obtain ⟨k, hk1, hk2⟩ := HO.out
          obtain ⟨k, rfl⟩ : ∃ j, k = j + 1 := ⟨k - 1, by omega⟩
          rw [runGo, HN.out.1, if_neg (Nat.lt_irrefl _)] at hk1
          have E1 := Lib.hid (EI.out _ hk1)
          have E2 := Lib.hid (EE.out _ hk1)
          have ll0 := l0.out
          clear hk1 hk2 HO
          go_wp2
          go_ret2
          rw [E1.out, E2.out]
          exact ⟨rfl, HBr.out⟩
  · have hok' : okB b = false := by simpa using hok
    have E1 : Hid (runI b n = 0) := by show _ = _; unfold runI; rw [if_neg hok]
    have E2 : Hid (runE b n = 2) := by show _ = _; unfold runE; rw [if_neg hok]
    rw [okE_2 hok'] at CC
    clear hok hok' hm
    go_enter Tryz.func60, Tryz.ntmps60
    go_wp2_with (go_at_call 91; refine (CC.out _ HB0.out).mono ?_)
    rintro e w1 ⟨rfl, hb1⟩
    have HB1 := Lib.hid (bthen HB0.out hb1)
    clear hb1 CC
    go_wp2
    go_ret2
    rw [E1.out, E2.out]
    exact ⟨rfl, HB1.out⟩
end Go.Proofs.YtieijfefnedifaaGreatDoor

/- The walks of pages.set and pages.Take. -/
namespace Go.Proofs.YtieijfefnedifaaGreatDoor
open Go.RowKit
set_option linter.unusedVariables false
set_option linter.unusedSimpArgs false

def SetP (k : Nat) (b : BitB) (w : World) (e : Ending) (w' : World) : Prop := ∃ v : BitV, e = .returned (.int .i64 0) ∧ v.n = b.n ∧ v.m = b.w.length ∧ v.m ≤ v.c ∧
  w'.cell? ⟨k, 0, none⟩ = some (.int .i64 v.n) ∧ w'.cell? ⟨k, 1, none⟩ = some (.slice v.A v.m v.c) ∧ OwU w' (k + 1) (.slice v.A v.m v.c) b.w ∧ Below k w w'
set_option maxRecDepth 100000 in
set_option maxHeartbeats 8000000 in
theorem set61 (k : Nat) (v : BitV) (b : BitB) (f n : Int) (t : Bool) (w : World) (h0 : w.cell? ⟨k, 0, none⟩ = some (.int .i64 v.n)) (h1 : w.cell? ⟨k, 1, none⟩ = some (.slice v.A v.m v.c))
    (z0 : w.frozen? ⟨k, 0, none⟩ = false) (z1 : w.frozen? ⟨k, 1, none⟩ = false) (hk : k < w.heap.size) (hr : RdB w v b) (hE : fillE b f n = 0) :
    Calls Tryz.prog 61 #[.pointer (some ⟨k, 0, none⟩), .int .i64 f, .int .i64 n, .bool t] w (SetP k (fillB b f n t) w) := by
  have HC : Hid (Calls Tryz.prog 80 #[v.v, .int .i64 f, .int .i64 n, .bool t] w (RetBE (fillB b f n t) 0 w)) := by
    have := fill80 v b f n t w hr
    rwa [hE] at this
  clear hr hE
  obtain ⟨nn, A, m, ca⟩ := v
  unfold BitV.v at HC
  simp only at HC h0 h1
  go_enter Tryz.func61, Tryz.ntmps61
  go_wp2_with (go_at_call 80; refine HC.out.mono ?_)
  rintro e w1 ⟨⟨n2, A2, m2, c2⟩, rfl, hn2, hm2, hcap2, ho2, hb1⟩
  simp only at hn2 hm2 hcap2 ho2
  obtain ⟨hc1, hf1, hs1⟩ := bcellB (B := w.heap.size) hb1 (Nat.le_refl _)
  have HB1 := Lib.hid hb1
  have HO1 : Hid (OwU w1 (k + 1) (.slice A2 m2 c2) (fillB b f n t).w) := ho2.mono (by omega)
  have HM := Lib.hid hm2
  have HN := Lib.hid hn2
  have HCC := Lib.hid hcap2
  have y0 : k < w1.heap.size := by omega
  clear hb1 ho2 hm2 hn2 hcap2
  unfold BitV.v
  simp only
  go_wp2
  go_ret
  refine ⟨⟨n2, A2, m2, c2⟩, rfl, HN.out, HM.out, HCC.out, ?_, ?_, ?_, ?_⟩
  · simp [go_sem, hc1, hk, y0, h0, h1]
  · simp [go_sem, hc1, hk, y0, h0, h1]
  · refine OwU.al ?_ _
    repeat (refine OwU.set_lo ?_ (by simp) _)
    exact HO1.out
  · refine Below.alloc ?_ (by simp; omega) _
    repeat (refine Below.setCell ?_ (by simp) _)
    exact HB1.out.mono (Nat.le_of_lt hk)
def takeB (b : BitB) (n : Int) : BitB := if okB b = true then (if runE b n = 0 then fillB b (runI b n) n true else b) else ⟨0, []⟩
def takeE (b : BitB) (n : Int) : Int := if runE b n = 3 then 6 else runE b n
theorem run_fit {b : BitB} {n : Int} (h : runE b n = 0) : fillE b (runI b n) n = 0 ∧ okB b = true := by
  unfold runE at h
  split at h
  · rename_i hok
    split at h
    · omega
    · rename_i hn
      refine ⟨?_, hok⟩
      cases hr : runO b n with
      | none => rw [hr] at h; simp at h
      | some a =>
        have e1 : runI b n = (a : Int) := by unfold runI; rw [if_pos hok, if_neg hn, hr]
        have := runGo_fit hr
        have hp := okB_parts hok
        rw [e1]
        unfold fillE
        rw [if_pos hok, if_pos]
        unfold fillIn
        omega
  · omega
theorem runE_cases (b : BitB) (n : Int) : runE b n = 0 ∨ runE b n = 1 ∨ runE b n = 2 ∨ runE b n = 3 := by
  unfold runE
  split
  · split
    · omega
    · split <;> omega
  · omega
theorem runI_zero {b : BitB} {n : Int} (h : runE b n ≠ 0) : runI b n = 0 := by
  unfold runI
  unfold runE at h
  split
  · rename_i hok
    rw [if_pos hok] at h
    split
    · rfl
    · rename_i hn
      rw [if_neg hn] at h
      split
      · rename_i a ha
        rw [ha] at h
        exact absurd rfl h
      · rfl
  · rfl
def RetBIE (b : BitB) (i x : Int) (w : World) (e : Ending) (w' : World) : Prop := ∃ v : BitV, e = .returned (.tuple #[v.v, .int .i64 i, .int .i64 x]) ∧ v.n = b.n ∧ v.m = b.w.length ∧ v.m ≤ v.c ∧ OwU w' w.heap.size (.slice v.A v.m v.c) b.w ∧ Below w.heap.size w w'
set_option maxRecDepth 100000 in
set_option maxHeartbeats 8000000 in
theorem take30 (v : BitV) (b : BitB) (n : Int) (w : World) (h : RdB w v b) (hT : Tab w) : Calls Tryz.prog 30 #[v.v, .int .i64 n] w (RetBIE (takeB b n) (runI b n) (takeE b n) w) := by
  have CC : Hid (∀ W, Below w.heap.size w W → Calls Tryz.prog 59 #[v.v] W (Ret (.int .i64 (okE b)) W)) := fun W hW => pgcheck v b W (h.below hW)
  have CO : Hid (okB b = true → ∀ W, Below w.heap.size w W → Calls Tryz.prog 47 #[v.v] W (RetB b W)) := fun hk W hW => pgown v b W (h.below hW) (by have := okB_parts hk; omega)
  have HWF : Hid (-9223372036854775808 ≤ b.n ∧ b.n ≤ 9223372036854775807 ∧ ∀ x ∈ b.w, 0 ≤ x ∧ x < 18446744073709551616) := ⟨h.lo, h.hi, h.words⟩
  have HT := Lib.hid hT
  have hbn := h.n
  obtain ⟨nn, A, m, ca⟩ := v
  simp only at hbn
  subst hbn
  unfold BitV.v at CC CO ⊢
  simp only at CC CO ⊢
  clear h hT
  have HB0 : Hid (Below w.heap.size w ((w.alloc (.cells #[.int .i64 b.n, .slice A m ca] 28)).alloc (.cells #[.int .i64 0, .slice none 0 0] 28))) := balloc (balloc (Below.refl _ _) _) _
  by_cases hok : okB b = true
  · have CO := Lib.hid (CO.out hok)
    rw [okE_0 hok] at CC
    by_cases he : runE b n = 0
    · have HE := Lib.hid (run_fit he).1
      have E1 : Hid (takeB b n = fillB b (runI b n) n true) := by show _ = _; unfold takeB; rw [if_pos hok, if_pos he]
      have E3 : Hid (takeE b n = 0) := by show _ = _; unfold takeE; rw [he]; rfl
      have HEE := Lib.hid he
      clear hok he
      go_enter Tryz.func30, Tryz.ntmps30
      go_wp2_with (go_at_call 59; refine (CC.out _ HB0.out).mono ?_)
      rintro e w1 ⟨rfl, hb1⟩
      obtain ⟨hc1, hf1, hs1⟩ := bcellB (B := w.heap.size + 2) hb1 (by simp)
      have HB1 := Lib.hid (bthen HB0.out hb1)
      clear hb1 CC
      go_wp2_with (go_at_call 47; refine (CO.out _ HB1.out).mono ?_)
      rintro e w2 ⟨⟨n2, A2, m2, c2⟩, rfl, hn2, hm2, hcap2, ho2, hb2⟩
      simp only at hn2 hm2 hcap2 ho2
      obtain ⟨hc2, hf2, hs2⟩ := bcellB hb2 hs1
      have HB2 := Lib.hid (bthen HB1.out hb2)
      subst hn2
      have HM2 := Lib.hid hm2
      have HC2 := Lib.hid hcap2
      have HO2 : Hid (OwU w2 (w.heap.size + 2) (.slice A2 m2 c2) b.w) := ho2.mono hs1
      have z0 : w.heap.size < w2.heap.size := by omega
      have z1 : w.heap.size + 1 < w2.heap.size := by omega
      clear hb2 hm2 hcap2 ho2 CO
      unfold BitV.v
      simp only
      have HB3 := Lib.hid (balloc HB2.out (.cells #[.int .i64 b.n, .slice A2 m2 c2] 104))
      have HO3 := Lib.hid (HO2.out.al (.cells #[.int .i64 b.n, .slice A2 m2 c2] 104))
      have HR3 : Hid (RdB (w2.alloc (.cells #[.int .i64 b.n, .slice A2 m2 c2] 104)) ⟨b.n, A2, m2, c2⟩ b) := ⟨rfl, HM2.out, HC2.out, HWF.out.1, HWF.out.2.1, HWF.out.2.2, HO3.out.rd HM2.out.symm⟩
      have CR := Lib.hid (run60 ⟨b.n, A2, m2, c2⟩ b n _ HR3.out (HT.out.below HB3.out))
      have K0 : Hid ((w2.alloc (.cells #[.int .i64 b.n, .slice A2 m2 c2] 104)).cell? ⟨w2.heap.size, 0, none⟩ = some (.int .i64 b.n)) := by show _ = _; go_simp
      have K1 : Hid ((w2.alloc (.cells #[.int .i64 b.n, .slice A2 m2 c2] 104)).cell? ⟨w2.heap.size, 1, none⟩ = some (.slice A2 m2 c2)) := by show _ = _; go_simp
      unfold BitV.v at CR
      simp only at CR
      rw [HEE.out] at CR
      go_wp2_with (go_at_call 60; refine CR.out.mono ?_)
      rintro e w3 ⟨rfl, hb3⟩
      obtain ⟨hc3, hf3, hs3⟩ := bcellB (B := w2.heap.size + 1) hb3 (by simp)
      have HB4 := Lib.hid (bthen HB3.out hb3)
      have HO4 := Lib.hid (HO3.out.below hb3)
      have HR4 := Lib.hid (HR3.out.below hb3)
      have k0 := cell_later hb3 K0.out
      have k1 := cell_later hb3 K1.out
      have y0 : w.heap.size < w3.heap.size := by omega
      have y1 : w.heap.size + 1 < w3.heap.size := by omega
      have y2 : w2.heap.size < w3.heap.size := by omega
      clear hb3 CR K0 K1
      obtain ⟨hc3, hf3, hs3⟩ : KeepB (w2.heap.size + 1) (w2.alloc (.cells #[.int .i64 b.n, .slice A2 m2 c2] 104)) w3 := ⟨hc3, hf3, hs3⟩
      have f0 : w3.frozen? ⟨w2.heap.size, 0, none⟩ = false := by rw [hf3 _ _ (by omega)]; go_simp
      have f1 : w3.frozen? ⟨w2.heap.size, 1, none⟩ = false := by rw [hf3 _ _ (by omega)]; go_simp
      have CS := Lib.hid (set61 w2.heap.size ⟨b.n, A2, m2, c2⟩ b (runI b n) n true w3 k0 k1 f0 f1 y2 HR4.out HE.out)
      go_wp2_with (go_at_call 61; refine CS.out.mono ?_)
      rintro e w4 ⟨⟨n5, A5, m5, c5⟩, rfl, hn5, hm5, hcap5, g0, g1, ho5, hb5⟩
      simp only at hn5 hm5 hcap5 g0 g1 ho5
      obtain ⟨hc5, hf5, hs5⟩ := KeepB.ofB (B := w.heap.size + 2) hb5 (by omega) (by omega)
      have HB5 : Hid (Below w.heap.size w w4) := HB4.out.trans (hb5.mono (by omega))
      have HO5 : Hid (OwU w4 (w.heap.size + 2) (.slice A5 m5 c5) (fillB b (runI b n) n true).w) := ho5.mono (by omega)
      have HM5 := Lib.hid hm5
      have HN5 := Lib.hid hn5
      have HC5 := Lib.hid hcap5
      have x0 : w.heap.size < w4.heap.size := by omega
      have x1 : w.heap.size + 1 < w4.heap.size := by omega
      have x2 : w2.heap.size < w4.heap.size := by have := hb5.size; omega
      clear hb5 ho5 hm5 hn5 hcap5 CS k0 k1 f0 f1
      go_wp2
      refine bodyPost_ret (v := .tuple #[.agg #[.int .i64 n5, .slice A5 m5 c5], .int .i64 (runI b n), .int .i64 0]) (by simp [results, Tryz.results30, go_sem, hc5, hc3, hc2, hc1, x0, x1, y0, y1, z0, z1]) rfl ?_
      rw [E1.out, E3.out]
      refine ⟨⟨n5, A5, m5, c5⟩, rfl, HN5.out, HM5.out, HC5.out, ?_, ?_⟩
      · refine OwU.mono (base := w.heap.size + 2) ?_ (by omega)
        repeat (refine OwU.set_lo ?_ (by simp) _)
        exact HO5.out
      · repeat (refine Below.setCell ?_ (by first | (simp; done) | (simp; omega)) _)
        exact HB5.out
    · have E1 : Hid (takeB b n = b) := by show _ = _; unfold takeB; rw [if_pos hok, if_neg he]
      have E2 : Hid (runI b n = 0) := runI_zero he
      have hcs : runE b n = 1 ∨ runE b n = 3 := by
        rcases runE_cases b n with h | h | h | h
        · exact absurd h he
        · exact Or.inl h
        · unfold runE at h; rw [if_pos hok] at h; split at h
          · omega
          · split at h <;> omega
        · exact Or.inr h
      clear hok he
      rcases hcs with he | he
      · have E3 : Hid (takeE b n = 1) := by show _ = _; unfold takeE; rw [he]; rfl
        have HEE : Hid (runE b n = 1) := he
        clear he
        go_enter Tryz.func30, Tryz.ntmps30
        go_wp2_with (go_at_call 59; refine (CC.out _ HB0.out).mono ?_)
        rintro e w1 ⟨rfl, hb1⟩
        obtain ⟨hc1, hf1, hs1⟩ := bcellB (B := w.heap.size + 2) hb1 (by simp)
        have HB1 := Lib.hid (bthen HB0.out hb1)
        clear hb1 CC
        go_wp2_with (go_at_call 47; refine (CO.out _ HB1.out).mono ?_)
        rintro e w2 ⟨⟨n2, A2, m2, c2⟩, rfl, hn2, hm2, hcap2, ho2, hb2⟩
        simp only at hn2 hm2 hcap2 ho2
        obtain ⟨hc2, hf2, hs2⟩ := bcellB hb2 hs1
        have HB2 := Lib.hid (bthen HB1.out hb2)
        subst hn2
        have HM2 := Lib.hid hm2
        have HC2 := Lib.hid hcap2
        have HO2 : Hid (OwU w2 (w.heap.size + 2) (.slice A2 m2 c2) b.w) := ho2.mono hs1
        have z0 : w.heap.size < w2.heap.size := by omega
        have z1 : w.heap.size + 1 < w2.heap.size := by omega
        clear hb2 hm2 hcap2 ho2 CO
        unfold BitV.v
        simp only
        have HB3 := Lib.hid (balloc HB2.out (.cells #[.int .i64 b.n, .slice A2 m2 c2] 104))
        have HO3 := Lib.hid (HO2.out.al (.cells #[.int .i64 b.n, .slice A2 m2 c2] 104))
        have HR3 : Hid (RdB (w2.alloc (.cells #[.int .i64 b.n, .slice A2 m2 c2] 104)) ⟨b.n, A2, m2, c2⟩ b) := ⟨rfl, HM2.out, HC2.out, HWF.out.1, HWF.out.2.1, HWF.out.2.2, HO3.out.rd HM2.out.symm⟩
        have CR := Lib.hid (run60 ⟨b.n, A2, m2, c2⟩ b n _ HR3.out (HT.out.below HB3.out))
        have K0 : Hid ((w2.alloc (.cells #[.int .i64 b.n, .slice A2 m2 c2] 104)).cell? ⟨w2.heap.size, 0, none⟩ = some (.int .i64 b.n)) := by show _ = _; go_simp
        have K1 : Hid ((w2.alloc (.cells #[.int .i64 b.n, .slice A2 m2 c2] 104)).cell? ⟨w2.heap.size, 1, none⟩ = some (.slice A2 m2 c2)) := by show _ = _; go_simp
        unfold BitV.v at CR
        simp only at CR
        rw [HEE.out, E2.out] at CR
        go_wp2_with (go_at_call 60; refine CR.out.mono ?_)
        rintro e w3 ⟨rfl, hb3⟩
        obtain ⟨hc3, hf3, hs3⟩ := bcellB (B := w2.heap.size + 1) hb3 (by simp)
        have HB4 := Lib.hid (bthen HB3.out hb3)
        have HO4 := Lib.hid (HO3.out.below hb3)
        have HR4 := Lib.hid (HR3.out.below hb3)
        have k0 := cell_later hb3 K0.out
        have k1 := cell_later hb3 K1.out
        have y0 : w.heap.size < w3.heap.size := by omega
        have y1 : w.heap.size + 1 < w3.heap.size := by omega
        have y2 : w2.heap.size < w3.heap.size := by omega
        clear hb3 CR K0 K1
        go_wp2
        refine bodyPost_ret (v := .tuple #[.agg #[.int .i64 b.n, .slice A2 m2 c2], .int .i64 0, .int .i64 1]) (by simp [results, Tryz.results30, go_sem, hc3, hc2, hc1, y0, y1, z0, z1]) rfl ?_
        rw [E1.out, E2.out,E3.out]
        refine ⟨⟨b.n, A2, m2, c2⟩, rfl, rfl, HM2.out, HC2.out, ?_, ?_⟩
        · refine OwU.mono (base := w.heap.size + 2) ?_ (by omega)
          repeat (refine OwU.set_lo ?_ (by simp) _)
          exact HO4.out
        · repeat (refine Below.setCell ?_ (by first | (simp; done) | (simp; omega)) _)
          exact HB4.out
      · have E3 : Hid (takeE b n = 6) := by show _ = _; unfold takeE; rw [he]; rfl
        have HEE : Hid (runE b n = 3) := he
        clear he
        go_enter Tryz.func30, Tryz.ntmps30
        go_wp2_with (go_at_call 59; refine (CC.out _ HB0.out).mono ?_)
        rintro e w1 ⟨rfl, hb1⟩
        obtain ⟨hc1, hf1, hs1⟩ := bcellB (B := w.heap.size + 2) hb1 (by simp)
        have HB1 := Lib.hid (bthen HB0.out hb1)
        clear hb1 CC
        go_wp2_with (go_at_call 47; refine (CO.out _ HB1.out).mono ?_)
        rintro e w2 ⟨⟨n2, A2, m2, c2⟩, rfl, hn2, hm2, hcap2, ho2, hb2⟩
        simp only at hn2 hm2 hcap2 ho2
        obtain ⟨hc2, hf2, hs2⟩ := bcellB hb2 hs1
        have HB2 := Lib.hid (bthen HB1.out hb2)
        subst hn2
        have HM2 := Lib.hid hm2
        have HC2 := Lib.hid hcap2
        have HO2 : Hid (OwU w2 (w.heap.size + 2) (.slice A2 m2 c2) b.w) := ho2.mono hs1
        have z0 : w.heap.size < w2.heap.size := by omega
        have z1 : w.heap.size + 1 < w2.heap.size := by omega
        clear hb2 hm2 hcap2 ho2 CO
        unfold BitV.v
        simp only
        have HB3 := Lib.hid (balloc HB2.out (.cells #[.int .i64 b.n, .slice A2 m2 c2] 104))
        have HO3 := Lib.hid (HO2.out.al (.cells #[.int .i64 b.n, .slice A2 m2 c2] 104))
        have HR3 : Hid (RdB (w2.alloc (.cells #[.int .i64 b.n, .slice A2 m2 c2] 104)) ⟨b.n, A2, m2, c2⟩ b) := ⟨rfl, HM2.out, HC2.out, HWF.out.1, HWF.out.2.1, HWF.out.2.2, HO3.out.rd HM2.out.symm⟩
        have CR := Lib.hid (run60 ⟨b.n, A2, m2, c2⟩ b n _ HR3.out (HT.out.below HB3.out))
        have K0 : Hid ((w2.alloc (.cells #[.int .i64 b.n, .slice A2 m2 c2] 104)).cell? ⟨w2.heap.size, 0, none⟩ = some (.int .i64 b.n)) := by show _ = _; go_simp
        have K1 : Hid ((w2.alloc (.cells #[.int .i64 b.n, .slice A2 m2 c2] 104)).cell? ⟨w2.heap.size, 1, none⟩ = some (.slice A2 m2 c2)) := by show _ = _; go_simp
        unfold BitV.v at CR
        simp only at CR
        rw [HEE.out, E2.out] at CR
        go_wp2_with (go_at_call 60; refine CR.out.mono ?_)
        rintro e w3 ⟨rfl, hb3⟩
        obtain ⟨hc3, hf3, hs3⟩ := bcellB (B := w2.heap.size + 1) hb3 (by simp)
        have HB4 := Lib.hid (bthen HB3.out hb3)
        have HO4 := Lib.hid (HO3.out.below hb3)
        have HR4 := Lib.hid (HR3.out.below hb3)
        have k0 := cell_later hb3 K0.out
        have k1 := cell_later hb3 K1.out
        have y0 : w.heap.size < w3.heap.size := by omega
        have y1 : w.heap.size + 1 < w3.heap.size := by omega
        have y2 : w2.heap.size < w3.heap.size := by omega
        clear hb3 CR K0 K1
        go_wp2
        refine bodyPost_ret (v := .tuple #[.agg #[.int .i64 b.n, .slice A2 m2 c2], .int .i64 0, .int .i64 6]) (by simp [results, Tryz.results30, go_sem, hc3, hc2, hc1, y0, y1, z0, z1]) rfl ?_
        rw [E1.out, E2.out,E3.out]
        refine ⟨⟨b.n, A2, m2, c2⟩, rfl, rfl, HM2.out, HC2.out, ?_, ?_⟩
        · refine OwU.mono (base := w.heap.size + 2) ?_ (by omega)
          repeat (refine OwU.set_lo ?_ (by simp) _)
          exact HO4.out
        · repeat (refine Below.setCell ?_ (by first | (simp; done) | (simp; omega)) _)
          exact HB4.out
  · have hok' : okB b = false := by simpa using hok
    have E1 : Hid (takeB b n = ⟨0, []⟩) := by show _ = _; unfold takeB; rw [if_neg hok]
    have E2 : Hid (runI b n = 0) := by show _ = _; unfold runI; rw [if_neg hok]
    have E3 : Hid (takeE b n = 2) := by show _ = _; unfold takeE runE; rw [if_neg hok]; rfl
    rw [okE_2 hok'] at CC
    clear hok hok' CO
    go_enter Tryz.func30, Tryz.ntmps30
    go_wp2_with (go_at_call 59; refine (CC.out _ HB0.out).mono ?_)
    rintro e w1 ⟨rfl, hb1⟩
    obtain ⟨hc1, hf1, hs1⟩ := bcellB (B := w.heap.size + 2) hb1 (by simp)
    have HB1 := Lib.hid (bthen HB0.out hb1)
    clear hb1 CC
    go_wp2
    refine bodyPost_ret (v := .tuple #[.agg #[.int .i64 0, .slice none 0 0], .int .i64 0, .int .i64 2]) (by simp [results, Tryz.results30, go_sem, hc1]) rfl ?_
    rw [E1.out, E2.out,E3.out]
    refine ⟨⟨0, none, 0, 0⟩, rfl, rfl, rfl, Nat.le_refl _, OwU.nil_ _ _, ?_⟩
    repeat (refine Below.setCell ?_ (by first | (simp; done) | (simp; omega)) _)
    exact HB1.out
end Go.Proofs.YtieijfefnedifaaGreatDoor
