/- The walk of number; a number's digits are read as it. -/
import Derived.Test.YtfgeomdfgjefdaaDoorA8
import Derived.Lib.AtoiErrMem
namespace Go.Proofs.YtfgeomdfgjefdaaDoor
open Go.RowKit
set_option linter.unusedVariables false
set_option linter.unusedSimpArgs false

def numP (l : List UInt8) : Int × Bool := match Lib.atoiAll l with
  | .ok v => (v, true)
  | .«syntax» => (0, false)
  | .range => (Lib.atoiSat l, false)
theorem parse_app : ∀ (l : List UInt8) (acc u : Nat) (c : UInt8), Lib.parseUint10 acc l = .ok u → u < 100000000000000000 → 48 ≤ c.toNat → c.toNat ≤ 57 → Lib.parseUint10 acc (l ++ [c]) = .ok (u * 10 + (c.toNat - 48)) := by
  intro l
  induction l with
  | nil =>
    intro acc u c h hu h1 h2
    simp only [Lib.parseUint10] at h
    injection h with h
    subst h
    rw [List.nil_append]
    simp only [Lib.parseUint10]
    rw [if_pos ⟨h1, h2⟩, if_neg (by omega), if_neg (by omega)]
  | cons b r ih =>
    intro acc u c h hu h1 h2
    rw [List.cons_append]
    simp only [Lib.parseUint10] at h ⊢
    split at h
    · rename_i hb
      rw [if_pos hb]
      split at h
      · cases h
      · rename_i hb2
        rw [if_neg hb2]
        split at h
        · cases h
        · rename_i hb3
          rw [if_neg hb3]
          exact ih _ u c h hu h1 h2
    · cases h
theorem dig_toNat {d : Nat} (h : d < 10) : (UInt8.ofNat (48 + d)).toNat = 48 + d := by
  rw [UInt8.toNat_ofNat']
  omega
theorem parse_dec (n : Nat) (hn : n < 100000000000000000) : Lib.parseUint10 0 (Lib.decDigits n) = .ok n := by
  induction n using Nat.strongRecOn with
  | ind n ih =>
    by_cases h : 9 < n
    · rw [dec_step h]
      have h1 := ih (n / 10) (by omega) (by omega)
      have h2 := parse_app _ 0 (n / 10) (UInt8.ofNat (48 + n % 10)) h1 (by omega) (by rw [dig_toNat (by omega)]; omega) (by rw [dig_toNat (by omega)]; omega)
      rw [h2, dig_toNat (by omega)]
      congr 1
      omega
    · rw [dec_last (by omega)]
      simp only [Lib.parseUint10]
      rw [dig_toNat (by omega), if_pos (by omega), if_neg (by omega), if_neg (by omega)]
      congr 1
      omega
theorem dec_head (n : Nat) : ∃ c r, Lib.decDigits n = c :: r ∧ 48 ≤ c.toNat ∧ c.toNat ≤ 57 := by
  induction n using Nat.strongRecOn with
  | ind n ih =>
    by_cases h : 9 < n
    · obtain ⟨c, r, h1, h2, h3⟩ := ih (n / 10) (by omega)
      exact ⟨c, r ++ [UInt8.ofNat (48 + n % 10)], by rw [dec_step h, h1]; rfl, h2, h3⟩
    · exact ⟨UInt8.ofNat (48 + n), [], dec_last (by omega), by rw [dig_toNat (by omega)]; omega, by rw [dig_toNat (by omega)]; omega⟩
theorem numP_dec (n : Nat) (hn : n < 100000000000000000) : numP (Lib.decDigits n) = ((n : Int), true) := by
  obtain ⟨c, r, h1, h2, h3⟩ := dec_head n
  have hp := parse_dec n hn
  unfold numP Lib.atoiAll
  rw [h1] at hp ⊢
  simp only
  rw [if_neg (by omega)]
  unfold Lib.parseMag
  rw [if_neg (by simp), hp]
  simp only
  rw [if_neg (by omega), if_neg (by omega), if_neg (by omega)]
set_option maxRecDepth 100000 in
set_option maxHeartbeats 16000000 in
theorem number40 (l : List UInt8) (hl : l.length ≤ 100000) (w : World) (hE : Env w) : Calls Tryd.prog 40 #[strV l] w (Ret (.tuple #[.int .i64 (numP l).1, .bool (numP l).2]) w) := by
  have hsz : (⟨l.toArray⟩ : ByteArray).size = l.length := by simp [ByteArray.size]
  unfold strV
  cases ha : Lib.atoiAll l with
  | ok v =>
    have HN : Hid (numP l = (v, true)) := by show _ = _; unfold numP; rw [ha]
    have HC : Hid (Calls Tryd.prog 55 #[.string ⟨l.toArray⟩] w (Ret (.tuple #[.int .i64 v, .nilIface]) w)) := by
      refine (Tryd.strconv_Atoi_ok ⟨l.toArray⟩ (by rw [hsz]; omega) v (by simpa using ha) w).mono ?_
      rintro e w' ⟨rfl, h⟩
      refine ⟨rfl, ?_⟩
      rcases h with rfl | ⟨t, rfl⟩
      · exact Below.refl _ _
      · exact Lib.bytesWorld_below _ _ _
    clear hE ha hsz
    go_enter Tryd.func40, Tryd.ntmps40
    go_wp2_with (go_at_call 55; refine HC.out.mono ?_)
    rintro e w1 ⟨rfl, hb1⟩
    have HB1 := Lib.hid hb1
    clear hb1 HC
    go_upto_region 2 with fail
    refine region_up (by kernel_rfl) (by kernel_rfl) ?_
    iterate 5
      go_big_quiet_want
      apply Exists.intro
      refine ⟨fun W hW => ?_, ?_⟩
      · go_simp
        all_goals exact rfl
      simp only [Act.put, List.setIfInBounds_toArray, List.set_cons_succ, List.set_cons_zero]
      go_big_quiet_on
    refine wpQuiet_nil ?_
    intro W hW
    have HBW := Lib.hid (bthen HB1.out hW)
    clear hW
    go_wp2
    refine bodyPost_ret (v := .tuple #[.int .i64 v, .bool true]) (by simp [results, Tryd.results40, go_sem]) rfl ?_
    exact ⟨by rw [HN.out], HBW.out⟩
  | «syntax» =>
    have HN : Hid (numP l = (0, false)) := by show _ = _; unfold numP; rw [ha]
    obtain ⟨te, pe, hv⟩ := hE.syn
    have HC : Hid (Calls Tryd.prog 55 #[.string ⟨l.toArray⟩] w (fun e w' => ∃ N, e = .returned (.tuple #[.int .i64 0, .iface 101 (.pointer (some ⟨N, 0, none⟩))]) ∧ Below w.heap.size w w')) := by
      refine (Tryd.strconv_Atoi_syntax ⟨l.toArray⟩ (by rw [hsz]; omega) (by simpa using ha) _ w hv (.inr ⟨te, pe, rfl⟩)).mono ?_
      rintro e w' ⟨N, h1, _, _, h2⟩
      exact ⟨N, h1, h2⟩
    clear hE ha hsz hv
    go_enter Tryd.func40, Tryd.ntmps40
    go_wp2_with (go_at_call 55; refine HC.out.mono ?_)
    rintro e w1 ⟨N, rfl, hb1⟩
    have HB1 := Lib.hid hb1
    clear hb1 HC
    go_upto_region 2 with fail
    refine region_up (by kernel_rfl) (by kernel_rfl) ?_
    iterate 5
      go_big_quiet_want
      apply Exists.intro
      refine ⟨fun W hW => ?_, ?_⟩
      · go_simp
        all_goals exact rfl
      simp only [Act.put, List.setIfInBounds_toArray, List.set_cons_succ, List.set_cons_zero]
      go_big_quiet_on
    refine wpQuiet_nil ?_
    intro W hW
    have HBW := Lib.hid (bthen HB1.out hW)
    clear hW
    go_wp2
    refine bodyPost_ret (v := .tuple #[.int .i64 0, .bool false]) (by simp [results, Tryd.results40, go_sem]) rfl ?_
    exact ⟨by rw [HN.out], HBW.out⟩
  | range =>
    have HN : Hid (numP l = (Lib.atoiSat l, false)) := by show _ = _; unfold numP; rw [ha]
    obtain ⟨te, pe, hv⟩ := hE.rng
    have HC : Hid (Calls Tryd.prog 55 #[.string ⟨l.toArray⟩] w (fun e w' => ∃ N, e = .returned (.tuple #[.int .i64 (Lib.atoiSat l), .iface 101 (.pointer (some ⟨N, 0, none⟩))]) ∧ Below w.heap.size w w')) := by
      refine (Tryd.strconv_Atoi_range ⟨l.toArray⟩ (by rw [hsz]; omega) (by simpa using ha) _ w hv (.inr ⟨te, pe, rfl⟩)).mono ?_
      rintro e w' ⟨N, h1, _, _, h2⟩
      exact ⟨N, by simpa using h1, h2⟩
    generalize Lib.atoiSat l = z at *
    clear hE ha hsz hv
    go_enter Tryd.func40, Tryd.ntmps40
    go_wp2_with (go_at_call 55; refine HC.out.mono ?_)
    rintro e w1 ⟨N, rfl, hb1⟩
    have HB1 := Lib.hid hb1
    clear hb1 HC
    go_upto_region 2 with fail
    refine region_up (by kernel_rfl) (by kernel_rfl) ?_
    iterate 5
      go_big_quiet_want
      apply Exists.intro
      refine ⟨fun W hW => ?_, ?_⟩
      · go_simp
        all_goals exact rfl
      simp only [Act.put, List.setIfInBounds_toArray, List.set_cons_succ, List.set_cons_zero]
      go_big_quiet_on
    refine wpQuiet_nil ?_
    intro W hW
    have HBW := Lib.hid (bthen HB1.out hW)
    clear hW
    go_wp2
    refine bodyPost_ret (v := .tuple #[.int .i64 z, .bool false]) (by simp [results, Tryd.results40, go_sem]) rfl ?_
    exact ⟨by rw [HN.out], HBW.out⟩
end Go.Proofs.YtfgeomdfgjefdaaDoor
