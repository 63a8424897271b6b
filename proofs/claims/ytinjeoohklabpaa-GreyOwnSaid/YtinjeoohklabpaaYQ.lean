/- The walk of the law GreyLast. -/
import Derived.Test.YtinjeoohklabpaaYP
namespace Go.Proofs.Ytinjeoohklabpaa
open Go.RowKit
set_option linter.unusedVariables false
set_option linter.unusedSimpArgs false

theorem wrap_in {x : Int} (h : -9223372036854775808 ≤ x ∧ x ≤ 9223372036854775807) : IntKind.i64.wrap x = x := by rw [IntKind.wrap_i64]; omega
theorem rd_one1 (w : World) (a : Int) : RdU (w.alloc (.cells #[.int .u64 a] 30)) (some ⟨w.heap.size, 0, none⟩) [a] :=
  own_rd (World.ownsRow_lit (base := w.heap.size) (e := 30) (size := 1) w #[.int .u64 a] 1 (Nat.le_refl _) (by simp [maxLen]) rfl)
theorem last_cases (l : List (List Int)) (k a : Int) : (pushP l k [a] = ([], 2)) ∨ (∃ e, e ≠ 0 ∧ e ≠ 2 ∧ pushP l k [a] = (l, e)) ∨ (okQ l ∧ (0 ≤ k ∧ k < l.length) ∧ putE l a = 0 ∧ pushP l k [a] = (appAt l k.toNat a, 0)) := by
  rw [pushP_one]
  by_cases ho : okQ l
  · rw [if_pos ho]
    by_cases hk : 0 ≤ k ∧ k < l.length
    · rw [if_pos hk]
      by_cases hp : putE l a = 0
      · rw [if_pos hp]; exact .inr (.inr ⟨ho, hk, hp, rfl⟩)
      · rw [if_neg hp]
        refine .inr (.inl ⟨_, hp, ?_, rfl⟩)
        rcases putE_cases l a with h | h | h | h <;> omega
    · rw [if_neg hk]; exact .inr (.inl ⟨11, by omega, by omega, rfl⟩)
  · rw [if_neg ho]; exact .inl rfl

set_option maxRecDepth 100000 in
set_option maxHeartbeats 16000000 in
theorem last6 (A : Option Addr) (c : Nat) (vs : List QV) (l : List (List Int)) (k a : Int) (w : World) (ha : RdQ w A vs l) (hw : WdQ l) (haw : 0 ≤ a ∧ a < 18446744073709551616) :
    Calls Try.prog 6 #[.agg #[.slice A l.length c], .int .i64 k, .int .u64 a] w (Ret (.bool true) w) := by
  have hl := ha.len
  rcases last_cases l k a with HE | ⟨E, hE0, hE2, HE⟩ | ⟨ho, hk, hp, HE⟩
  · have HB0 := Lib.hid (balloc (Below.refl w.heap.size w) (.cells #[.slice A l.length c] 24))
    have F0 : Hid ((w.alloc (.cells #[.slice A l.length c] 24)).cell? ⟨w.heap.size, 0, none⟩ = some (.slice A l.length c)) := by show _ = _; go_simp
    have CP : Hid (∀ (W : World) B, Below w.heap.size w W → RdU W B [a] → Calls Try.prog 10 #[.agg #[.slice A l.length c], .int .i64 k, .slice B 1 1] W (RetGE [] 2 W)) := fun W B hW hB => by
      have := pushG A c vs l k B 1 [a] W (ha.below hW) hw hB
      rwa [HE] at this
    have HA := Lib.hid ha
    clear ha HE
    go_enter Try.func6, Try.ntmps6
    go_wp2_with (go_at_call 14; refine (lives14 _).mono ?_)
    rintro e w1 ⟨rfl, hb1⟩
    have k1 := cell_later hb1 F0.out
    have HB1 := Lib.hid (bthen HB0.out hb1)
    have HD2 := Lib.hid (rd_one1 w1 a)
    have HB2 := Lib.hid (balloc HB1.out (.cells #[.int .u64 a] 30))
    have K2 := Lib.hid (cell_later (balloc (Below.refl w1.heap.size w1) (.cells #[.int .u64 a] 30)) k1)
    have X2 := Lib.hid (CP.out (w1.alloc (.cells #[.int .u64 a] 30)) (some ⟨w1.heap.size, 0, none⟩) HB2.out HD2.out)
    have l1 := World.block_lt_of_cell? _ _ k1
    clear hb1 CP F0 HB0
    go_wp2_with (go_at_call 10; refine X2.out.mono ?_)
    rintro e w3 ⟨v, rfl, ⟨vs3, hq3⟩, hb3⟩
    obtain ⟨A3, c3, rfl, _, hr3⟩ := hq3.shape
    have HB4 := Lib.hid (balloc (bthen HB2.out hb3) (.cells #[.slice A3 0 c3] 24))
    have HR4 := Lib.hid (hr3.below (balloc (Below.refl w3.heap.size w3) (.cells #[.slice A3 0 c3] 24)))
    have K4 : Hid ((w3.alloc (.cells #[.slice A3 0 c3] 24)).cell? ⟨w3.heap.size, 0, none⟩ = some (.slice A3 0 c3)) := by show _ = _; go_simp
    have KA4 := Lib.hid (cell_later (balloc hb3 (.cells #[.slice A3 0 c3] 24)) K2.out)
    clear hq3 hr3 hb3 X2 k1 l1 HD2 HB1 HB2 K2
    go_upto_region 4 with fail
    generalize (w3.alloc (.cells #[.slice A3 0 c3] 24)) = w4 at *
    generalize w3.heap.size = b3 at *
    go_wp2
    go_ret
    exact ⟨rfl, HB4.out⟩
  · have e0 : (E == 0) = false := by simp [hE0]
    have e2 : (E == 2) = false := by simp [hE2]
    clear hE0 hE2
    have HB0 := Lib.hid (balloc (Below.refl w.heap.size w) (.cells #[.slice A l.length c] 24))
    have F0 : Hid ((w.alloc (.cells #[.slice A l.length c] 24)).cell? ⟨w.heap.size, 0, none⟩ = some (.slice A l.length c)) := by show _ = _; go_simp
    have CP : Hid (∀ (W : World) B, Below w.heap.size w W → RdU W B [a] → Calls Try.prog 10 #[.agg #[.slice A l.length c], .int .i64 k, .slice B 1 1] W (RetGE l E W)) := fun W B hW hB => by
      have := pushG A c vs l k B 1 [a] W (ha.below hW) hw hB
      rwa [HE] at this
    have HA := Lib.hid ha
    clear ha HE
    go_enter Try.func6, Try.ntmps6
    go_wp2_with (go_at_call 14; refine (lives14 _).mono ?_)
    rintro e w1 ⟨rfl, hb1⟩
    have k1 := cell_later hb1 F0.out
    have HB1 := Lib.hid (bthen HB0.out hb1)
    have HD2 := Lib.hid (rd_one1 w1 a)
    have HB2 := Lib.hid (balloc HB1.out (.cells #[.int .u64 a] 30))
    have K2 := Lib.hid (cell_later (balloc (Below.refl w1.heap.size w1) (.cells #[.int .u64 a] 30)) k1)
    have X2 := Lib.hid (CP.out (w1.alloc (.cells #[.int .u64 a] 30)) (some ⟨w1.heap.size, 0, none⟩) HB2.out HD2.out)
    have l1 := World.block_lt_of_cell? _ _ k1
    clear hb1 CP F0 HB0
    go_wp2_with (go_at_call 10; refine X2.out.mono ?_)
    rintro e w3 ⟨v, rfl, ⟨vs3, hq3⟩, hb3⟩
    obtain ⟨A3, c3, rfl, _, hr3⟩ := hq3.shape
    have HB4 := Lib.hid (balloc (bthen HB2.out hb3) (.cells #[.slice A3 l.length c3] 24))
    have HR4 := Lib.hid (hr3.below (balloc (Below.refl w3.heap.size w3) (.cells #[.slice A3 l.length c3] 24)))
    have K4 : Hid ((w3.alloc (.cells #[.slice A3 l.length c3] 24)).cell? ⟨w3.heap.size, 0, none⟩ = some (.slice A3 l.length c3)) := by show _ = _; go_simp
    have KA4 := Lib.hid (cell_later (balloc hb3 (.cells #[.slice A3 l.length c3] 24)) K2.out)
    clear hq3 hr3 hb3 X2 k1 l1 HD2 HB1 HB2 K2
    go_upto_region 4 with fail
    generalize (w3.alloc (.cells #[.slice A3 l.length c3] 24)) = w4 at *
    generalize w3.heap.size = b3 at *
    have CS : Hid (∀ W, Below w4.heap.size w4 W → Calls Try.prog 15 #[.agg #[.slice A l.length c], .agg #[.slice A3 l.length c3]] W (Ret (.bool true) W)) := fun W hW => by
      have := sameQ A A3 c c3 vs vs3 l l W (HA.out.below (bthen HB4.out hW)) (HR4.out.below hW)
      rwa [dec_refl] at this
    have ka := KA4.out
    have kh := K4.out
    have la := World.block_lt_of_cell? _ _ ka
    have lh := World.block_lt_of_cell? _ _ kh
    have X4 := Lib.hid (CS.out w4 (Below.refl _ _))
    clear CS
    go_wp2_with (go_at_call 15; refine X4.out.mono ?_)
    rintro e w5 ⟨rfl, hb5⟩
    have HBW := Lib.hid (bthen HB4.out hb5)
    clear hb5
    go_wp2
    go_ret
    exact ⟨rfl, HBW.out⟩
  · have hk' : k.toNat < l.length := by omega
    have CQ : Hid (∀ W A1 c1 vs1, RdQ W A1 vs1 (appAt l k.toNat a) → Calls Try.prog 12 #[.agg #[.slice A1 (appAt l k.toNat a).length c1], .int .i64 k] W (RetPop ⟨l, a, false, 0⟩ W)) := fun W A1 c1 vs1 h => by
      have := popG A1 c1 vs1 (appAt l k.toNat a) k W h (WdQ_app hw hk' haw)
      rwa [pop_app ho hk hp] at this
    have CM : Hid (∀ W A1 c1 vs1, RdQ W A1 vs1 (appAt l k.toNat a) → Calls Try.prog 16 #[.agg #[.slice A1 (appAt l k.toNat a).length c1]] W (Ret (.tuple #[.int .i64 ((manyN l : Int) + 1), .int .i64 0]) W)) := fun W A1 c1 vs1 h => by
      have := manyG A1 c1 vs1 (appAt l k.toNat a) W h (WdQ_app hw hk' haw)
      rwa [manyV_ok (okQ_app ho hk' hp), chkE_ok (okQ_app ho hk' hp), many_appAt hk', Int.natCast_add] at this
    have CN : Hid (∀ W, Below w.heap.size w W → Calls Try.prog 16 #[.agg #[.slice A l.length c]] W (Ret (.tuple #[.int .i64 (manyN l : Int), .int .i64 0]) W)) := fun W hW => by
      have := manyG A c vs l W (ha.below hW) hw
      rwa [manyV_ok ho, chkE_ok ho] at this
    have hn : 0 ≤ (manyN l : Int) ∧ (manyN l : Int) ≤ 16384 := by have := ho.1.2.2; omega
    clear ho hk hp hk'
    generalize appAt l k.toNat a = m at *
    generalize (manyN l : Int) = n at *
    have hw1 : IntKind.i64.wrap (n + 1 - n) = 1 := by rw [wrap_in (by omega)]; omega
    have HB0 := Lib.hid (balloc (Below.refl w.heap.size w) (.cells #[.slice A l.length c] 24))
    have F0 : Hid ((w.alloc (.cells #[.slice A l.length c] 24)).cell? ⟨w.heap.size, 0, none⟩ = some (.slice A l.length c)) := by show _ = _; go_simp
    have CP : Hid (∀ (W : World) B, Below w.heap.size w W → RdU W B [a] → Calls Try.prog 10 #[.agg #[.slice A l.length c], .int .i64 k, .slice B 1 1] W (RetGE m 0 W)) := fun W B hW hB => by
      have := pushG A c vs l k B 1 [a] W (ha.below hW) hw hB
      rwa [HE] at this
    have HA := Lib.hid ha
    clear ha HE
    go_enter Try.func6, Try.ntmps6
    go_wp2_with (go_at_call 14; refine (lives14 _).mono ?_)
    rintro e w1 ⟨rfl, hb1⟩
    have k1 := cell_later hb1 F0.out
    have HB1 := Lib.hid (bthen HB0.out hb1)
    have HD2 := Lib.hid (rd_one1 w1 a)
    have HB2 := Lib.hid (balloc HB1.out (.cells #[.int .u64 a] 30))
    have K2 := Lib.hid (cell_later (balloc (Below.refl w1.heap.size w1) (.cells #[.int .u64 a] 30)) k1)
    have X2 := Lib.hid (CP.out (w1.alloc (.cells #[.int .u64 a] 30)) (some ⟨w1.heap.size, 0, none⟩) HB2.out HD2.out)
    have l1 := World.block_lt_of_cell? _ _ k1
    clear hb1 CP F0 HB0
    go_wp2_with (go_at_call 10; refine X2.out.mono ?_)
    rintro e w3 ⟨v, rfl, ⟨vs3, hq3⟩, hb3⟩
    obtain ⟨A3, c3, rfl, _, hr3⟩ := hq3.shape
    have HB4 := Lib.hid (balloc (bthen HB2.out hb3) (.cells #[.slice A3 m.length c3] 24))
    have HR4 := Lib.hid (hr3.below (balloc (Below.refl w3.heap.size w3) (.cells #[.slice A3 m.length c3] 24)))
    have K4 : Hid ((w3.alloc (.cells #[.slice A3 m.length c3] 24)).cell? ⟨w3.heap.size, 0, none⟩ = some (.slice A3 m.length c3)) := by show _ = _; go_simp
    have KA4 := Lib.hid (cell_later (balloc hb3 (.cells #[.slice A3 m.length c3] 24)) K2.out)
    clear hq3 hr3 hb3 X2 k1 l1 HD2 HB1 HB2 K2
    go_upto_region 4 with fail
    generalize (w3.alloc (.cells #[.slice A3 m.length c3] 24)) = w4 at *
    generalize w3.heap.size = b3 at *
    have k4 := K4.out
    have l4 := World.block_lt_of_cell? _ _ k4
    have X4 := Lib.hid (CQ.out w4 A3 c3 vs3 HR4.out)
    clear CQ
    go_wp2_with (go_at_call 12; refine X4.out.mono ?_)
    rintro e w5 ⟨A5, c5, vs5, rfl, hq5, hb5⟩
    have B46 := Lib.hid (balloc hb5 (.cells #[.slice A5 l.length c5] 24))
    have HR6 := Lib.hid (hq5.rd.below (balloc (Below.refl w5.heap.size w5) (.cells #[.slice A5 l.length c5] 24)))
    have K6 : Hid ((w5.alloc (.cells #[.slice A5 l.length c5] 24)).cell? ⟨w5.heap.size, 0, none⟩ = some (.slice A5 l.length c5)) := by show _ = _; go_simp
    clear hq5 hb5 k4 l4 X4
    go_upto_region 7 with fail
    generalize (w5.alloc (.cells #[.slice A5 l.length c5] 24)) = w6 at *
    generalize w5.heap.size = b5 at *
    have HB6 := Lib.hid (bthen HB4.out B46.out)
    have k6 := cell_later B46.out KA4.out
    have l6 := World.block_lt_of_cell? _ _ k6
    have X6 := Lib.hid (CN.out w6 HB6.out)
    go_wp2_with (go_at_call 16; refine X6.out.mono ?_)
    rintro e w7 ⟨rfl, hb7⟩
    have B67 := Lib.hid hb7
    have B47 := Lib.hid (bthen B46.out hb7)
    have k7 := cell_later B47.out K4.out
    have l7 := World.block_lt_of_cell? _ _ k7
    have X7 := Lib.hid (CM.out w7 A3 c3 vs3 (HR4.out.below B47.out))
    clear hb7 k6 l6 X6 CN
    go_wp2_with (go_at_call 16; refine X7.out.mono ?_)
    rintro e w8 ⟨rfl, hb8⟩
    have B68 := Lib.hid (bthen B67.out hb8)
    have KA8 := Lib.hid (cell_later (bthen B46.out B68.out) KA4.out)
    have K8 := Lib.hid (cell_later B68.out K6.out)
    have HB8 := Lib.hid (bthen HB6.out B68.out)
    have CS : Hid (∀ W, Below w8.heap.size w8 W → Calls Try.prog 15 #[.agg #[.slice A l.length c], .agg #[.slice A5 l.length c5]] W (Ret (.bool true) W)) := fun W hW => by
      have := sameQ A A5 c c5 vs vs5 l l W (HA.out.below (bthen HB8.out hW)) (HR6.out.below (bthen B68.out hW))
      rwa [dec_refl] at this
    clear hb8 k7 l7 X7 CM
    have ka := KA8.out
    have kh := K8.out
    have la := World.block_lt_of_cell? _ _ ka
    have lh := World.block_lt_of_cell? _ _ kh
    have X8 := Lib.hid (CS.out w8 (Below.refl _ _))
    clear CS
    go_wp2_with (go_at_call 15; refine X8.out.mono ?_)
    rintro e w9 ⟨rfl, hb9⟩
    have HBW := Lib.hid (bthen HB8.out hb9)
    clear hb9
    go_wp2
    go_ret
    exact ⟨rfl, HBW.out⟩
end Go.Proofs.Ytinjeoohklabpaa
