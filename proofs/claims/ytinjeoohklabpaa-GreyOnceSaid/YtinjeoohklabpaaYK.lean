/- The walk of the law GreyDoes. -/
import Derived.Test.YtinjeoohklabpaaYJ
namespace Go.Proofs.Ytinjeoohklabpaa
open Go.RowKit
set_option linter.unusedVariables false
set_option linter.unusedSimpArgs false

theorem dec_refl {α : Type} [DecidableEq α] (x : α) : decide (x = x) = true := decide_eq_true rfl
set_option maxRecDepth 100000 in
set_option maxHeartbeats 16000000 in
theorem does3 (A : Option Addr) (c : Nat) (vs : List QV) (l : List (List Int)) (k : Int) (B : Option Addr) (d : Nat) (ds : List Int) (w : World) (ha : RdQ w A vs l) (hw : WdQ l) (hz : smallQ l) (hd : RdU w B ds) :
    Calls Try.prog 3 #[.agg #[.slice A l.length c], .int .i64 k, .slice B ds.length d] w (Ret (.bool true) w) := by
  have hl := ha.len
  have hdl := hd.len
  have HB0 := Lib.hid (balloc (Below.refl w.heap.size w) (.cells #[.slice A l.length c] 24))
  have F0 : Hid ((w.alloc (.cells #[.slice A l.length c] 24)).cell? ⟨w.heap.size, 0, none⟩ = some (.slice A l.length c)) := by show _ = _; go_simp
  have CP : Hid (∀ W, Below w.heap.size w W → Calls Try.prog 9 #[.agg #[.slice A l.length c]] W (RetG l W)) := fun W hW => copyQ A c vs l W (ha.below hW) hz
  have CPR : Hid (∀ W, Below w.heap.size w W → Calls Try.prog 11 #[.agg #[.slice A l.length c], .int .i64 k, .slice B ds.length d] W (RetGE (pushP l k ds).1 (pushP l k ds).2 W)) := fun W hW => pushR A c vs l k B d ds W (ha.below hW) (hd.below hW)
  have CQR : Hid (∀ W, Below w.heap.size w W → Calls Try.prog 13 #[.agg #[.slice A l.length c], .int .i64 k] W (RetPop (popP l k) W)) := fun W hW => popR A c vs l k W (ha.below hW)
  have CPG : Hid (∀ W A1 c1 vs1, Below w.heap.size w W → RdQ W A1 vs1 l → Calls Try.prog 10 #[.agg #[.slice A1 l.length c1], .int .i64 k, .slice B ds.length d] W (RetGE (pushP l k ds).1 (pushP l k ds).2 W)) := fun W A1 c1 vs1 hW h => pushG A1 c1 vs1 l k B d ds W h hw (hd.below hW)
  have CQG : Hid (∀ W A1 c1 vs1, RdQ W A1 vs1 l → Calls Try.prog 12 #[.agg #[.slice A1 l.length c1], .int .i64 k] W (RetPop (popP l k) W)) := fun W A1 c1 vs1 h => popG A1 c1 vs1 l k W h hw
  have CS : Hid (∀ W A1 c1 vs1 A2 c2 vs2 (m : List (List Int)), RdQ W A1 vs1 m → RdQ W A2 vs2 m → Calls Try.prog 15 #[.agg #[.slice A1 m.length c1], .agg #[.slice A2 m.length c2]] W (Ret (.bool true) W)) := fun W A1 c1 vs1 A2 c2 vs2 m h1 h2 => by
    have := sameQ A1 A2 c1 c2 vs1 vs2 m m W h1 h2
    rwa [dec_refl] at this
  have HA := Lib.hid ha
  clear ha hw hz hd
  generalize pushP l k ds = P at *
  generalize popP l k = p at *
  obtain ⟨P1, P2⟩ := P
  obtain ⟨pq, pa, ps, pe⟩ := p
  simp only at CPR CPG
  go_enter Try.func3, Try.ntmps3
  go_wp2_with (go_at_call 9; refine (CP.out _ HB0.out).mono ?_)
  rintro e w1 ⟨v, rfl, ⟨vs1, hq1⟩, hb1⟩
  obtain ⟨A1, c1, rfl, _, hr1⟩ := hq1.shape
  have HB2 := Lib.hid (balloc (bthen HB0.out hb1) (.cells #[.slice A1 l.length c1] 24))
  have HR2 := Lib.hid (hr1.below (balloc (Below.refl w1.heap.size w1) (.cells #[.slice A1 l.length c1] 24)))
  have K2 : Hid ((w1.alloc (.cells #[.slice A1 l.length c1] 24)).cell? ⟨w1.heap.size, 0, none⟩ = some (.slice A1 l.length c1)) := by show _ = _; go_simp
  have K0 := Lib.hid (cell_later (balloc hb1 (.cells #[.slice A1 l.length c1] 24)) F0.out)
  clear hq1 hr1 hb1 F0
  go_upto_region 2 with fail
  generalize (w1.alloc (.cells #[.slice A1 l.length c1] 24)) = w2 at *
  generalize w1.heap.size = b1 at *
  have k2 := K2.out
  have l2 := World.block_lt_of_cell? _ _ k2
  have X2 := Lib.hid (CPG.out w2 A1 c1 vs1 HB2.out HR2.out)
  go_wp2_with (go_at_call 10; refine X2.out.mono ?_)
  rintro e w3 ⟨v, rfl, ⟨vs3, hq3⟩, hb3⟩
  obtain ⟨A3, c3, rfl, _, hr3⟩ := hq3.shape
  have B24 := Lib.hid (balloc hb3 (.cells #[.slice A3 P1.length c3] 24))
  have HR4 := Lib.hid (hr3.below (balloc (Below.refl w3.heap.size w3) (.cells #[.slice A3 P1.length c3] 24)))
  have K4 : Hid ((w3.alloc (.cells #[.slice A3 P1.length c3] 24)).cell? ⟨w3.heap.size, 0, none⟩ = some (.slice A3 P1.length c3)) := by show _ = _; go_simp
  clear hq3 hr3 hb3 k2 l2 X2
  go_upto_region 3 with fail
  generalize (w3.alloc (.cells #[.slice A3 P1.length c3] 24)) = w4 at *
  generalize w3.heap.size = b3 at *
  have k4 := cell_later B24.out K0.out
  have l4 := World.block_lt_of_cell? _ _ k4
  have X4 := Lib.hid (CPR.out w4 (bthen HB2.out B24.out))
  go_wp2_with (go_at_call 11; refine X4.out.mono ?_)
  rintro e w5 ⟨v, rfl, ⟨vs5, hq5⟩, hb5⟩
  obtain ⟨A5, c5, rfl, _, hr5⟩ := hq5.shape
  have B46 := Lib.hid (balloc hb5 (.cells #[.slice A5 P1.length c5] 24))
  have HR6 := Lib.hid (hr5.below (balloc (Below.refl w5.heap.size w5) (.cells #[.slice A5 P1.length c5] 24)))
  have K6 : Hid ((w5.alloc (.cells #[.slice A5 P1.length c5] 24)).cell? ⟨w5.heap.size, 0, none⟩ = some (.slice A5 P1.length c5)) := by show _ = _; go_simp
  clear hq5 hr5 hb5 k4 l4 X4
  go_upto_region 4 with fail
  generalize (w5.alloc (.cells #[.slice A5 P1.length c5] 24)) = w6 at *
  generalize w5.heap.size = b5 at *
  have B26 := Lib.hid (bthen B24.out B46.out)
  have k6 := cell_later B26.out K2.out
  have l6 := World.block_lt_of_cell? _ _ k6
  have X6 := Lib.hid (CQG.out w6 A1 c1 vs1 (HR2.out.below B26.out))
  go_wp2_with (go_at_call 12; refine X6.out.mono ?_)
  rintro e w7 ⟨A7, c7, vs7, rfl, hq7, hb7⟩
  have B68 := Lib.hid (balloc hb7 (.cells #[.slice A7 pq.length c7] 24))
  have HR8 := Lib.hid (hq7.rd.below (balloc (Below.refl w7.heap.size w7) (.cells #[.slice A7 pq.length c7] 24)))
  have K8 : Hid ((w7.alloc (.cells #[.slice A7 pq.length c7] 24)).cell? ⟨w7.heap.size, 0, none⟩ = some (.slice A7 pq.length c7)) := by show _ = _; go_simp
  clear hq7 hb7 k6 l6 X6
  go_upto_region 5 with fail
  generalize (w7.alloc (.cells #[.slice A7 pq.length c7] 24)) = w8 at *
  generalize w7.heap.size = b7 at *
  have B28 := Lib.hid (bthen B26.out B68.out)
  have k8 := cell_later B28.out K0.out
  have l8 := World.block_lt_of_cell? _ _ k8
  have X8 := Lib.hid (CQR.out w8 (bthen HB2.out B28.out))
  go_wp2_with (go_at_call 13; refine X8.out.mono ?_)
  rintro e w9 ⟨A9, c9, vs9, rfl, hq9, hb9⟩
  have B810 := Lib.hid (balloc hb9 (.cells #[.slice A9 pq.length c9] 24))
  have HR10 := Lib.hid (hq9.rd.below (balloc (Below.refl w9.heap.size w9) (.cells #[.slice A9 pq.length c9] 24)))
  have K10 : Hid ((w9.alloc (.cells #[.slice A9 pq.length c9] 24)).cell? ⟨w9.heap.size, 0, none⟩ = some (.slice A9 pq.length c9)) := by show _ = _; go_simp
  clear hq9 hb9 k8 l8 X8
  go_upto_region 6 with fail
  generalize (w9.alloc (.cells #[.slice A9 pq.length c9] 24)) = w10 at *
  generalize w9.heap.size = b9 at *
  go_wp2_with (go_at_call 14; refine (lives14 _).mono ?_)
  rintro e w11 ⟨rfl, hb11⟩
  have B11 := Lib.hid hb11
  have B611 := Lib.hid (bthen (bthen B68.out B810.out) hb11)
  have k11a := cell_later (bthen B46.out B611.out) K4.out
  have k11b := cell_later B611.out K6.out
  have l11a := World.block_lt_of_cell? _ _ k11a
  have l11b := World.block_lt_of_cell? _ _ k11b
  have X11 := Lib.hid (CS.out w11 A3 c3 vs3 A5 c5 vs5 P1 (HR4.out.below (bthen B46.out B611.out)) (HR6.out.below B611.out))
  clear hb11
  go_wp2_with (go_at_call 15; refine X11.out.mono ?_)
  rintro e w12 ⟨rfl, hb12⟩
  have B1012 := Lib.hid (bthen B11.out hb12)
  have k12a := cell_later (bthen B810.out B1012.out) K8.out
  have k12b := cell_later B1012.out K10.out
  have l12a := World.block_lt_of_cell? _ _ k12a
  have l12b := World.block_lt_of_cell? _ _ k12b
  have X12 := Lib.hid (CS.out w12 A7 c7 vs7 A9 c9 vs9 pq (HR8.out.below (bthen B810.out B1012.out)) (HR10.out.below B1012.out))
  clear hb12 k11a k11b l11a l11b X11
  go_wp2_with (go_at_call 15; refine X12.out.mono ?_)
  rintro e w13 ⟨rfl, hb13⟩
  have B213 := Lib.hid (bthen B28.out (bthen B810.out (bthen B1012.out hb13)))
  have k13a := cell_later B213.out K2.out
  have k13b := cell_later B213.out K0.out
  have l13a := World.block_lt_of_cell? _ _ k13a
  have l13b := World.block_lt_of_cell? _ _ k13b
  have X13 := Lib.hid (CS.out w13 A1 c1 vs1 A c vs l (HR2.out.below B213.out) (HA.out.below (bthen HB2.out B213.out)))
  clear hb13 k12a k12b l12a l12b X12
  go_wp2_with (go_at_call 15; refine X13.out.mono ?_)
  rintro e w14 ⟨rfl, hb14⟩
  have B14 := Lib.hid (bthen (bthen HB2.out B213.out) hb14)
  clear hb14
  go_wp2
  go_ret
  exact ⟨rfl, B14.out⟩
end Go.Proofs.Ytinjeoohklabpaa
