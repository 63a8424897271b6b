/- The walk of the law GreyAsks. -/
import Derived.Test.YtinjeoohklabpaaYK
namespace Go.Proofs.Ytinjeoohklabpaa
open Go.RowKit
set_option linter.unusedVariables false
set_option linter.unusedSimpArgs false

set_option maxRecDepth 100000 in
set_option maxHeartbeats 16000000 in
theorem asks4 (A : Option Addr) (c : Nat) (vs : List QV) (l : List (List Int)) (n : Int) (w : World) (ha : RdQ w A vs l) (hw : WdQ l) :
    Calls Try.prog 4 #[.agg #[.slice A l.length c], .int .i64 n] w (Ret (.bool true) w) := by
  have hl := ha.len
  have HB0 := Lib.hid (balloc (Below.refl w.heap.size w) (.cells #[.slice A l.length c] 24))
  have F0 : Hid ((w.alloc (.cells #[.slice A l.length c] 24)).cell? ⟨w.heap.size, 0, none⟩ = some (.slice A l.length c)) := by show _ = _; go_simp
  have CMG : Hid (∀ W, Below w.heap.size w W → Calls Try.prog 16 #[.agg #[.slice A l.length c]] W (Ret (.tuple #[.int .i64 (manyV l), .int .i64 (chkE l)]) W)) := fun W hW => manyG A c vs l W (ha.below hW) hw
  have CMR : Hid (∀ W, Below w.heap.size w W → Calls Try.prog 17 #[.agg #[.slice A l.length c]] W (Ret (.tuple #[.int .i64 (manyV l), .int .i64 (chkE l)]) W)) := fun W hW => manyRr A c vs l W (ha.below hW)
  have CKG : Hid (∀ W, Below w.heap.size w W → Calls Try.prog 20 #[.agg #[.slice A l.length c]] W (Ret (.int .i64 (chkE l)) W)) := fun W hW => checkG A c vs l W (ha.below hW) hw
  have CKR : Hid (∀ W, Below w.heap.size w W → Calls Try.prog 21 #[.agg #[.slice A l.length c]] W (Ret (.int .i64 (chkE l)) W)) := fun W hW => checkR A c vs l W (ha.below hW)
  have CG : Hid (∀ W, Calls Try.prog 18 #[.int .i64 n] W (RetGE (makeQ n) (makeE n) W)) := fun W => makeG n W
  have CR : Hid (∀ W, Calls Try.prog 19 #[.int .i64 n] W (RetGE (makeQ n) (makeE n) W)) := fun W => makeR n W
  clear ha hw
  generalize manyV l = mv at *
  generalize chkE l = ce at *
  generalize makeQ n = mq at *
  generalize makeE n = me at *
  go_enter Try.func4, Try.ntmps4
  go_wp2_with (go_at_call 16; refine (CMG.out _ HB0.out).mono ?_)
  rintro e w1 ⟨rfl, hb1⟩
  have HB1 := Lib.hid (bthen HB0.out hb1)
  have k1 := cell_later hb1 F0.out
  clear hb1
  go_wp2_with (go_at_call 17; refine (CMR.out _ HB1.out).mono ?_)
  rintro e w2 ⟨rfl, hb2⟩
  have HB2 := Lib.hid (bthen HB1.out hb2)
  have K2 := Lib.hid (cell_later hb2 k1)
  clear hb2 k1 F0
  go_wp2_with (go_at_call 18; refine (CG.out _).mono ?_)
  rintro e w3 ⟨v, rfl, ⟨vs3, hq3⟩, hb3⟩
  obtain ⟨A3, c3, rfl, _, hr3⟩ := hq3.shape
  have HB4 := Lib.hid (balloc (bthen HB2.out hb3) (.cells #[.slice A3 mq.length c3] 24))
  have HR4 := Lib.hid (hr3.below (balloc (Below.refl w3.heap.size w3) (.cells #[.slice A3 mq.length c3] 24)))
  have K4 : Hid ((w3.alloc (.cells #[.slice A3 mq.length c3] 24)).cell? ⟨w3.heap.size, 0, none⟩ = some (.slice A3 mq.length c3)) := by show _ = _; go_simp
  have KB4 := Lib.hid (cell_later (balloc hb3 (.cells #[.slice A3 mq.length c3] 24)) K2.out)
  clear hq3 hr3 hb3 K2
  go_upto_region 4 with fail
  generalize (w3.alloc (.cells #[.slice A3 mq.length c3] 24)) = w4 at *
  generalize w3.heap.size = b3 at *
  go_wp2_with (go_at_call 19; refine (CR.out _).mono ?_)
  rintro e w5 ⟨v, rfl, ⟨vs5, hq5⟩, hb5⟩
  obtain ⟨A5, c5, rfl, _, hr5⟩ := hq5.shape
  have B46 := Lib.hid (balloc hb5 (.cells #[.slice A5 mq.length c5] 24))
  have HR6 := Lib.hid (hr5.below (balloc (Below.refl w5.heap.size w5) (.cells #[.slice A5 mq.length c5] 24)))
  have X1 : Hid ((w5.alloc (.cells #[.slice A5 mq.length c5] 24)).cell? ⟨w5.heap.size, 0, none⟩ = some (.slice A5 mq.length c5)) := by show _ = _; go_simp
  clear hq5 hr5 hb5
  go_upto_region 5 with fail
  have X2 := Lib.hid (cell_later B46.out K4.out)
  have X3 := Lib.hid (cell_later B46.out KB4.out)
  have HR46 := Lib.hid (HR4.out.below B46.out)
  have HB6 := Lib.hid (bthen HB4.out B46.out)
  generalize (w5.alloc (.cells #[.slice A5 mq.length c5] 24)) = w6 at *
  generalize w5.heap.size = b5 at *
  have CS : Hid (∀ W, Below w6.heap.size w6 W → Calls Try.prog 15 #[.agg #[.slice A3 mq.length c3], .agg #[.slice A5 mq.length c5]] W (Ret (.bool true) W)) := fun W hW => by
    have := sameQ A3 A5 c3 c5 vs3 vs5 mq mq W (HR46.out.below hW) (HR6.out.below hW)
    rwa [dec_refl] at this
  clear CMG CMR CG CR K4 KB4 HR4
  refine region_up (by kernel_rfl) (by kernel_rfl) ?_
  go_big_quiet_want
  apply Exists.intro
  refine ⟨fun W hW => ?_, ?_⟩
  · have g0 := cell_later hW X1.out
    have g1 := cell_later hW X2.out
    have g2 := cell_later hW X3.out
    go_simp
    exact call_up hW (lives14 W)
  simp only [Act.put, List.setIfInBounds_toArray, List.set_cons_succ, List.set_cons_zero]
  go_big_quiet_on
  iterate 13
    go_big_quiet_want
    apply Exists.intro
    refine ⟨fun W hW => ?_, ?_⟩
    · have g0 := cell_later hW X1.out
      have g1 := cell_later hW X2.out
      have g2 := cell_later hW X3.out
      go_simp
      all_goals exact rfl
    simp only [Act.put, List.setIfInBounds_toArray, List.set_cons_succ, List.set_cons_zero]
    go_big_quiet_on
  go_big_quiet_want
  apply Exists.intro
  refine ⟨fun W hW => ?_, ?_⟩
  · have g0 := cell_later hW X1.out
    have g1 := cell_later hW X2.out
    have g2 := cell_later hW X3.out
    go_simp
    exact call_up hW (CS.out W hW)
  simp only [Act.put, List.setIfInBounds_toArray, List.set_cons_succ, List.set_cons_zero]
  go_big_quiet_on
  iterate 8
    go_big_quiet_want
    apply Exists.intro
    refine ⟨fun W hW => ?_, ?_⟩
    · have g0 := cell_later hW X1.out
      have g1 := cell_later hW X2.out
      have g2 := cell_later hW X3.out
      go_simp
      all_goals exact rfl
    simp only [Act.put, List.setIfInBounds_toArray, List.set_cons_succ, List.set_cons_zero]
    go_big_quiet_on
  go_big_quiet_want
  apply Exists.intro
  refine ⟨fun W hW => ?_, ?_⟩
  · have g0 := cell_later hW X1.out
    have g1 := cell_later hW X2.out
    have g2 := cell_later hW X3.out
    go_simp
    exact call_up hW (CKG.out W (bthen HB6.out hW))
  simp only [Act.put, List.setIfInBounds_toArray, List.set_cons_succ, List.set_cons_zero]
  go_big_quiet_on
  go_big_quiet_want
  apply Exists.intro
  refine ⟨fun W hW => ?_, ?_⟩
  · have g0 := cell_later hW X1.out
    have g1 := cell_later hW X2.out
    have g2 := cell_later hW X3.out
    go_simp
    all_goals exact rfl
  simp only [Act.put, List.setIfInBounds_toArray, List.set_cons_succ, List.set_cons_zero]
  go_big_quiet_on
  go_big_quiet_want
  apply Exists.intro
  refine ⟨fun W hW => ?_, ?_⟩
  · have g0 := cell_later hW X1.out
    have g1 := cell_later hW X2.out
    have g2 := cell_later hW X3.out
    go_simp
    exact call_up hW (CKR.out W (bthen HB6.out hW))
  simp only [Act.put, List.setIfInBounds_toArray, List.set_cons_succ, List.set_cons_zero]
  go_big_quiet_on
  iterate 3
    go_big_quiet_want
    apply Exists.intro
    refine ⟨fun W hW => ?_, ?_⟩
    · have g0 := cell_later hW X1.out
      have g1 := cell_later hW X2.out
      have g2 := cell_later hW X3.out
      go_simp
      all_goals exact rfl
    simp only [Act.put, List.setIfInBounds_toArray, List.set_cons_succ, List.set_cons_zero]
    go_big_quiet_on
  refine wpQuiet_nil ?_
  intro W hW
  have HBW := Lib.hid (bthen HB6.out hW)
  clear hW
  go_wp2
  go_ret
  exact ⟨rfl, HBW.out⟩
end Go.Proofs.Ytinjeoohklabpaa
