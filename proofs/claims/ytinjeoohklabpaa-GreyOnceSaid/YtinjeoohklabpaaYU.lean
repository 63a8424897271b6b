/- The walk of the law GreyOnce. -/
import Derived.Test.YtinjeoohklabpaaYT
import Derived.Deep.RegionHeld3
namespace Go.Proofs.Ytinjeoohklabpaa
open Go.RowKit
set_option linter.unusedVariables false
set_option linter.unusedSimpArgs false

set_option maxRecDepth 100000 in
set_option maxHeartbeats 32000000 in
theorem once5 (A : Option Addr) (c : Nat) (vs : List QV) (l : List (List Int)) (B : Option Addr) (wn d : Nat) (w : World) (ha : RdQ w A vs l) (hw : WdQ l) (hB : RdB w B wn) :
    Calls Try.prog 5 #[.agg #[.slice A l.length c], .slice B wn d] w (Ret (.bool true) w) := by
  have hl := ha.len
  have hwn := hB.1
  have CN : Hid (∀ W, Below w.heap.size w W → Calls Try.prog 16 #[.agg #[.slice A l.length c]] W (Ret (.tuple #[.int .i64 (manyV l), .int .i64 (chkE l)]) W)) := fun W hW => manyG A c vs l W (ha.below hW) hw
  by_cases ho : okQ l
  · rw [manyV_ok ho, chkE_ok ho] at CN
    by_cases hbig : 200 < manyN l
    · have hb1 : (200 : Int) < (manyN l : Int) := by omega
      clear ha hw hB ho
      have HB0 := Lib.hid (balloc (Below.refl w.heap.size w) (.cells #[.slice A l.length c] 24))
      have F0 : Hid ((w.alloc (.cells #[.slice A l.length c] 24)).cell? ⟨w.heap.size, 0, none⟩ = some (.slice A l.length c)) := by show _ = _; go_simp
      go_enter Try.func5, Try.ntmps5
      go_wp2_with (go_at_call 14; refine (lives14 _).mono ?_)
      rintro e w1 ⟨rfl, hb1⟩
      have k1 := cell_later hb1 F0.out
      have l1 := World.block_lt_of_cell? _ _ k1
      have HB1 := Lib.hid (bthen HB0.out hb1)
      have K1 := Lib.hid k1
      have X1 := Lib.hid (CN.out w1 HB1.out)
      clear hb1 CN
      go_wp2_with (go_at_call 16; refine X1.out.mono ?_)
      rintro e w2 ⟨rfl, hb2⟩
      have k2 := cell_later hb2 K1.out
      have l2 := World.block_lt_of_cell? _ _ k2
      have HB2 := Lib.hid (bthen HB1.out hb2)
      clear hb2 k1 l1 X1 K1 HB1 HB0 F0
      go_wp2
      go_ret
      exact ⟨rfl, HB2.out⟩
    · have hb1 : ¬ (200 : Int) < (manyN l : Int) := by omega
      have hl1 : 1 ≤ l.length := ho.1.1
      have hl4 : l.length ≤ 4 := ho.1.2.1
      have hl0 : ¬ l = [] := fun e => by simp [e] at hl1
      have CH : Hid (∀ W x, Below w.heap.size w W → hasN l x = 1 → Calls Try.prog 22 #[.agg #[.slice A l.length c], .int .u64 x] W (Ret (.int .i64 1) W)) := fun W x hW h1 => by
        have := hasQ A c vs l x W (ha.below hW) (by omega)
        rwa [h1] at this
      have HOK := Lib.hid ho
      have HWD := Lib.hid hw
      have HA := Lib.hid ha
      have HBY := Lib.hid hB
      clear ha hw hB ho
      have HB0 := Lib.hid (balloc (Below.refl w.heap.size w) (.cells #[.slice A l.length c] 24))
      have F0 : Hid ((w.alloc (.cells #[.slice A l.length c] 24)).cell? ⟨w.heap.size, 0, none⟩ = some (.slice A l.length c)) := by show _ = _; go_simp
      go_enter Try.func5, Try.ntmps5
      go_wp2_with (go_at_call 14; refine (lives14 _).mono ?_)
      rintro e w1 ⟨rfl, hb1⟩
      have k1 := cell_later hb1 F0.out
      have l1 := World.block_lt_of_cell? _ _ k1
      have HB1 := Lib.hid (bthen HB0.out hb1)
      have K1 := Lib.hid k1
      have X1 := Lib.hid (CN.out w1 HB1.out)
      clear hb1 CN
      go_wp2_with (go_at_call 16; refine X1.out.mono ?_)
      rintro e w2 ⟨rfl, hb2⟩
      have k2 := cell_later hb2 K1.out
      have l2 := World.block_lt_of_cell? _ _ k2
      have HB2 := Lib.hid (bthen HB1.out hb2)
      clear hb2 k1 l1 X1 K1 HB1 HB0 F0
      go_upto_region 7 with fail
      have HB4 := Lib.hid (balloc HB2.out (.cells #[.slice A l.length c] 24))
      have KA4 := Lib.hid (cell_later (balloc (Below.refl w2.heap.size w2) (.cells #[.slice A l.length c] 24)) k2)
      have K4 : Hid ((w2.alloc (.cells #[.slice A l.length c] 24)).cell? ⟨w2.heap.size, 0, none⟩ = some (.slice A l.length c)) := by show _ = _; go_simp
      have Z4 : Hid ((w2.alloc (.cells #[.slice A l.length c] 24)).frozen? ⟨w2.heap.size, 0, none⟩ = false) := by show _ = _; go_simp
      have S4 : Hid (w2.heap.size + 1 ≤ (w2.alloc (.cells #[.slice A l.length c] 24)).heap.size) := by show _ ≤ _; simp
      have HLT := Lib.hid l2
      clear k2 l2 HB2
      generalize (w2.alloc (.cells #[.slice A l.length c] 24)) = w4 at *
      generalize w2.heap.size = b7 at *
      go_wp2
      go_loopw [8, 9] (fun p i wr => ∃ (j : Nat) (ps : List Int) (A3 : Option Addr) (c3 : Nat) (vs3 : List QV) (cur : List (List Int)), j ≤ manyN l ∧ i = .int .i64 j ∧ Hid (OnceR l w4 b7 p ps wr A3 c3 vs3 cur j)) (fun _ i _ => manyN l - (intOf i).toNat)
      case atStart => exact ⟨0, [], A, c, vs, l, Nat.zero_le _, rfl, ⟨OnceS.start HOK.out HWD.out, OwU.nil_ _ _, HA.out.below HB4.out, K4.out, Z4.out, Below.refl _ _, S4.out⟩⟩
      case round =>
        obtain ⟨j, ps, A3, c3, vs3, cur, hj, rfl, HR⟩ := hrel
        obtain ⟨wo, rfl⟩ : ∃ wo : World, wo = wr := ⟨_, rfl⟩
        obtain ⟨P, cp, rfl, hcp, hrp⟩ := HR.out.own.shape
        have HPL := Lib.hid HR.out.pl.pl
        have hps : ps.length ≤ 200 := by have := HPL.out; omega
        by_cases hjl : j < manyN l
        · have hjl1 : (j : Int) < (manyN l : Int) := by omega
          by_cases hwn0 : 0 < wn
          · have hwn1 : (0 : Int) < (wn : Int) := by omega
            have hjm : j % wn < wn := Nat.mod_lt _ hwn0
            have htj : (j : Int).tmod (wn : Int) = ((j % wn : Nat) : Int) := (Int.ofNat_tmod _ _).symm
            obtain ⟨bb, oo, eB, hlt, x, hx, hc⟩ := HBY.out.2 (j % wn) hjm
            subst eB
            have hbx := cell_later (HB4.out.trans (HR.out.below.mono (Nat.le_of_lt HLT.out))) hc
            have hw8 : IntKind.i64.wrap (x : Int) = (x : Int) := wrap_in (by omega)
            generalize j % wn = jm at *
            have hjm1 : (jm : Int) < (wn : Int) := by omega
            have mb := World.block_lt_of_cell? _ _ hbx
            clear hc hlt
            go_upto_region 14 with fail
            clear hbx mb
            have HPR : Hid (Took cur (x % l.length) (popP cur (x % l.length : Nat))) := HR.out.pl.took hjl (Nat.mod_lt _ (by omega))
            have htm : (x : Int).tmod (l.length : Int) = ((x % l.length : Nat) : Int) := (Int.ofNat_tmod _ _).symm
            have CPX : Hid (∀ W, Below wo.heap.size wo W → Calls Try.prog 12 #[.agg #[.slice A3 l.length c3], .int .i64 ((x % l.length : Nat) : Int)] W (RetTk l.length (popP cur (x % l.length : Nat)).q (popP cur (x % l.length : Nat)).a (popP cur (x % l.length : Nat)).st W)) := fun W hW => by
              have h1 := popG A3 c3 vs3 cur (x % l.length : Nat) W (HR.out.rd.below hW) HR.out.pl.wd
              rw [HR.out.pl.len] at h1
              exact h1.mono (fun e w' ⟨A', c', vs', h1, h2, h3⟩ => ⟨A', c', vs', by rw [h1, HPR.out.len, HPR.out.e, HR.out.pl.len], h2, h3⟩)
            have HN := Lib.hid (HR.out.pl.next HPR.out)
            have HONE := Lib.hid (HR.out.pl.one HOK.out HPR.out)
            have HNEW : Hid (∀ (q : Nat) z, ps[q]? = some z → (popP cur (x % l.length : Nat)).a ≠ z) := fun q z hx => HR.out.pl.new HPR.out hx
            clear HPR
            have hmb : (x % l.length) < l.length := Nat.mod_lt _ (by omega)
            generalize (popP cur (x % l.length : Nat)).q = q5 at *
            generalize (popP cur (x % l.length : Nat)).a = x5 at *
            generalize (popP cur (x % l.length : Nat)).st = st5 at *
            generalize x % l.length = mm at *
            have k7 := HR.out.cell
            have k2 := (HR.out.below.cell (p := ⟨w.heap.size, 0, none⟩) HLT.out).trans KA4.out
            have HD : Hid (Below wo.heap.size wo wo.drew) := (Below.refl _ _).drew
            have HDA : Hid (∀ o, Below wo.heap.size wo (wo.drew.alloc o)) := fun o => balloc (Below.refl _ _).drew o
            have m7 := World.block_lt_of_cell? _ _ k7
            have m2 := World.block_lt_of_cell? _ _ k2
            go_cut [11, 12, 14] (fun x11 x12 x14 wx => CutO wo l.length q5 x5 x11 x12 x14 wx)
            case first =>
              refine wp_region_held_drew (S := fun w' => w'.cell? ⟨b7, 0, none⟩ = some (.slice A3 l.length c3) ∧ w'.cell? ⟨w.heap.size, 0, none⟩ = some (.slice A l.length c)) (by kernel_rfl) ⟨k7, k2⟩ (fun hHeld => ?_)
              refine wpAnyH_take (i := 0) (oi := _) (v := ?_) rfl (by kernel_rfl) (by kernel_rfl) (by kernel_rfl) (fun _ _ _ h => h) (Or.inl ⟨by rfl, ?_⟩) (by assumption) ?_
              rotate_left
              · intro w hSw
                try dsimp only at hSw
                obtain ⟨hS1, hS2⟩ := hSw
                go_simp
                all_goals with_reducible rfl
              try simp only [Act.put, List.setIfInBounds_toArray, List.set_cons_zero, List.set_cons_succ]
              refine wpAnyH_take (i := 1) (oi := _) (v := ?_) rfl (by kernel_rfl) (by kernel_rfl) (by kernel_rfl) (fun _ _ _ h => h) (Or.inl ⟨by rfl, ?_⟩) (by assumption) ?_
              rotate_left
              · intro w hSw
                try dsimp only at hSw
                obtain ⟨hS1, hS2⟩ := hSw
                go_simp
                all_goals with_reducible rfl
              try simp only [Act.put, List.setIfInBounds_toArray, List.set_cons_zero, List.set_cons_succ]
              refine wpAnyH_take (i := 2) (oi := _) (v := ?_) rfl (by kernel_rfl) (by kernel_rfl) (by kernel_rfl) (fun _ _ _ h => h) (Or.inl ⟨by rfl, ?_⟩) (by assumption) ?_
              rotate_left
              · intro w hSw
                try dsimp only at hSw
                obtain ⟨hS1, hS2⟩ := hSw
                go_simp
                all_goals with_reducible rfl
              try simp only [Act.put, List.setIfInBounds_toArray, List.set_cons_zero, List.set_cons_succ]
              refine wpAnyH_take (i := 3) (oi := _) (v := ?_) rfl (by kernel_rfl) (by kernel_rfl) (by kernel_rfl) (fun _ _ _ h => h) (Or.inl ⟨by rfl, ?_⟩) (by assumption) ?_
              rotate_left
              · intro w hSw
                try dsimp only at hSw
                obtain ⟨hS1, hS2⟩ := hSw
                go_simp
                all_goals with_reducible rfl
              try simp only [Act.put, List.setIfInBounds_toArray, List.set_cons_zero, List.set_cons_succ]
              refine wpAnyH_take (i := 4) (oi := _) (v := ?_) rfl (by kernel_rfl) (by kernel_rfl) (by kernel_rfl) (fun _ _ _ h => h) (Or.inl ⟨by rfl, ?_⟩) (by assumption) ?_
              rotate_left
              · intro w hSw
                try dsimp only at hSw
                obtain ⟨hS1, hS2⟩ := hSw
                go_simp
                all_goals with_reducible rfl
              try simp only [Act.put, List.setIfInBounds_toArray, List.set_cons_zero, List.set_cons_succ]
              refine wpAnyH_take (i := 5) (oi := _) (v := ?_) rfl (by kernel_rfl) (by kernel_rfl) (by kernel_rfl) (fun _ _ _ h => h) (Or.inl ⟨by rfl, ?_⟩) (by assumption) ?_
              rotate_left
              · intro w hSw
                try dsimp only at hSw
                obtain ⟨hS1, hS2⟩ := hSw
                go_simp
                all_goals with_reducible rfl
              try simp only [Act.put, List.setIfInBounds_toArray, List.set_cons_zero, List.set_cons_succ]
              refine wpAnyH_ready (rs := [6, 12]) (by kernel_rfl) (by simp) ?_
              refine AllReadyH.cons (o := _) rfl (fun K hK => ?_) (AllReadyH.cons (o := _) rfl (fun K hK => ?_) AllReadyH.nil)
              · go_simp
                go_at_call 12
                refine (CPX.out _ HD.out).mono ?_
                rintro e w5 ⟨A5, c5, vs5, rfl, hq5, hb5⟩
                have HB5 : Hid (Below wo.heap.size wo w5) := bthen HD.out hb5
                have HQ5 := Lib.hid hq5
                clear hq5 hb5 CPX
                go_simp
                refine hK.out _ _ ⟨cell_later HB5.out k7, cell_later HB5.out k2⟩ (fun hHeld => ?_)
                clear hK K
                try simp only [Act.put, List.setIfInBounds_toArray, List.set_cons_zero, List.set_cons_succ]
                refine wpAnyH_take (i := 7) (oi := _) (v := ?_) rfl (by kernel_rfl) (by kernel_rfl) (by kernel_rfl) (fun _ _ _ h => h) (Or.inl ⟨by rfl, ?_⟩) (by assumption) ?_
                rotate_left
                · intro w hSw
                  try dsimp only at hSw
                  obtain ⟨hS1, hS2⟩ := hSw
                  go_simp
                  all_goals with_reducible rfl
                try simp only [Act.put, List.setIfInBounds_toArray, List.set_cons_zero, List.set_cons_succ]
                refine wpAnyH_take (i := 8) (oi := _) (v := ?_) rfl (by kernel_rfl) (by kernel_rfl) (by kernel_rfl) (fun _ _ _ h => h) (Or.inl ⟨by rfl, ?_⟩) (by assumption) ?_
                rotate_left
                · intro w hSw
                  try dsimp only at hSw
                  obtain ⟨hS1, hS2⟩ := hSw
                  go_simp
                  all_goals with_reducible rfl
                try simp only [Act.put, List.setIfInBounds_toArray, List.set_cons_zero, List.set_cons_succ]
                refine wpAnyH_take (i := 9) (oi := _) (v := ?_) rfl (by kernel_rfl) (by kernel_rfl) (by kernel_rfl) (fun _ _ _ h => h) (Or.inl ⟨by rfl, ?_⟩) (by assumption) ?_
                rotate_left
                · intro w hSw
                  try dsimp only at hSw
                  obtain ⟨hS1, hS2⟩ := hSw
                  go_simp
                  all_goals with_reducible rfl
                try simp only [Act.put, List.setIfInBounds_toArray, List.set_cons_zero, List.set_cons_succ]
                refine wpAnyH_take (i := 10) (oi := _) (v := ?_) rfl (by kernel_rfl) (by kernel_rfl) (by kernel_rfl) (fun _ _ _ h => h) (Or.inl ⟨by rfl, ?_⟩) (by assumption) ?_
                rotate_left
                · intro w hSw
                  try dsimp only at hSw
                  obtain ⟨hS1, hS2⟩ := hSw
                  go_simp
                  all_goals with_reducible rfl
                try simp only [Act.put, List.setIfInBounds_toArray, List.set_cons_zero, List.set_cons_succ]
                refine wpAnyH_take (i := 11) (oi := _) (v := ?_) rfl (by kernel_rfl) (by kernel_rfl) (by kernel_rfl) (fun _ _ _ h => h) (Or.inl ⟨by rfl, ?_⟩) (by assumption) ?_
                rotate_left
                · intro w hSw
                  try dsimp only at hSw
                  obtain ⟨hS1, hS2⟩ := hSw
                  go_simp
                  all_goals with_reducible rfl
                try simp only [Act.put, List.setIfInBounds_toArray, List.set_cons_zero, List.set_cons_succ]
                refine wpAnyH_ready (rs := [12]) (by kernel_rfl) (by simp) ?_
                refine AllReadyH.cons (o := _) rfl (fun K hK => ?_) AllReadyH.nil
                go_simp
                refine hK.out _ _ ⟨cell_later (balloc HB5.out _) k7, cell_later (balloc HB5.out _) k2⟩ (fun hHeld => ?_)
                clear hK K
                try simp only [Act.put, List.setIfInBounds_toArray, List.set_cons_zero, List.set_cons_succ]
                refine wpAnyH_ready (rs := [13]) (by kernel_rfl) (by simp) ?_
                refine AllReadyH.cons (o := _) rfl (fun K hK => ?_) AllReadyH.nil
                go_simp
                refine hK.out _ _ ⟨cell_later (balloc HB5.out _) k7, cell_later (balloc HB5.out _) k2⟩ (fun hHeld => ?_)
                clear hK K
                try simp only [Act.put, List.setIfInBounds_toArray, List.set_cons_zero, List.set_cons_succ]
                refine wpAnyH_take (i := 14) (oi := _) (v := ?_) rfl (by kernel_rfl) (by kernel_rfl) (by kernel_rfl) (fun _ _ _ h => h) (Or.inl ⟨by rfl, ?_⟩) (by assumption) ?_
                rotate_left
                · intro w hSw
                  try dsimp only at hSw
                  obtain ⟨hS1, hS2⟩ := hSw
                  go_simp
                  all_goals with_reducible rfl
                try simp only [Act.put, List.setIfInBounds_toArray, List.set_cons_zero, List.set_cons_succ]
                refine wpAnyH_take (i := 15) (oi := _) (v := ?_) rfl (by kernel_rfl) (by kernel_rfl) (by kernel_rfl) (fun _ _ _ h => h) (Or.inl ⟨by rfl, ?_⟩) (by assumption) ?_
                rotate_left
                · intro w hSw
                  try dsimp only at hSw
                  obtain ⟨hS1, hS2⟩ := hSw
                  go_simp
                  all_goals with_reducible rfl
                try simp only [Act.put, List.setIfInBounds_toArray, List.set_cons_zero, List.set_cons_succ]
                refine wpAnyH_take (i := 16) (oi := _) (v := ?_) rfl (by kernel_rfl) (by kernel_rfl) (by kernel_rfl) (fun _ _ _ h => h) (Or.inl ⟨by rfl, ?_⟩) (by assumption) ?_
                rotate_left
                · intro w hSw
                  try dsimp only at hSw
                  obtain ⟨hS1, hS2⟩ := hSw
                  go_simp
                  all_goals with_reducible rfl
                try simp only [Act.put, List.setIfInBounds_toArray, List.set_cons_zero, List.set_cons_succ]
                refine wpAnyH_done (by kernel_rfl) ?_ _
                go_wp2_with fail
                go_meet
                exact cutO_al HQ5.out HB5.out (Nat.le_refl _)
              · go_simp
                refine hK.out _ _ ⟨cell_later (HDA.out _) k7, cell_later (HDA.out _) k2⟩ (fun hHeld => ?_)
                clear hK K
                try simp only [Act.put, List.setIfInBounds_toArray, List.set_cons_zero, List.set_cons_succ]
                refine wpAnyH_ready (rs := [6]) (by kernel_rfl) (by simp) ?_
                refine AllReadyH.cons (o := _) rfl (fun K hK => ?_) AllReadyH.nil
                go_simp
                go_at_call 12
                refine (CPX.out _ (HDA.out _)).mono ?_
                rintro e w5 ⟨A5, c5, vs5, rfl, hq5, hb5⟩
                have HB5 : Hid (Below wo.heap.size wo w5) := bthen (HDA.out _) hb5
                have HQ5 := Lib.hid hq5
                have HU5 := Lib.hid (cell_later hb5 (show (wo.drew.alloc (.cells #[.slice none 0 0] 24)).cell? ⟨wo.heap.size, 0, none⟩ = some (.slice none 0 0) from by go_simp))
                have z5 := (hb5.frozen (p := ⟨wo.heap.size, 0, none⟩) (by simp)).trans (show (wo.drew.alloc (.cells #[.slice none 0 0] 24)).frozen? ⟨wo.heap.size, 0, none⟩ = false from by go_simp)
                have u5 := HU5.out
                have mu := World.block_lt_of_cell? _ _ u5
                have nk7 : (⟨wo.heap.size, 0, none⟩ : Addr) ≠ ⟨b7, 0, none⟩ := fun e => World.new_ne _ _ k7 (by injection e)
                have nk2 : (⟨wo.heap.size, 0, none⟩ : Addr) ≠ ⟨w.heap.size, 0, none⟩ := fun e => World.new_ne _ _ k2 (by injection e)
                clear hq5 hb5 CPX
                go_simp
                refine hK.out _ _ ⟨cell_later HB5.out k7, cell_later HB5.out k2⟩ (fun hHeld => ?_)
                clear hK K
                try simp only [Act.put, List.setIfInBounds_toArray, List.set_cons_zero, List.set_cons_succ]
                refine wpAnyH_take (i := 7) (oi := _) (v := ?_) rfl (by kernel_rfl) (by kernel_rfl) (by kernel_rfl) (fun _ _ _ h => h) (Or.inl ⟨by rfl, ?_⟩) (by assumption) ?_
                rotate_left
                · intro w hSw
                  try dsimp only at hSw
                  obtain ⟨hS1, hS2⟩ := hSw
                  go_simp
                  all_goals with_reducible rfl
                try simp only [Act.put, List.setIfInBounds_toArray, List.set_cons_zero, List.set_cons_succ]
                refine wpAnyH_take (i := 8) (oi := _) (v := ?_) rfl (by kernel_rfl) (by kernel_rfl) (by kernel_rfl) (fun _ _ _ h => h) (Or.inl ⟨by rfl, ?_⟩) (by assumption) ?_
                rotate_left
                · intro w hSw
                  try dsimp only at hSw
                  obtain ⟨hS1, hS2⟩ := hSw
                  go_simp
                  all_goals with_reducible rfl
                try simp only [Act.put, List.setIfInBounds_toArray, List.set_cons_zero, List.set_cons_succ]
                refine wpAnyH_take (i := 9) (oi := _) (v := ?_) rfl (by kernel_rfl) (by kernel_rfl) (by kernel_rfl) (fun _ _ _ h => h) (Or.inl ⟨by rfl, ?_⟩) (by assumption) ?_
                rotate_left
                · intro w hSw
                  try dsimp only at hSw
                  obtain ⟨hS1, hS2⟩ := hSw
                  go_simp
                  all_goals with_reducible rfl
                try simp only [Act.put, List.setIfInBounds_toArray, List.set_cons_zero, List.set_cons_succ]
                refine wpAnyH_take (i := 10) (oi := _) (v := ?_) rfl (by kernel_rfl) (by kernel_rfl) (by kernel_rfl) (fun _ _ _ h => h) (Or.inl ⟨by rfl, ?_⟩) (by assumption) ?_
                rotate_left
                · intro w hSw
                  try dsimp only at hSw
                  obtain ⟨hS1, hS2⟩ := hSw
                  go_simp
                  all_goals with_reducible rfl
                try simp only [Act.put, List.setIfInBounds_toArray, List.set_cons_zero, List.set_cons_succ]
                refine wpAnyH_take (i := 11) (oi := _) (v := ?_) rfl (by kernel_rfl) (by kernel_rfl) (by kernel_rfl) (fun _ _ _ h => h) (Or.inl ⟨by rfl, ?_⟩) (by assumption) ?_
                rotate_left
                · intro w hSw
                  try dsimp only at hSw
                  obtain ⟨hS1, hS2⟩ := hSw
                  go_simp
                  all_goals with_reducible rfl
                try simp only [Act.put, List.setIfInBounds_toArray, List.set_cons_zero, List.set_cons_succ]
                refine wpAnyH_ready (rs := [13]) (by kernel_rfl) (by simp) ?_
                refine AllReadyH.cons (o := _) rfl (fun K hK => ?_) AllReadyH.nil
                go_simp
                refine hK.out _ _ ⟨(World.cell?_setCell_other (h := nk7) ..).trans (cell_later HB5.out k7), (World.cell?_setCell_other (h := nk2) ..).trans (cell_later HB5.out k2)⟩ (fun hHeld => ?_)
                clear hK K
                try simp only [Act.put, List.setIfInBounds_toArray, List.set_cons_zero, List.set_cons_succ]
                refine wpAnyH_take (i := 14) (oi := _) (v := ?_) rfl (by kernel_rfl) (by kernel_rfl) (by kernel_rfl) (fun _ _ _ h => h) (Or.inl ⟨by rfl, ?_⟩) (by assumption) ?_
                rotate_left
                · intro w hSw
                  try dsimp only at hSw
                  obtain ⟨hS1, hS2⟩ := hSw
                  go_simp
                  all_goals with_reducible rfl
                try simp only [Act.put, List.setIfInBounds_toArray, List.set_cons_zero, List.set_cons_succ]
                refine wpAnyH_take (i := 15) (oi := _) (v := ?_) rfl (by kernel_rfl) (by kernel_rfl) (by kernel_rfl) (fun _ _ _ h => h) (Or.inl ⟨by rfl, ?_⟩) (by assumption) ?_
                rotate_left
                · intro w hSw
                  try dsimp only at hSw
                  obtain ⟨hS1, hS2⟩ := hSw
                  go_simp
                  all_goals with_reducible rfl
                try simp only [Act.put, List.setIfInBounds_toArray, List.set_cons_zero, List.set_cons_succ]
                refine wpAnyH_take (i := 16) (oi := _) (v := ?_) rfl (by kernel_rfl) (by kernel_rfl) (by kernel_rfl) (fun _ _ _ h => h) (Or.inl ⟨by rfl, ?_⟩) (by assumption) ?_
                rotate_left
                · intro w hSw
                  try dsimp only at hSw
                  obtain ⟨hS1, hS2⟩ := hSw
                  go_simp
                  all_goals with_reducible rfl
                try simp only [Act.put, List.setIfInBounds_toArray, List.set_cons_zero, List.set_cons_succ]
                refine wpAnyH_done (by kernel_rfl) ?_ _
                go_wp2_with fail
                go_meet
                exact cutO_pre (by simpa using HQ5.out) HB5.out HU5.out
            case rest =>
              obtain ⟨b11, A5, c5, vs5, rfl, rfl, rfl, hc11, hb11, hq5, hbx⟩ := hcut
              clear CPX HD HDA k7 k2 m7 m2
              have HQ5 := Lib.hid hq5
              have HBX := Lib.hid hbx
              have H11 := Lib.hid hb11
              have k2 := cell_later hbx ((HR.out.below.cell (p := ⟨w.heap.size, 0, none⟩) HLT.out).trans KA4.out)
              have HBR : Hid (Below w.heap.size w wo) := HB4.out.trans (HR.out.below.mono (Nat.le_of_lt HLT.out))
              have X1 := Lib.hid (CH.out wc x5 (bthen HBR.out hbx) HONE.out)
              have X2 : Hid (∀ W, Below wc.heap.size wc W → Calls Try.prog 20 #[.agg #[.slice A5 l.length c5]] W (Ret (.int .i64 0) W)) := fun W hW => by
                have := checkG A5 c5 vs5 q5 W (HQ5.out.rd.below hW) HN.out.wd
                rwa [chkE_ok HN.out.ok, HN.out.len] at this
              have m2 := World.block_lt_of_cell? _ _ k2
              have K11 := Lib.hid hc11
              clear hq5 hbx hc11 hb11
              go_wp2_with (go_at_call 22; refine X1.out.mono ?_)
              rintro e w6 ⟨rfl, hb6⟩
              have HB6 := Lib.hid hb6
              have k11 := cell_later hb6 K11.out
              have m11 := World.block_lt_of_cell? _ _ k11
              clear hb6 k2 m2 X1
              go_wp2_with (go_at_call 20; refine (X2.out _ HB6.out).mono ?_)
              rintro e w7 ⟨rfl, hb7⟩
              have HB7 := Lib.hid (bthen HB6.out hb7)
              have HRP := Lib.hid (hrp.below (bthen HBX.out HB7.out))
              clear hb7 k11 m11 X2 HB6 hrp
              go_wp2
              go_loopw [79] (fun i w8 => ∃ q : Nat, q ≤ ps.length ∧ i = .int .i64 q ∧ Hid (Below w7.heap.size w7 w8)) (fun i _ => ps.length - (intOf i).toNat)
              case atStart => exact ⟨0, Nat.zero_le _, rfl, Below.refl _ _⟩
              case round =>
                obtain ⟨q, hq, rfl, HB8⟩ := hrel
                obtain ⟨w8, rfl⟩ : ∃ w8 : World, w8 = wr := ⟨_, rfl⟩
                by_cases hqt : q < ps.length
                · have hx : ps[q]? = some ps[q] := List.getElem?_eq_getElem hqt
                  generalize ps[q] = x at hx
                  obtain ⟨b2, o2, e2, _, d0⟩ := HRP.out.at_ hx
                  subst e2
                  have d0 := cell_later HB8.out d0
                  have e1 : (x5 == x) = false := by rw [beq_eq_false_iff_ne]; exact HNEW.out q x hx
                  have e3 : ¬ x5 = x := HNEW.out q x hx
                  clear hx
                  go_wp2
                  go_roundw
                  case rel => exact ⟨q + 1, by omega, by go_num, HB8.out⟩
                  case measure => simp [intOf]; omega
                · have hq' : q = ps.length := by omega
                  subst hq'
                  have HBT : Hid (Below wo.heap.size wo (w8.alloc (.cells #[.int .u64 x5] 30))) := balloc (bthen (bthen HBX.out HB7.out) HB8.out) _
                  have HB11 : Hid (Below wc.heap.size wc (w8.alloc (.cells #[.int .u64 x5] 30))) := balloc (bthen HB7.out HB8.out) _
                  have HOW : Hid (OwU (w8.alloc (.cells #[.int .u64 x5] 30)) (b7 + 1) (.slice P ps.length cp) ps) := HR.out.own.below HBT.out
                  have HX := Lib.hid (rd_one1 w8 x5)
                  have HS1 : Hid (b7 + 1 ≤ (w8.alloc (.cells #[.int .u64 x5] 30)).heap.size) := Nat.le_trans HR.out.sz HBT.out.size
                  go_wp2_with (at_builtin; refine wpl_appU rfl (.tmp 87) (.tmp 89) rfl (b7 + 1) _ ps [x5] rfl HOW.out (some ⟨w8.heap.size, 0, none⟩) 1 rfl HX.out ?h1 HS1.out ?_)
                  case h1 => have := HPL.out; simp; omega
                  intro v' w9 ho hg
                  have HNX := Lib.hid (HR.out.next (c5 := c5) HBT.out (HQ5.out.below HB11.out) ho hg HN.out)
                  have hb7 : b7 < wo.heap.size := Nat.lt_of_succ_le HR.out.sz
                  have ne7 : some b7 ≠ (Value.slice P ps.length cp).ownBlock := fun e => by have := (HR.out.far e.symm).1; omega
                  have ne11 : some b11 ≠ (Value.slice P ps.length cp).ownBlock := fun e => by have := (HR.out.far e.symm).2; have := H11.out; omega
                  have f7 := (hg.cell_far ⟨b7, 0, none⟩ (Nat.lt_of_lt_of_le hb7 HBT.out.size) ne7).trans (cell_later HBT.out HR.out.cell)
                  have z7 := (hg.frozen_far ⟨b7, 0, none⟩ (Nat.lt_of_lt_of_le hb7 HBT.out.size) ne7).trans ((HBT.out.frozen (p := ⟨b7, 0, none⟩) hb7).trans HR.out.fr)
                  have c11 := cell_later HB11.out K11.out
                  have f11 := (hg.cell_far ⟨b11, 0, none⟩ (World.block_lt_of_cell? _ _ c11) ne11).trans c11
                  have mf7 := World.block_lt_of_cell? _ _ f7
                  have mf11 := World.block_lt_of_cell? _ _ f11
                  clear ho hg c11 ne7 ne11
                  go_wp2
                  go_roundw
                  case rel => exact ⟨j + 1, ps ++ [x5], A5, c5, vs5, q5, by omega, by go_num, HNX.out⟩
                  case measure => simp [intOf]; omega
          · have hwn1 : ¬ (0 : Int) < (wn : Int) := by omega
            go_upto_region 14 with fail
            have HPR : Hid (Took cur (j % l.length) (popP cur (j % l.length : Nat))) := HR.out.pl.took hjl (Nat.mod_lt _ (by omega))
            have htm : (j : Int).tmod (l.length : Int) = ((j % l.length : Nat) : Int) := (Int.ofNat_tmod _ _).symm
            have CPX : Hid (∀ W, Below wo.heap.size wo W → Calls Try.prog 12 #[.agg #[.slice A3 l.length c3], .int .i64 ((j % l.length : Nat) : Int)] W (RetTk l.length (popP cur (j % l.length : Nat)).q (popP cur (j % l.length : Nat)).a (popP cur (j % l.length : Nat)).st W)) := fun W hW => by
              have h1 := popG A3 c3 vs3 cur (j % l.length : Nat) W (HR.out.rd.below hW) HR.out.pl.wd
              rw [HR.out.pl.len] at h1
              exact h1.mono (fun e w' ⟨A', c', vs', h1, h2, h3⟩ => ⟨A', c', vs', by rw [h1, HPR.out.len, HPR.out.e, HR.out.pl.len], h2, h3⟩)
            have HN := Lib.hid (HR.out.pl.next HPR.out)
            have HONE := Lib.hid (HR.out.pl.one HOK.out HPR.out)
            have HNEW : Hid (∀ (q : Nat) z, ps[q]? = some z → (popP cur (j % l.length : Nat)).a ≠ z) := fun q z hx => HR.out.pl.new HPR.out hx
            clear HPR
            have hmb : (j % l.length) < l.length := Nat.mod_lt _ (by omega)
            generalize (popP cur (j % l.length : Nat)).q = q5 at *
            generalize (popP cur (j % l.length : Nat)).a = x5 at *
            generalize (popP cur (j % l.length : Nat)).st = st5 at *
            generalize j % l.length = mm at *
            have k7 := HR.out.cell
            have k2 := (HR.out.below.cell (p := ⟨w.heap.size, 0, none⟩) HLT.out).trans KA4.out
            have HD : Hid (Below wo.heap.size wo wo.drew) := (Below.refl _ _).drew
            have HDA : Hid (∀ o, Below wo.heap.size wo (wo.drew.alloc o)) := fun o => balloc (Below.refl _ _).drew o
            have m7 := World.block_lt_of_cell? _ _ k7
            have m2 := World.block_lt_of_cell? _ _ k2
            go_cut [11, 12, 14] (fun x11 x12 x14 wx => CutO wo l.length q5 x5 x11 x12 x14 wx)
            case first =>
              refine wp_region_held_drew (S := fun w' => w'.cell? ⟨b7, 0, none⟩ = some (.slice A3 l.length c3) ∧ w'.cell? ⟨w.heap.size, 0, none⟩ = some (.slice A l.length c)) (by kernel_rfl) ⟨k7, k2⟩ (fun hHeld => ?_)
              refine wpAnyH_take (i := 0) (oi := _) (v := ?_) rfl (by kernel_rfl) (by kernel_rfl) (by kernel_rfl) (fun _ _ _ h => h) (Or.inl ⟨by rfl, ?_⟩) (by assumption) ?_
              rotate_left
              · intro w hSw
                try dsimp only at hSw
                obtain ⟨hS1, hS2⟩ := hSw
                go_simp
                all_goals with_reducible rfl
              try simp only [Act.put, List.setIfInBounds_toArray, List.set_cons_zero, List.set_cons_succ]
              refine wpAnyH_take (i := 1) (oi := _) (v := ?_) rfl (by kernel_rfl) (by kernel_rfl) (by kernel_rfl) (fun _ _ _ h => h) (Or.inl ⟨by rfl, ?_⟩) (by assumption) ?_
              rotate_left
              · intro w hSw
                try dsimp only at hSw
                obtain ⟨hS1, hS2⟩ := hSw
                go_simp
                all_goals with_reducible rfl
              try simp only [Act.put, List.setIfInBounds_toArray, List.set_cons_zero, List.set_cons_succ]
              refine wpAnyH_take (i := 2) (oi := _) (v := ?_) rfl (by kernel_rfl) (by kernel_rfl) (by kernel_rfl) (fun _ _ _ h => h) (Or.inl ⟨by rfl, ?_⟩) (by assumption) ?_
              rotate_left
              · intro w hSw
                try dsimp only at hSw
                obtain ⟨hS1, hS2⟩ := hSw
                go_simp
                all_goals with_reducible rfl
              try simp only [Act.put, List.setIfInBounds_toArray, List.set_cons_zero, List.set_cons_succ]
              refine wpAnyH_take (i := 3) (oi := _) (v := ?_) rfl (by kernel_rfl) (by kernel_rfl) (by kernel_rfl) (fun _ _ _ h => h) (Or.inl ⟨by rfl, ?_⟩) (by assumption) ?_
              rotate_left
              · intro w hSw
                try dsimp only at hSw
                obtain ⟨hS1, hS2⟩ := hSw
                go_simp
                all_goals with_reducible rfl
              try simp only [Act.put, List.setIfInBounds_toArray, List.set_cons_zero, List.set_cons_succ]
              refine wpAnyH_take (i := 4) (oi := _) (v := ?_) rfl (by kernel_rfl) (by kernel_rfl) (by kernel_rfl) (fun _ _ _ h => h) (Or.inl ⟨by rfl, ?_⟩) (by assumption) ?_
              rotate_left
              · intro w hSw
                try dsimp only at hSw
                obtain ⟨hS1, hS2⟩ := hSw
                go_simp
                all_goals with_reducible rfl
              try simp only [Act.put, List.setIfInBounds_toArray, List.set_cons_zero, List.set_cons_succ]
              refine wpAnyH_take (i := 5) (oi := _) (v := ?_) rfl (by kernel_rfl) (by kernel_rfl) (by kernel_rfl) (fun _ _ _ h => h) (Or.inl ⟨by rfl, ?_⟩) (by assumption) ?_
              rotate_left
              · intro w hSw
                try dsimp only at hSw
                obtain ⟨hS1, hS2⟩ := hSw
                go_simp
                all_goals with_reducible rfl
              try simp only [Act.put, List.setIfInBounds_toArray, List.set_cons_zero, List.set_cons_succ]
              refine wpAnyH_ready (rs := [6, 12]) (by kernel_rfl) (by simp) ?_
              refine AllReadyH.cons (o := _) rfl (fun K hK => ?_) (AllReadyH.cons (o := _) rfl (fun K hK => ?_) AllReadyH.nil)
              · go_simp
                go_at_call 12
                refine (CPX.out _ HD.out).mono ?_
                rintro e w5 ⟨A5, c5, vs5, rfl, hq5, hb5⟩
                have HB5 : Hid (Below wo.heap.size wo w5) := bthen HD.out hb5
                have HQ5 := Lib.hid hq5
                clear hq5 hb5 CPX
                go_simp
                refine hK.out _ _ ⟨cell_later HB5.out k7, cell_later HB5.out k2⟩ (fun hHeld => ?_)
                clear hK K
                try simp only [Act.put, List.setIfInBounds_toArray, List.set_cons_zero, List.set_cons_succ]
                refine wpAnyH_take (i := 7) (oi := _) (v := ?_) rfl (by kernel_rfl) (by kernel_rfl) (by kernel_rfl) (fun _ _ _ h => h) (Or.inl ⟨by rfl, ?_⟩) (by assumption) ?_
                rotate_left
                · intro w hSw
                  try dsimp only at hSw
                  obtain ⟨hS1, hS2⟩ := hSw
                  go_simp
                  all_goals with_reducible rfl
                try simp only [Act.put, List.setIfInBounds_toArray, List.set_cons_zero, List.set_cons_succ]
                refine wpAnyH_take (i := 8) (oi := _) (v := ?_) rfl (by kernel_rfl) (by kernel_rfl) (by kernel_rfl) (fun _ _ _ h => h) (Or.inl ⟨by rfl, ?_⟩) (by assumption) ?_
                rotate_left
                · intro w hSw
                  try dsimp only at hSw
                  obtain ⟨hS1, hS2⟩ := hSw
                  go_simp
                  all_goals with_reducible rfl
                try simp only [Act.put, List.setIfInBounds_toArray, List.set_cons_zero, List.set_cons_succ]
                refine wpAnyH_take (i := 9) (oi := _) (v := ?_) rfl (by kernel_rfl) (by kernel_rfl) (by kernel_rfl) (fun _ _ _ h => h) (Or.inl ⟨by rfl, ?_⟩) (by assumption) ?_
                rotate_left
                · intro w hSw
                  try dsimp only at hSw
                  obtain ⟨hS1, hS2⟩ := hSw
                  go_simp
                  all_goals with_reducible rfl
                try simp only [Act.put, List.setIfInBounds_toArray, List.set_cons_zero, List.set_cons_succ]
                refine wpAnyH_take (i := 10) (oi := _) (v := ?_) rfl (by kernel_rfl) (by kernel_rfl) (by kernel_rfl) (fun _ _ _ h => h) (Or.inl ⟨by rfl, ?_⟩) (by assumption) ?_
                rotate_left
                · intro w hSw
                  try dsimp only at hSw
                  obtain ⟨hS1, hS2⟩ := hSw
                  go_simp
                  all_goals with_reducible rfl
                try simp only [Act.put, List.setIfInBounds_toArray, List.set_cons_zero, List.set_cons_succ]
                refine wpAnyH_take (i := 11) (oi := _) (v := ?_) rfl (by kernel_rfl) (by kernel_rfl) (by kernel_rfl) (fun _ _ _ h => h) (Or.inl ⟨by rfl, ?_⟩) (by assumption) ?_
                rotate_left
                · intro w hSw
                  try dsimp only at hSw
                  obtain ⟨hS1, hS2⟩ := hSw
                  go_simp
                  all_goals with_reducible rfl
                try simp only [Act.put, List.setIfInBounds_toArray, List.set_cons_zero, List.set_cons_succ]
                refine wpAnyH_ready (rs := [12]) (by kernel_rfl) (by simp) ?_
                refine AllReadyH.cons (o := _) rfl (fun K hK => ?_) AllReadyH.nil
                go_simp
                refine hK.out _ _ ⟨cell_later (balloc HB5.out _) k7, cell_later (balloc HB5.out _) k2⟩ (fun hHeld => ?_)
                clear hK K
                try simp only [Act.put, List.setIfInBounds_toArray, List.set_cons_zero, List.set_cons_succ]
                refine wpAnyH_ready (rs := [13]) (by kernel_rfl) (by simp) ?_
                refine AllReadyH.cons (o := _) rfl (fun K hK => ?_) AllReadyH.nil
                go_simp
                refine hK.out _ _ ⟨cell_later (balloc HB5.out _) k7, cell_later (balloc HB5.out _) k2⟩ (fun hHeld => ?_)
                clear hK K
                try simp only [Act.put, List.setIfInBounds_toArray, List.set_cons_zero, List.set_cons_succ]
                refine wpAnyH_take (i := 14) (oi := _) (v := ?_) rfl (by kernel_rfl) (by kernel_rfl) (by kernel_rfl) (fun _ _ _ h => h) (Or.inl ⟨by rfl, ?_⟩) (by assumption) ?_
                rotate_left
                · intro w hSw
                  try dsimp only at hSw
                  obtain ⟨hS1, hS2⟩ := hSw
                  go_simp
                  all_goals with_reducible rfl
                try simp only [Act.put, List.setIfInBounds_toArray, List.set_cons_zero, List.set_cons_succ]
                refine wpAnyH_take (i := 15) (oi := _) (v := ?_) rfl (by kernel_rfl) (by kernel_rfl) (by kernel_rfl) (fun _ _ _ h => h) (Or.inl ⟨by rfl, ?_⟩) (by assumption) ?_
                rotate_left
                · intro w hSw
                  try dsimp only at hSw
                  obtain ⟨hS1, hS2⟩ := hSw
                  go_simp
                  all_goals with_reducible rfl
                try simp only [Act.put, List.setIfInBounds_toArray, List.set_cons_zero, List.set_cons_succ]
                refine wpAnyH_take (i := 16) (oi := _) (v := ?_) rfl (by kernel_rfl) (by kernel_rfl) (by kernel_rfl) (fun _ _ _ h => h) (Or.inl ⟨by rfl, ?_⟩) (by assumption) ?_
                rotate_left
                · intro w hSw
                  try dsimp only at hSw
                  obtain ⟨hS1, hS2⟩ := hSw
                  go_simp
                  all_goals with_reducible rfl
                try simp only [Act.put, List.setIfInBounds_toArray, List.set_cons_zero, List.set_cons_succ]
                refine wpAnyH_done (by kernel_rfl) ?_ _
                go_wp2_with fail
                go_meet
                exact cutO_al HQ5.out HB5.out (Nat.le_refl _)
              · go_simp
                refine hK.out _ _ ⟨cell_later (HDA.out _) k7, cell_later (HDA.out _) k2⟩ (fun hHeld => ?_)
                clear hK K
                try simp only [Act.put, List.setIfInBounds_toArray, List.set_cons_zero, List.set_cons_succ]
                refine wpAnyH_ready (rs := [6]) (by kernel_rfl) (by simp) ?_
                refine AllReadyH.cons (o := _) rfl (fun K hK => ?_) AllReadyH.nil
                go_simp
                go_at_call 12
                refine (CPX.out _ (HDA.out _)).mono ?_
                rintro e w5 ⟨A5, c5, vs5, rfl, hq5, hb5⟩
                have HB5 : Hid (Below wo.heap.size wo w5) := bthen (HDA.out _) hb5
                have HQ5 := Lib.hid hq5
                have HU5 := Lib.hid (cell_later hb5 (show (wo.drew.alloc (.cells #[.slice none 0 0] 24)).cell? ⟨wo.heap.size, 0, none⟩ = some (.slice none 0 0) from by go_simp))
                have z5 := (hb5.frozen (p := ⟨wo.heap.size, 0, none⟩) (by simp)).trans (show (wo.drew.alloc (.cells #[.slice none 0 0] 24)).frozen? ⟨wo.heap.size, 0, none⟩ = false from by go_simp)
                have u5 := HU5.out
                have mu := World.block_lt_of_cell? _ _ u5
                have nk7 : (⟨wo.heap.size, 0, none⟩ : Addr) ≠ ⟨b7, 0, none⟩ := fun e => World.new_ne _ _ k7 (by injection e)
                have nk2 : (⟨wo.heap.size, 0, none⟩ : Addr) ≠ ⟨w.heap.size, 0, none⟩ := fun e => World.new_ne _ _ k2 (by injection e)
                clear hq5 hb5 CPX
                go_simp
                refine hK.out _ _ ⟨cell_later HB5.out k7, cell_later HB5.out k2⟩ (fun hHeld => ?_)
                clear hK K
                try simp only [Act.put, List.setIfInBounds_toArray, List.set_cons_zero, List.set_cons_succ]
                refine wpAnyH_take (i := 7) (oi := _) (v := ?_) rfl (by kernel_rfl) (by kernel_rfl) (by kernel_rfl) (fun _ _ _ h => h) (Or.inl ⟨by rfl, ?_⟩) (by assumption) ?_
                rotate_left
                · intro w hSw
                  try dsimp only at hSw
                  obtain ⟨hS1, hS2⟩ := hSw
                  go_simp
                  all_goals with_reducible rfl
                try simp only [Act.put, List.setIfInBounds_toArray, List.set_cons_zero, List.set_cons_succ]
                refine wpAnyH_take (i := 8) (oi := _) (v := ?_) rfl (by kernel_rfl) (by kernel_rfl) (by kernel_rfl) (fun _ _ _ h => h) (Or.inl ⟨by rfl, ?_⟩) (by assumption) ?_
                rotate_left
                · intro w hSw
                  try dsimp only at hSw
                  obtain ⟨hS1, hS2⟩ := hSw
                  go_simp
                  all_goals with_reducible rfl
                try simp only [Act.put, List.setIfInBounds_toArray, List.set_cons_zero, List.set_cons_succ]
                refine wpAnyH_take (i := 9) (oi := _) (v := ?_) rfl (by kernel_rfl) (by kernel_rfl) (by kernel_rfl) (fun _ _ _ h => h) (Or.inl ⟨by rfl, ?_⟩) (by assumption) ?_
                rotate_left
                · intro w hSw
                  try dsimp only at hSw
                  obtain ⟨hS1, hS2⟩ := hSw
                  go_simp
                  all_goals with_reducible rfl
                try simp only [Act.put, List.setIfInBounds_toArray, List.set_cons_zero, List.set_cons_succ]
                refine wpAnyH_take (i := 10) (oi := _) (v := ?_) rfl (by kernel_rfl) (by kernel_rfl) (by kernel_rfl) (fun _ _ _ h => h) (Or.inl ⟨by rfl, ?_⟩) (by assumption) ?_
                rotate_left
                · intro w hSw
                  try dsimp only at hSw
                  obtain ⟨hS1, hS2⟩ := hSw
                  go_simp
                  all_goals with_reducible rfl
                try simp only [Act.put, List.setIfInBounds_toArray, List.set_cons_zero, List.set_cons_succ]
                refine wpAnyH_take (i := 11) (oi := _) (v := ?_) rfl (by kernel_rfl) (by kernel_rfl) (by kernel_rfl) (fun _ _ _ h => h) (Or.inl ⟨by rfl, ?_⟩) (by assumption) ?_
                rotate_left
                · intro w hSw
                  try dsimp only at hSw
                  obtain ⟨hS1, hS2⟩ := hSw
                  go_simp
                  all_goals with_reducible rfl
                try simp only [Act.put, List.setIfInBounds_toArray, List.set_cons_zero, List.set_cons_succ]
                refine wpAnyH_ready (rs := [13]) (by kernel_rfl) (by simp) ?_
                refine AllReadyH.cons (o := _) rfl (fun K hK => ?_) AllReadyH.nil
                go_simp
                refine hK.out _ _ ⟨(World.cell?_setCell_other (h := nk7) ..).trans (cell_later HB5.out k7), (World.cell?_setCell_other (h := nk2) ..).trans (cell_later HB5.out k2)⟩ (fun hHeld => ?_)
                clear hK K
                try simp only [Act.put, List.setIfInBounds_toArray, List.set_cons_zero, List.set_cons_succ]
                refine wpAnyH_take (i := 14) (oi := _) (v := ?_) rfl (by kernel_rfl) (by kernel_rfl) (by kernel_rfl) (fun _ _ _ h => h) (Or.inl ⟨by rfl, ?_⟩) (by assumption) ?_
                rotate_left
                · intro w hSw
                  try dsimp only at hSw
                  obtain ⟨hS1, hS2⟩ := hSw
                  go_simp
                  all_goals with_reducible rfl
                try simp only [Act.put, List.setIfInBounds_toArray, List.set_cons_zero, List.set_cons_succ]
                refine wpAnyH_take (i := 15) (oi := _) (v := ?_) rfl (by kernel_rfl) (by kernel_rfl) (by kernel_rfl) (fun _ _ _ h => h) (Or.inl ⟨by rfl, ?_⟩) (by assumption) ?_
                rotate_left
                · intro w hSw
                  try dsimp only at hSw
                  obtain ⟨hS1, hS2⟩ := hSw
                  go_simp
                  all_goals with_reducible rfl
                try simp only [Act.put, List.setIfInBounds_toArray, List.set_cons_zero, List.set_cons_succ]
                refine wpAnyH_take (i := 16) (oi := _) (v := ?_) rfl (by kernel_rfl) (by kernel_rfl) (by kernel_rfl) (fun _ _ _ h => h) (Or.inl ⟨by rfl, ?_⟩) (by assumption) ?_
                rotate_left
                · intro w hSw
                  try dsimp only at hSw
                  obtain ⟨hS1, hS2⟩ := hSw
                  go_simp
                  all_goals with_reducible rfl
                try simp only [Act.put, List.setIfInBounds_toArray, List.set_cons_zero, List.set_cons_succ]
                refine wpAnyH_done (by kernel_rfl) ?_ _
                go_wp2_with fail
                go_meet
                exact cutO_pre (by simpa using HQ5.out) HB5.out HU5.out
            case rest =>
              obtain ⟨b11, A5, c5, vs5, rfl, rfl, rfl, hc11, hb11, hq5, hbx⟩ := hcut
              clear CPX HD HDA k7 k2 m7 m2
              have HQ5 := Lib.hid hq5
              have HBX := Lib.hid hbx
              have H11 := Lib.hid hb11
              have k2 := cell_later hbx ((HR.out.below.cell (p := ⟨w.heap.size, 0, none⟩) HLT.out).trans KA4.out)
              have HBR : Hid (Below w.heap.size w wo) := HB4.out.trans (HR.out.below.mono (Nat.le_of_lt HLT.out))
              have X1 := Lib.hid (CH.out wc x5 (bthen HBR.out hbx) HONE.out)
              have X2 : Hid (∀ W, Below wc.heap.size wc W → Calls Try.prog 20 #[.agg #[.slice A5 l.length c5]] W (Ret (.int .i64 0) W)) := fun W hW => by
                have := checkG A5 c5 vs5 q5 W (HQ5.out.rd.below hW) HN.out.wd
                rwa [chkE_ok HN.out.ok, HN.out.len] at this
              have m2 := World.block_lt_of_cell? _ _ k2
              have K11 := Lib.hid hc11
              clear hq5 hbx hc11 hb11
              go_wp2_with (go_at_call 22; refine X1.out.mono ?_)
              rintro e w6 ⟨rfl, hb6⟩
              have HB6 := Lib.hid hb6
              have k11 := cell_later hb6 K11.out
              have m11 := World.block_lt_of_cell? _ _ k11
              clear hb6 k2 m2 X1
              go_wp2_with (go_at_call 20; refine (X2.out _ HB6.out).mono ?_)
              rintro e w7 ⟨rfl, hb7⟩
              have HB7 := Lib.hid (bthen HB6.out hb7)
              have HRP := Lib.hid (hrp.below (bthen HBX.out HB7.out))
              clear hb7 k11 m11 X2 HB6 hrp
              go_wp2
              go_loopw [79] (fun i w8 => ∃ q : Nat, q ≤ ps.length ∧ i = .int .i64 q ∧ Hid (Below w7.heap.size w7 w8)) (fun i _ => ps.length - (intOf i).toNat)
              case atStart => exact ⟨0, Nat.zero_le _, rfl, Below.refl _ _⟩
              case round =>
                obtain ⟨q, hq, rfl, HB8⟩ := hrel
                obtain ⟨w8, rfl⟩ : ∃ w8 : World, w8 = wr := ⟨_, rfl⟩
                by_cases hqt : q < ps.length
                · have hx : ps[q]? = some ps[q] := List.getElem?_eq_getElem hqt
                  generalize ps[q] = x at hx
                  obtain ⟨b2, o2, e2, _, d0⟩ := HRP.out.at_ hx
                  subst e2
                  have d0 := cell_later HB8.out d0
                  have e1 : (x5 == x) = false := by rw [beq_eq_false_iff_ne]; exact HNEW.out q x hx
                  have e3 : ¬ x5 = x := HNEW.out q x hx
                  clear hx
                  go_wp2
                  go_roundw
                  case rel => exact ⟨q + 1, by omega, by go_num, HB8.out⟩
                  case measure => simp [intOf]; omega
                · have hq' : q = ps.length := by omega
                  subst hq'
                  have HBT : Hid (Below wo.heap.size wo (w8.alloc (.cells #[.int .u64 x5] 30))) := balloc (bthen (bthen HBX.out HB7.out) HB8.out) _
                  have HB11 : Hid (Below wc.heap.size wc (w8.alloc (.cells #[.int .u64 x5] 30))) := balloc (bthen HB7.out HB8.out) _
                  have HOW : Hid (OwU (w8.alloc (.cells #[.int .u64 x5] 30)) (b7 + 1) (.slice P ps.length cp) ps) := HR.out.own.below HBT.out
                  have HX := Lib.hid (rd_one1 w8 x5)
                  have HS1 : Hid (b7 + 1 ≤ (w8.alloc (.cells #[.int .u64 x5] 30)).heap.size) := Nat.le_trans HR.out.sz HBT.out.size
                  go_wp2_with (at_builtin; refine wpl_appU rfl (.tmp 87) (.tmp 89) rfl (b7 + 1) _ ps [x5] rfl HOW.out (some ⟨w8.heap.size, 0, none⟩) 1 rfl HX.out ?h1 HS1.out ?_)
                  case h1 => have := HPL.out; simp; omega
                  intro v' w9 ho hg
                  have HNX := Lib.hid (HR.out.next (c5 := c5) HBT.out (HQ5.out.below HB11.out) ho hg HN.out)
                  have hb7 : b7 < wo.heap.size := Nat.lt_of_succ_le HR.out.sz
                  have ne7 : some b7 ≠ (Value.slice P ps.length cp).ownBlock := fun e => by have := (HR.out.far e.symm).1; omega
                  have ne11 : some b11 ≠ (Value.slice P ps.length cp).ownBlock := fun e => by have := (HR.out.far e.symm).2; have := H11.out; omega
                  have f7 := (hg.cell_far ⟨b7, 0, none⟩ (Nat.lt_of_lt_of_le hb7 HBT.out.size) ne7).trans (cell_later HBT.out HR.out.cell)
                  have z7 := (hg.frozen_far ⟨b7, 0, none⟩ (Nat.lt_of_lt_of_le hb7 HBT.out.size) ne7).trans ((HBT.out.frozen (p := ⟨b7, 0, none⟩) hb7).trans HR.out.fr)
                  have c11 := cell_later HB11.out K11.out
                  have f11 := (hg.cell_far ⟨b11, 0, none⟩ (World.block_lt_of_cell? _ _ c11) ne11).trans c11
                  have mf7 := World.block_lt_of_cell? _ _ f7
                  have mf11 := World.block_lt_of_cell? _ _ f11
                  clear ho hg c11 ne7 ne11
                  go_wp2
                  go_roundw
                  case rel => exact ⟨j + 1, ps ++ [x5], A5, c5, vs5, q5, by omega, by go_num, HNX.out⟩
                  case measure => simp [intOf]; omega
        · have hj' : j = manyN l := by omega
          subst hj'
          have CPF : Hid (Calls Try.prog 12 #[.agg #[.slice A3 l.length c3], .int .i64 0] wo (RetPop ⟨cur, 0, false, 3⟩ wo)) := by
            have h1 := popG A3 c3 vs3 cur 0 wo HR.out.rd HR.out.pl.wd
            rwa [HR.out.pl.len, HR.out.pl.fin (by omega)] at h1
          have k7 := HR.out.cell
          have m7 := World.block_lt_of_cell? _ _ k7
          have HBR : Hid (Below w.heap.size w wo) := HB4.out.trans (HR.out.below.mono (Nat.le_of_lt HLT.out))
          go_wp2_with (go_at_call 12; refine CPF.out.mono ?_)
          rintro e w5 ⟨A5, c5, vs5, rfl, hq5, hb5⟩
          have HBW := Lib.hid (balloc (bthen HBR.out hb5) (.cells #[.slice A5 cur.length c5] 24))
          clear hq5 hb5
          go_wp2
          go_ret
          exact ⟨rfl, HBW.out⟩
  · rw [manyV_no ho, chkE_no ho] at CN
    clear ha hw hB ho
    have HB0 := Lib.hid (balloc (Below.refl w.heap.size w) (.cells #[.slice A l.length c] 24))
    have F0 : Hid ((w.alloc (.cells #[.slice A l.length c] 24)).cell? ⟨w.heap.size, 0, none⟩ = some (.slice A l.length c)) := by show _ = _; go_simp
    go_enter Try.func5, Try.ntmps5
    go_wp2_with (go_at_call 14; refine (lives14 _).mono ?_)
    rintro e w1 ⟨rfl, hb1⟩
    have k1 := cell_later hb1 F0.out
    have l1 := World.block_lt_of_cell? _ _ k1
    have HB1 := Lib.hid (bthen HB0.out hb1)
    have K1 := Lib.hid k1
    have X1 := Lib.hid (CN.out w1 HB1.out)
    clear hb1 CN
    go_wp2_with (go_at_call 16; refine X1.out.mono ?_)
    rintro e w2 ⟨rfl, hb2⟩
    have k2 := cell_later hb2 K1.out
    have l2 := World.block_lt_of_cell? _ _ k2
    have HB2 := Lib.hid (bthen HB1.out hb2)
    clear hb2 k1 l1 X1 K1 HB1 HB0 F0
    go_wp2
    go_ret
    exact ⟨rfl, HB2.out⟩
end Go.Proofs.Ytinjeoohklabpaa
