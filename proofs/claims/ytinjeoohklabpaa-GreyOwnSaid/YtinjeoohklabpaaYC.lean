/- The walk of put: one word into a queue of the crew's own. -/
import Derived.Test.YtinjeoohklabpaaYL
import Derived.Deep.RegionHeld3
namespace Go.Proofs.Ytinjeoohklabpaa
open Go.RowKit
set_option linter.unusedVariables false
set_option linter.unusedSimpArgs false

set_option maxRecDepth 100000 in
set_option maxHeartbeats 16000000 in
theorem putC (A : Option Addr) (b c k base : Nat) (vs : List QV) (l : List (List Int)) (a : Int) (w : World) (hq : OwQs w base (.slice A l.length c) vs l) (hbx : BoxG w b 48 A l.length c) (hk : k < l.length) (hm : manyN l ≤ 16384) (hbase : base ≤ w.heap.size) :
    Calls Try.prog 24 #[.pointer (some ⟨b, 0, none⟩), .int .i64 k, .int .u64 a] w (PutP base b A c l k a w) := by
  have hb1 : Below w.heap.size w (w.alloc (.cells #[.int .u64 a] 30)) := balloc (Below.refl _ _) _
  obtain ⟨A', c', e, _, hrd⟩ := hq.shape
  injection e with e1 e2 e3
  subst e1
  subst e3
  have hl := hrd.len
  have HQ := Lib.hid hq
  have HBX := Lib.hid hbx
  have HB1 := Lib.hid hb1
  have hlt := hbx.lt
  have kb := hbx.var
  unfold VarG at kb
  by_cases h0 : a = 0
  · have E : Hid (putE l a = 7) := by show _ = _; simp [putE, h0]
    have EQ : Hid (putQ l k a = l) := by show _ = _; unfold putQ; rw [E.out]; rfl
    have e0 : (a == 0) = true := by simp [h0]
    clear h0 hq hbx hb1 hrd hm
    go_enter Try.func24, Try.ntmps24
    go_wp2
    go_ret
    refine ⟨vs, by rw [E.out]; rfl, ?_, HBX.out.below HB1.out, HB1.out.mono hbase⟩
    rw [EQ.out]
    exact HQ.out.below HB1.out
  have e0 : (a == 0) = false := by simp [h0]
  have HF : Hid (Calls Try.prog 34 #[.slice A l.length c, .func (.func 35) #[] #[.pointer (some ⟨w.heap.size, 0, none⟩)]] (w.alloc (.cells #[.int .u64 a] 30)) (Ret (.bool (inQ l a)) (w.alloc (.cells #[.int .u64 a] 30)))) :=
    findQ A c vs l a w.heap.size _ (hrd.below hb1) (by go_simp)
  have HMC : Hid (∀ W, Below w.heap.size w W → Calls Try.prog 28 #[.pointer (some ⟨b, 0, none⟩)] W (ManyP l W)) := fun W hW => manyC A b c vs l W (hrd.below hW) ((hbx.below hW).var)
  have H0 := Lib.hid h0
  cases hin : inQ l a
  · rw [hin] at HF
    have HIN := Lib.hid hin
    have HM := Lib.hid hm
    clear h0 hq hbx hb1 hrd hm hin
    have f5 : Hid ((w.alloc (.cells #[.int .u64 a] 30)).cell? ⟨w.heap.size, 0, none⟩ = some (.int .u64 a)) := by show _ = _; go_simp
    go_enter Try.func24, Try.ntmps24
    go_wp2_with (go_at_call 34; refine HF.out.mono ?_)
    rintro e w1 ⟨rfl, hb2⟩
    have HB2 := Lib.hid (bthen HB1.out hb2)
    have k5 := cell_later hb2 f5.out
    have kb1 := cell_later HB2.out kb
    have hlt1 := World.block_lt_of_cell? _ _ k5
    have hlt2 := World.block_lt_of_cell? _ _ kb1
    clear hb2 HF f5 kb hlt
    go_wp2_with (go_at_call 28; refine (HMC.out _ HB2.out).mono ?_)
    rintro e w3 ⟨n, hn1, hn2, hn3, rfl, hb3⟩
    have hn := hn1 HM.out
    subst hn
    have HB3 := Lib.hid (bthen HB2.out hb3)
    have k6 := cell_later hb3 k5
    have kb2 := cell_later hb3 kb1
    have hlt3 := World.block_lt_of_cell? _ _ k6
    have hlt4 := World.block_lt_of_cell? _ _ kb2
    clear hb3 HMC hn1 hn2 k5 kb1 hlt1 hlt2
    by_cases hfull : manyN l = 16384
    · have E : Hid (putE l a = 6) := by show _ = _; unfold putE; rw [if_neg H0.out, if_neg (by rw [HIN.out]; simp), if_pos hfull]
      have EQ : Hid (putQ l k a = l) := by show _ = _; unfold putQ; rw [E.out]; rfl
      rw [hfull]
      have hf1 : ((16384 : Nat) : Int) = 16384 := rfl
      go_wp2
      go_ret
      refine ⟨vs, by rw [E.out]; rfl, ?_, HBX.out.below HB3.out, HB3.out.mono hbase⟩
      rw [EQ.out]
      exact HQ.out.below HB3.out
    · have hf1 : ((manyN l : Int) == 16384) = false := by rw [beq_eq_false_iff_ne]; omega
      have hf2 : (manyN l == 16384) = false := by rw [beq_eq_false_iff_ne]; omega
      have hf3 : manyN l ≠ 16384 := hfull
      have E : Hid (putE l a = 0) := by show _ = _; unfold putE; rw [if_neg H0.out, if_neg (by rw [HIN.out]; simp), if_neg hfull]
      have hs : l[k]? = some l[k] := List.getElem?_eq_getElem hk
      generalize l[k] = s at hs
      have EQ : Hid (putQ l k a = l.set k (s ++ [a])) := by show _ = _; unfold putQ appAt; rw [E.out, hs]; rfl
      have hkv : k < vs.length := by rw [HQ.out.len]; exact hk
      have hv : vs[k]? = some vs[k] := List.getElem?_eq_getElem hkv
      generalize vs[k] = v at hv
      obtain ⟨G, eG⟩ := own_form HQ.out.row (by omega)
      subst eG
      have HQ3 := Lib.hid (HQ.out.below HB3.out)
      have HBX3 := Lib.hid (HBX.out.below HB3.out)
      have hE := HQ3.out.each k v s hv hs
      obtain ⟨d1, d2⟩ := own_cell (u := .slice v.A v.n v.c) (k := k) (HQ.out.len ▸ HQ3.out.row : w3.ownsRow _ _ 1 (.slice (some ⟨G, 0, none⟩) vs.length c) vs.length (sl vs)) (by rw [sl_get _ _ _ hv])
      have hGl := World.block_lt_of_cell? _ _ d1
      have HNB : Hid (some b ≠ v.v.ownBlock) := HBX3.out.far hE.row (by decide)
      have HNG : Hid (some G ≠ v.v.ownBlock) := fun e => own_tag HQ3.out.row hE.row (by decide) (k := G) rfl e.symm
      have hGb : b ≠ G := fun e => HBX3.out.far HQ3.out.row (by decide) (by rw [e]; rfl)
      have HGB := Lib.hid (HQ3.out.row.lt G rfl).1
      have hX : Below w3.heap.size w3 (w3.alloc (.cells #[.int .u64 a] 30)).drew := (balloc (Below.refl _ _) _).drew
      have HX := Lib.hid hX
      have hEX := hE.below hX
      have hsl : s.length ≤ 16384 := by
        have h1 := manyN_succ hs
        have h2 := manyN_take l (k + 1)
        have := HM.out
        omega
      have hvn := hE.n
      have HOX : Hid (OwU (w3.alloc (.cells #[.int .u64 a] 30)).drew base v.v s) := hEX.row
      have HRX : Hid ((w3.alloc (.cells #[.int .u64 a] 30)).drew.cell? ⟨w3.heap.size, 0, none⟩ = some (.int .u64 a)) := by show _ = _; go_simp
      have HSX : Hid (s.length ≤ 100000) := by show _ ≤ _; omega
      have HBSX : Hid (base ≤ (w3.alloc (.cells #[.int .u64 a] 30)).drew.heap.size) := Nat.le_trans hbase (Nat.le_trans HB3.out.size hX.size)
      have HLX : Hid (∀ k, v.v.ownBlock = some k → base ≤ k) := fun k hk => (hE.row.lt k hk).1
      have HV := Lib.hid hv
      have HS := Lib.hid hs
      have K1 := Lib.hid (cell_later hX kb2)
      have K5 := Lib.hid (cell_later hX k6)
      have HNW : Hid (∀ g cap : Nat, some w.heap.size ≠ v.v.ownBlock) := fun _ _ e => by
        have hE0 := HQ.out.each k v s hv hs
        have := (hE0.row.lt _ e.symm).2
        omega
      have D1 := Lib.hid (cell_later hX d1)
      have D2 : Hid ((w3.alloc (.cells #[.int .u64 a] 30)).drew.frozen? ⟨G, k, none⟩ = false) := (hX.frozen (p := ⟨G, k, none⟩) hGl).trans d2
      have HXS := Lib.hid hX.size
      obtain ⟨v1, v2, v3⟩ := v
      simp only at hvn d1
      subst hvn
      have hkl1 : (k : Int) < (l.length : Int) := by omega
      clear hE hEX hv hs hkv hX hfull
      simp only [QV.v] at HOX HNB HNG HLX HNW
      go_wp2
      have hk0 : (0 : Int) ≤ (k : Int) := Int.natCast_nonneg _
      have hk0 : (0 : Int) ≤ (k : Int) := Int.natCast_nonneg _
      have n1 : (⟨G, k, none⟩ : Addr) ≠ ⟨b, 0, none⟩ := fun e => hGb (by injection e with e; exact e.symm)
      have n2 : (⟨G, k, none⟩ : Addr) ≠ ⟨w.heap.size, 0, none⟩ := fun e => by
        injection e with e
        obtain ⟨_, _, h⟩ := own_block HQ.out.row (k := G) rfl
        omega
      refine wp_region_held_drew (S := fun w' => w'.cell? ⟨b, 0, none⟩ = some (.slice (some ⟨G, 0, none⟩) l.length c) ∧ w'.cell? ⟨w.heap.size, 0, none⟩ = some (.int .u64 a)) (by kernel_rfl) ⟨kb2, k6⟩ (fun hHeld => ?_)
      refine wpAnyH_take (i := 0) (oi := _) (v := ?_) rfl (by kernel_rfl) (by kernel_rfl) (by kernel_rfl) (fun _ _ _ h => h) (Or.inl ⟨by rfl, ?_⟩) (by assumption) ?_
      rotate_left
      · intro w hSw
        try dsimp only at hSw
        obtain ⟨hS1, hS2⟩ := hSw
        go_simp
        all_goals with_reducible rfl
      try simp only [Act.put, List.setIfInBounds_toArray, List.set_cons_zero, List.set_cons_succ]
      refine wpAnyH_take (i := 1) (oi := _) (v := ?_) rfl (by kernel_rfl) (by kernel_rfl) (by kernel_rfl) (fun _ _ _ h => h) (Or.inl ⟨by rfl, ?_⟩) (by assumption) ?_
      rotate_left
      · intro w hSw
        try dsimp only at hSw
        obtain ⟨hS1, hS2⟩ := hSw
        go_simp
        all_goals with_reducible rfl
      try simp only [Act.put, List.setIfInBounds_toArray, List.set_cons_zero, List.set_cons_succ]
      refine wpAnyH_take (i := 2) (oi := _) (v := ?_) rfl (by kernel_rfl) (by kernel_rfl) (by kernel_rfl) (fun _ _ _ h => h) (Or.inl ⟨by rfl, ?_⟩) (by assumption) ?_
      rotate_left
      · intro w hSw
        try dsimp only at hSw
        obtain ⟨hS1, hS2⟩ := hSw
        go_simp
        all_goals with_reducible rfl
      try simp only [Act.put, List.setIfInBounds_toArray, List.set_cons_zero, List.set_cons_succ]
      refine wpAnyH_take (i := 3) (oi := _) (v := ?_) rfl (by kernel_rfl) (by kernel_rfl) (by kernel_rfl) (fun _ _ _ h => h) (Or.inl ⟨by rfl, ?_⟩) (by assumption) ?_
      rotate_left
      · intro w hSw
        try dsimp only at hSw
        obtain ⟨hS1, hS2⟩ := hSw
        go_simp
        all_goals with_reducible rfl
      try simp only [Act.put, List.setIfInBounds_toArray, List.set_cons_zero, List.set_cons_succ]
      refine wpAnyH_take (i := 4) (oi := _) (v := ?_) rfl (by kernel_rfl) (by kernel_rfl) (by kernel_rfl) (fun _ _ _ h => h) (Or.inl ⟨by rfl, ?_⟩) (by assumption) ?_
      rotate_left
      · intro w hSw
        try dsimp only at hSw
        obtain ⟨hS1, hS2⟩ := hSw
        go_simp
        all_goals with_reducible rfl
      try simp only [Act.put, List.setIfInBounds_toArray, List.set_cons_zero, List.set_cons_succ]
      refine wpAnyH_take (i := 5) (oi := _) (v := ?_) rfl (by kernel_rfl) (by kernel_rfl) (by kernel_rfl) (fun _ _ _ h => h) (Or.inl ⟨by rfl, ?_⟩) (by assumption) ?_
      rotate_left
      · intro w hSw
        try dsimp only at hSw
        obtain ⟨hS1, hS2⟩ := hSw
        go_simp
        all_goals with_reducible rfl
      try simp only [Act.put, List.setIfInBounds_toArray, List.set_cons_zero, List.set_cons_succ]
      refine wpAnyH_take (i := 6) (oi := _) (v := ?_) rfl (by kernel_rfl) (by kernel_rfl) (by kernel_rfl) (fun _ _ _ h => h) (Or.inl ⟨by rfl, ?_⟩) (by assumption) ?_
      rotate_left
      · intro w hSw
        try dsimp only at hSw
        obtain ⟨hS1, hS2⟩ := hSw
        go_simp
        all_goals with_reducible rfl
      try simp only [Act.put, List.setIfInBounds_toArray, List.set_cons_zero, List.set_cons_succ]
      refine wpAnyH_take (i := 7) (oi := _) (v := ?_) rfl (by kernel_rfl) (by kernel_rfl) (by kernel_rfl) (fun _ _ _ h => h) (Or.inl ⟨by rfl, ?_⟩) (by assumption) ?_
      rotate_left
      · intro w hSw
        try dsimp only at hSw
        obtain ⟨hS1, hS2⟩ := hSw
        go_simp
        all_goals with_reducible rfl
      try simp only [Act.put, List.setIfInBounds_toArray, List.set_cons_zero, List.set_cons_succ]
      refine wpAnyH_take (i := 8) (oi := _) (v := ?_) rfl (by kernel_rfl) (by kernel_rfl) (by kernel_rfl) (fun _ _ _ h => h) (Or.inl ⟨by rfl, ?_⟩) (by assumption) ?_
      rotate_left
      · intro w hSw
        try dsimp only at hSw
        obtain ⟨hS1, hS2⟩ := hSw
        go_simp
        all_goals with_reducible rfl
      try simp only [Act.put, List.setIfInBounds_toArray, List.set_cons_zero, List.set_cons_succ]
      refine wpAnyH_take (i := 9) (oi := _) (v := ?_) rfl (by kernel_rfl) (by kernel_rfl) (by kernel_rfl) (fun _ _ _ h => h) (Or.inl ⟨by rfl, ?_⟩) (by assumption) ?_
      rotate_left
      · intro w hSw
        try dsimp only at hSw
        obtain ⟨hS1, hS2⟩ := hSw
        go_simp
        all_goals with_reducible rfl
      try simp only [Act.put, List.setIfInBounds_toArray, List.set_cons_zero, List.set_cons_succ]
      refine wpAnyH_take (i := 10) (oi := _) (v := ?_) rfl (by kernel_rfl) (by kernel_rfl) (by kernel_rfl) (fun _ _ _ h => h) (Or.inl ⟨by rfl, ?_⟩) (by assumption) ?_
      rotate_left
      · intro w hSw
        try dsimp only at hSw
        obtain ⟨hS1, hS2⟩ := hSw
        go_simp
        all_goals with_reducible rfl
      try simp only [Act.put, List.setIfInBounds_toArray, List.set_cons_zero, List.set_cons_succ]
      refine wpAnyH_take (i := 11) (oi := _) (v := ?_) rfl (by kernel_rfl) (by kernel_rfl) (by kernel_rfl) (fun _ _ _ h => h) (Or.inl ⟨by rfl, ?_⟩) (by assumption) ?_
      rotate_left
      · intro w hSw
        try dsimp only at hSw
        obtain ⟨hS1, hS2⟩ := hSw
        go_simp
        all_goals with_reducible rfl
      try simp only [Act.put, List.setIfInBounds_toArray, List.set_cons_zero, List.set_cons_succ]
      refine wpAnyH_take (i := 12) (oi := _) (v := ?_) rfl (by kernel_rfl) (by kernel_rfl) (by kernel_rfl) (fun _ _ _ h => h) (Or.inl ⟨by rfl, ?_⟩) (by assumption) ?_
      rotate_left
      · intro w hSw
        try dsimp only at hSw
        obtain ⟨hS1, hS2⟩ := hSw
        go_simp
        all_goals with_reducible rfl
      try simp only [Act.put, List.setIfInBounds_toArray, List.set_cons_zero, List.set_cons_succ]
      refine wpAnyH_take (i := 14) (oi := _) (v := ?_) rfl (by kernel_rfl) (by kernel_rfl) (by kernel_rfl) (fun _ _ _ h => h) (Or.inl ⟨by rfl, ?_⟩) (by assumption) ?_
      rotate_left
      · intro w hSw
        try dsimp only at hSw
        obtain ⟨hS1, hS2⟩ := hSw
        go_simp
        all_goals with_reducible rfl
      try simp only [Act.put, List.setIfInBounds_toArray, List.set_cons_zero, List.set_cons_succ]
      refine wpAnyH_ready (rs := [13, 15]) (by kernel_rfl) (by simp) ?_
      refine AllReadyH.cons (o := _) rfl (fun K hK => ?_) (AllReadyH.cons (o := _) rfl (fun K hK => ?_) AllReadyH.nil)
      · go_simp
        refine hK.out _ _ ⟨kb2, k6⟩ (fun hHeld => ?_)
        clear hK K
        try simp only [Act.put, List.setIfInBounds_toArray, List.set_cons_zero, List.set_cons_succ]
        refine wpAnyH_ready (rs := [15]) (by kernel_rfl) (by simp) ?_
        refine AllReadyH.cons (o := _) rfl (fun K hK => ?_) AllReadyH.nil
        go_simp
        refine hK.out _ _ ⟨K1.out, K5.out⟩ (fun hHeld => ?_)
        clear hK K
        try simp only [Act.put, List.setIfInBounds_toArray, List.set_cons_zero, List.set_cons_succ]
        refine wpAnyH_ready (rs := [16]) (by kernel_rfl) (by simp) ?_
        refine AllReadyH.cons (o := _) rfl (fun K hK => ?_) AllReadyH.nil
        (refine step_appU1 (by rfl) (.tmp 35) (.tmp 37) (by rfl) base (.slice v1 s.length v3) s a w3.heap.size (by rfl) (by rfl) HOX.out HRX.out HSX.out HBSX.out ?_; intro g cap w4 ho hg hat; have f1 := hg.cell K1.out HNB.out; have f2 := hg.cell D1.out HNG.out; have f5 := hg.cell K5.out (HNW.out g cap); have f3 := (hg.frozen_far ⟨G, k, none⟩ (Nat.lt_of_lt_of_le hGl HXS.out) HNG.out).trans D2.out; have hgl4 := World.block_lt_of_cell? _ _ f2; have hbl4 := World.block_lt_of_cell? _ _ f1; have HBX4 := Lib.hid ((HBX3.out.below HX.out).grown hg HNB.out); have HQ4 := Lib.hid (HQ3.out.app (v := ⟨v1, s.length, v3⟩) rfl HV.out HS.out HX.out ho hg hat); have HB4 := Lib.hid (((HB3.out.mono hbase).trans (HX.out.mono (Nat.le_trans hbase HB3.out.size))).grown hg HBSX.out HLX.out); clear ho hg hat)
        refine hK.out _ _ ⟨f1, f5⟩ (fun hHeld => ?_)
        clear hK K
        try simp only [Act.put, List.setIfInBounds_toArray, List.set_cons_zero, List.set_cons_succ]
        refine wpAnyH_take (i := 17) (oi := _) (v := ?_) rfl (by kernel_rfl) (by kernel_rfl) (by kernel_rfl) (fun _ _ _ h => h) (Or.inl ⟨by rfl, ?_⟩) (by assumption) ?_
        rotate_left
        · intro w hSw
          try dsimp only at hSw
          obtain ⟨hS1, hS2⟩ := hSw
          go_simp
          all_goals with_reducible rfl
        try simp only [Act.put, List.setIfInBounds_toArray, List.set_cons_zero, List.set_cons_succ]
        refine wpAnyH_ready (rs := [18]) (by kernel_rfl) (by simp) ?_
        refine AllReadyH.cons (o := _) rfl (fun K hK => ?_) AllReadyH.nil
        go_simp
        refine hK.out _ _ ⟨(World.cell?_setCell_other (h := n1) ..).trans f1, (World.cell?_setCell_other (h := n2) ..).trans f5⟩ (fun hHeld => ?_)
        clear hK K
        try simp only [Act.put, List.setIfInBounds_toArray, List.set_cons_zero, List.set_cons_succ]
        refine wpAnyH_done (by kernel_rfl) ?_ _
        go_wp2
        go_ret
        refine ⟨vs.set k ⟨some ⟨g, 0, none⟩, s.length + 1, cap⟩, by rw [E.out]; rfl, ?_, HBX4.out.set_ne hGb _, HB4.out.setCell HGB.out _⟩
        rw [EQ.out]
        exact HQ4.out
      · go_simp
        refine hK.out _ _ ⟨K1.out, K5.out⟩ (fun hHeld => ?_)
        clear hK K
        try simp only [Act.put, List.setIfInBounds_toArray, List.set_cons_zero, List.set_cons_succ]
        refine wpAnyH_ready (rs := [13]) (by kernel_rfl) (by simp) ?_
        refine AllReadyH.cons (o := _) rfl (fun K hK => ?_) AllReadyH.nil
        go_simp
        refine hK.out _ _ ⟨K1.out, K5.out⟩ (fun hHeld => ?_)
        clear hK K
        try simp only [Act.put, List.setIfInBounds_toArray, List.set_cons_zero, List.set_cons_succ]
        refine wpAnyH_ready (rs := [16]) (by kernel_rfl) (by simp) ?_
        refine AllReadyH.cons (o := _) rfl (fun K hK => ?_) AllReadyH.nil
        (refine step_appU1 (by rfl) (.tmp 35) (.tmp 37) (by rfl) base (.slice v1 s.length v3) s a w3.heap.size (by rfl) (by rfl) HOX.out HRX.out HSX.out HBSX.out ?_; intro g cap w4 ho hg hat; have f1 := hg.cell K1.out HNB.out; have f2 := hg.cell D1.out HNG.out; have f5 := hg.cell K5.out (HNW.out g cap); have f3 := (hg.frozen_far ⟨G, k, none⟩ (Nat.lt_of_lt_of_le hGl HXS.out) HNG.out).trans D2.out; have hgl4 := World.block_lt_of_cell? _ _ f2; have hbl4 := World.block_lt_of_cell? _ _ f1; have HBX4 := Lib.hid ((HBX3.out.below HX.out).grown hg HNB.out); have HQ4 := Lib.hid (HQ3.out.app (v := ⟨v1, s.length, v3⟩) rfl HV.out HS.out HX.out ho hg hat); have HB4 := Lib.hid (((HB3.out.mono hbase).trans (HX.out.mono (Nat.le_trans hbase HB3.out.size))).grown hg HBSX.out HLX.out); clear ho hg hat)
        refine hK.out _ _ ⟨f1, f5⟩ (fun hHeld => ?_)
        clear hK K
        try simp only [Act.put, List.setIfInBounds_toArray, List.set_cons_zero, List.set_cons_succ]
        refine wpAnyH_take (i := 17) (oi := _) (v := ?_) rfl (by kernel_rfl) (by kernel_rfl) (by kernel_rfl) (fun _ _ _ h => h) (Or.inl ⟨by rfl, ?_⟩) (by assumption) ?_
        rotate_left
        · intro w hSw
          try dsimp only at hSw
          obtain ⟨hS1, hS2⟩ := hSw
          go_simp
          all_goals with_reducible rfl
        try simp only [Act.put, List.setIfInBounds_toArray, List.set_cons_zero, List.set_cons_succ]
        refine wpAnyH_ready (rs := [18]) (by kernel_rfl) (by simp) ?_
        refine AllReadyH.cons (o := _) rfl (fun K hK => ?_) AllReadyH.nil
        go_simp
        refine hK.out _ _ ⟨(World.cell?_setCell_other (h := n1) ..).trans f1, (World.cell?_setCell_other (h := n2) ..).trans f5⟩ (fun hHeld => ?_)
        clear hK K
        try simp only [Act.put, List.setIfInBounds_toArray, List.set_cons_zero, List.set_cons_succ]
        refine wpAnyH_done (by kernel_rfl) ?_ _
        go_wp2
        go_ret
        refine ⟨vs.set k ⟨some ⟨g, 0, none⟩, s.length + 1, cap⟩, by rw [E.out]; rfl, ?_, HBX4.out.set_ne hGb _, HB4.out.setCell HGB.out _⟩
        rw [EQ.out]
        exact HQ4.out
  · have E : Hid (putE l a = 4) := by show _ = _; unfold putE; rw [if_neg H0.out, if_pos hin]
    have EQ : Hid (putQ l k a = l) := by show _ = _; unfold putQ; rw [E.out]; rfl
    rw [hin] at HF
    clear h0 hq hbx hb1 hrd hm hin
    go_enter Try.func24, Try.ntmps24
    go_wp2_with (go_at_call 34; refine HF.out.mono ?_)
    rintro e w1 ⟨rfl, hb2⟩
    have HB2 := Lib.hid (bthen HB1.out hb2)
    clear hb2
    go_wp2
    go_ret
    refine ⟨vs, by rw [E.out]; rfl, ?_, HBX.out.below HB2.out, HB2.out.mono hbase⟩
    rw [EQ.out]
    exact HQ.out.below HB2.out
end Go.Proofs.Ytinjeoohklabpaa
