/- The walk of span.Find. -/
import Derived.Test.YtchbbldanmmpjaaDoorSU
namespace Go.Proofs.YtchbbldanmmpjaaDoor
open Go.RowKit
set_option linter.unusedVariables false
set_option linter.unusedSimpArgs false

def CutF (w : World) (v : SpanV) (off : Int) (s10 s11 : Value) (wx : World) : Prop := ∃ b, s10 = .pointer (some ⟨b, 0, none⟩) ∧ s11 = .int .i64 off ∧ VarS wx b v ∧ Below w.heap.size w wx
theorem cutF_al {w w5 : World} {x : SpanV} {off : Int} (hb : Below w.heap.size w w5) : CutF w x off (.pointer (some ⟨w5.heap.size, 0, none⟩)) (.int .i64 off)
    (w5.alloc (.cells #[.int .i64 x.first, .int .i64 x.pages, .int .i64 x.size, .int .i64 x.al.n, .slice x.al.A x.al.m x.al.c, .int .i64 x.ma.n, .slice x.ma.A x.ma.m x.ma.c, .bool x.sw] 26)) :=
  ⟨_, rfl, rfl, VarS.made w5 x _ rfl, balloc hb _⟩
theorem cutF_put {w w5 : World} {b : Nat} {x : SpanV} {off : Int} (z6 : w.heap.size ≤ b) (hv : VarS w5 b zeroV) (hb : Below w.heap.size w w5) : CutF w x off (.pointer (some ⟨b, 0, none⟩)) (.int .i64 off) (put8 w5 b x) :=
  ⟨b, rfl, rfl, VarS.put hv x, (((((((hb.setCell z6 _).setCell z6 _).setCell z6 _).setCell z6 _).setCell z6 _).setCell z6 _).setCell z6 _).setCell z6 _⟩
theorem slot_less {s : SpanB} (h : rightP s = true) {off : Int} (h0 : 0 ≤ off) (h1 : off < s.pages * 16) : 0 ≤ slotP s.size off ∧ (slotP s.size off).toNat / 64 < s.al.w.length ∧ slotP s.size off ≤ 1000000 := by
  obtain ⟨hs, _, _, ha, _, hn, _, _⟩ := rightP_parts h
  have hp := shapedP_pages hs
  have hm := manyP_of hs
  have hl := okB_parts ha
  have hl1 : s.al.w.length = 1 := by omega
  unfold slotP
  rcases shapedP_size hs with h | h | h | h | h <;> rw [h] <;> simp <;> omega

set_option maxRecDepth 100000 in
set_option maxHeartbeats 8000000 in
theorem find21 (A : Option Addr) (c : Nat) (vs : List SpanV) (l : List SpanB) (x : Int) (w : World) (h : RdL w A vs l) (hx : 0 ≤ x ∧ x < 18446744073709551616) :
    Calls Tryd.prog 21 #[.slice A l.length c, .int .u64 x] w (Ret (.tuple #[.int .i64 (findP l x).i, .int .i64 (findP l x).k, .int .i64 (findP l x).e]) w) := by
  have CC : Hid (Calls Tryd.prog 19 #[.slice A l.length c] w (Ret (.int .i64 (chkE l)) w)) := check19 A c vs l w h
  have hl := h.len
  by_cases hok : okL l = true
  · have E0 : Hid (findP l x = (if idxF l x < 0 then ⟨0, 0, 3⟩ else findOn l[(idxF l x).toNat]? (idxF l x) x)) := by show _ = _; unfold findP; rw [if_pos hok]
    rw [show chkE l = 0 from by simp [chkE, hok]] at CC
    have CS : Hid (∀ W, Below w.heap.size w W → Calls Tryd.prog 47 #[.slice A l.length c, .int .u64 x, .func (.func 48) #[] #[]] W (Ret (.tuple #[.int .i64 (posP l (fun s => s.first * 16) x), .bool (foundP l (fun s => s.first * 16) x)]) W)) :=
      fun W hW => search47 vs l A c 48 #[] (fun s => s.first * 16) x W (h.below hW) (okL_len hok) enters48 (okL_sorted16 hok) (fun i v s hv hs W' _ => by
        have hr := rightP_parts (okL_right hok hs)
        have hf := (h.2.2 i v s hv hs).first
        have hpp := shapedP_pages hr.1
        have := findCmp v x W' (by rw [hf]; exact hr.2.1) (by rw [hf]; omega)
        rw [hf] at this
        simpa using this)
    have H := Lib.hid h
    have HOK := Lib.hid hok
    clear h hok
    have HPL := Lib.hid (posP_le l (fun s => s.first * 16) x)
    have hl2 := okL_len HOK.out
    by_cases hi0 : idxF l x < 0
    · have E1 : Hid (findP l x = ⟨0, 0, 3⟩) := by show _ = _; rw [E0.out, if_pos hi0]
      have hf : foundP l (fun s => s.first * 16) x = false := by
        cases hf : foundP l (fun s => s.first * 16) x
        · rfl
        · unfold idxF at hi0; rw [hf] at hi0; simp at hi0; omega
      have hp : posP l (fun s => s.first * 16) x = 0 := by unfold idxF at hi0; rw [hf] at hi0; simp at hi0; omega
      rw [hf, hp] at CS
      clear hf hp hi0 E0
      go_enter Tryd.func21, Tryd.ntmps21
      go_wp2_with (go_at_call 19; refine CC.out.mono ?_)
      rintro e w1 ⟨rfl, hb1⟩
      have HB1 := Lib.hid hb1
      clear hb1
      go_wp2_with (go_at_call 47; refine (CS.out _ HB1.out).mono ?_)
      rintro e w2 ⟨rfl, hb2⟩
      have HB2 := Lib.hid (bthen HB1.out hb2)
      clear hb2
      go_wp2
      go_ret3
      rw [E1.out]
      exact ⟨rfl, HB2.out⟩
    · have hi : 0 ≤ idxF l x := by omega
      have hil := idxF_lt hi
      have hs : l[(idxF l x).toNat]? = some l[(idxF l x).toNat] := List.getElem?_eq_getElem hil
      generalize l[(idxF l x).toNat] = s at hs
      have hle := idxF_at hi hs
      have E1 : Hid (findP l x = findIn (idxF l x) s x) := by show _ = _; rw [E0.out, if_neg hi0, hs]; rfl
      have hr := okL_right HOK.out hs
      have HR := Lib.hid hr
      have hpp := rightP_parts hr
      have hpg := shapedP_pages hpp.1
      obtain ⟨k, hk⟩ : ∃ k : Nat, idxF l x = (k : Int) := Int.eq_ofNat_of_zero_le hi
      rw [hk, Int.toNat_natCast] at hs hil
      rw [hk] at E1
      have hcase : (foundP l (fun s => s.first * 16) x = true ∧ posP l (fun s => s.first * 16) x = k) ∨ (foundP l (fun s => s.first * 16) x = false ∧ posP l (fun s => s.first * 16) x = k + 1) := by
        cases hf : foundP l (fun s => s.first * 16) x
        · right; unfold idxF at hk; rw [hf] at hk; simp at hk; exact ⟨rfl, by omega⟩
        · left; unfold idxF at hk; rw [hf] at hk; simp at hk; exact ⟨rfl, by omega⟩
      clear hk hi hi0 E0 hr
      obtain ⟨v, bk, o, hv, hRN, hA, hbk, c0, c1, c2, c3, c4, c5, c6, c7⟩ := H.out.at_ hs
      subst hA
      have C46 : Hid (∀ W, Calls Tryd.prog 46 #[v.v] W (Ret (.int .i64 (endP s)) W)) := fun W => by
        have := end46 v W
        rwa [hRN.first, hRN.pages, (right_end HR.out).1] at this
      have C42 : Hid (∀ W, Calls Tryd.prog 42 #[v.v] W (Ret (.int .u64 (s.first * 16)) W)) := fun W => by
        have := base42 v W (by rw [hRN.first]; exact hpp.2.1) (by rw [hRN.first]; omega)
        rwa [hRN.first] at this
      have C50 : Hid (∀ W, Below w.heap.size w W → ∀ i : Nat, i / 64 < s.al.w.length → i ≤ 1000000 → Calls Tryd.prog 50 #[v.al.v, .int .i64 i] W (Ret (.bool (bitP s.al i)) W)) := fun W hW i h1 h2 => is50 v.al s.al i W (hRN.al.below hW) h1 h2
      have hfi := hRN.first
      have hsi := hRN.size
      obtain ⟨f, p, z, ⟨n, A1, m1, ca⟩, ⟨n', A2, m', cb⟩, sw⟩ := v
      unfold SpanV.v at C46 C42
      unfold BitV.v at C50
      simp only at c0 c1 c2 c3 c4 c5 c6 c7 C46 C42 C50 hfi hsi
      subst hfi
      subst hsi
      have HF0 := Lib.hid hpp.2.1
      have HF1 := Lib.hid hpp.2.2.1
      have HE := Lib.hid (right_end HR.out).2
      have HPG : Hid (endP s = s.first + s.pages ∧ 1 ≤ s.pages ∧ s.pages ≤ 4) := ⟨rfl, hpg⟩
      have HLE := Lib.hid hle
      have HSZ := Lib.hid (size_bound hpp.1)
      have HC0 := Lib.hid c0
      have HC1 := Lib.hid c1
      have HC2 := Lib.hid c2
      have HC3 := Lib.hid c3
      have HC4 := Lib.hid c4
      have HC5 := Lib.hid c5
      have HC6 := Lib.hid c6
      have HC7 := Lib.hid c7
      clear hpp hpg hle hs hv hRN c0 c1 c2 c3 c4 c5 c6 c7
      rcases hcase with ⟨hf, hp⟩ | ⟨hf, hp⟩
      · rw [hf, hp] at CS
        clear hf hp
        go_enter Tryd.func21, Tryd.ntmps21
        go_wp2_with (go_at_call 19; refine CC.out.mono ?_)
        rintro e w1 ⟨rfl, hb1⟩
        have HB1 := Lib.hid hb1
        clear hb1
        go_wp2_with (go_at_call 47; refine (CS.out _ HB1.out).mono ?_)
        rintro e w2 ⟨rfl, hb2⟩
        have HB2 := Lib.hid (bthen HB1.out hb2)
        have c0 := cell_later HB2.out HC0.out
        have c1 := cell_later HB2.out HC1.out
        have c2 := cell_later HB2.out HC2.out
        have c3 := cell_later HB2.out HC3.out
        have c4 := cell_later HB2.out HC4.out
        have c5 := cell_later HB2.out HC5.out
        have c6 := cell_later HB2.out HC6.out
        have c7 := cell_later HB2.out HC7.out
        clear hb2
        go_wp2_with (go_at_call 46; refine (C46.out _).mono ?_)
        rintro e w3 ⟨rfl, hb3⟩
        have HB3 := Lib.hid (bthen HB2.out hb3)
        clear hb3 c0 c1 c2 c3 c4 c5 c6 c7
        have he := HE.out
        by_cases hend : endP s * 16 ≤ x
        · have E1 : Hid (findP l x = ⟨0, 0, 3⟩) := by show _ = _; rw [E1.out]; unfold findIn; rw [if_pos hend]
          go_wp2
          go_ret3
          rw [E1.out]
          exact ⟨rfl, HB3.out⟩
        · have hend' : ¬ endP s * 16 ≤ x := hend
          have HNE : Hid (x < endP s * 16) := by show _ < _; omega
          have c0 := cell_later HB3.out HC0.out
          have c1 := cell_later HB3.out HC1.out
          have c2 := cell_later HB3.out HC2.out
          have c3 := cell_later HB3.out HC3.out
          have c4 := cell_later HB3.out HC4.out
          have c5 := cell_later HB3.out HC5.out
          have c6 := cell_later HB3.out HC6.out
          have c7 := cell_later HB3.out HC7.out
          go_upto_region 9 with fail
          have hfo : 0 ≤ x - s.first * 16 ∧ x - s.first * 16 < 64 ∧ x - s.first * 16 < s.pages * 16 := by
            have h1 := HLE.out
            have h2 := HPG.out
            omega
          have HFO := Lib.hid hfo
          have hw1 : IntKind.u64.wrap (x - s.first * 16) = x - s.first * 16 := by simp [IntKind.wrap, IntKind.bits, IntKind.signed]; omega
          have hw2 : IntKind.i64.wrap (x - s.first * 16) = x - s.first * 16 := wrap_in (by omega)
          clear hend' hend hfo he
          have E1 := Lib.hid (E1.out)
          have hbk3 : bk < w3.heap.size := Nat.lt_of_lt_of_le hbk HB3.out.size
          have hbk4 : bk < w3.heap.size + 1 := by omega
          have HW3 : Hid (w.heap.size ≤ w3.heap.size) := HB3.out.size
          go_cut [10, 11] (fun s10 s11 wx => CutF w ⟨s.first, p, s.size, ⟨n, A1, m1, ca⟩, ⟨n', A2, m', cb⟩, sw⟩ (x - s.first * 16) s10 s11 wx)
          case first =>
            go_region_with (go_at_call 42; refine (C42.out _).mono ?_; rintro e w5 ⟨rfl, hb5⟩; obtain ⟨hc5, hf5⟩ := bcell hb5; have z5 : w3.heap.size ≤ w5.heap.size := (by have := hb5.size; simp at this; omega); have hbk5 : bk < w5.heap.size := (by omega); have HBB5 := Lib.hid hb5; have HB5 := Lib.hid (bthen (bthen HB3.out (by first | exact (Below.refl _ _).drew | exact (balloc (Below.refl _ _).drew _) | exact (balloc (Below.refl _ _) _).drew)) hb5); have d0 := cell_later HB5.out HC0.out; have d1 := cell_later HB5.out HC1.out; have d2 := cell_later HB5.out HC2.out; have d3 := cell_later HB5.out HC3.out; have d4 := cell_later HB5.out HC4.out; have d5 := cell_later HB5.out HC5.out; have d6 := cell_later HB5.out HC6.out; have d7 := cell_later HB5.out HC7.out; clear hb5)
            all_goals
              go_wp2_with fail
              go_meet
              first
                | (with_reducible exact cutF_al (x := ⟨s.first, p, s.size, ⟨n, A1, m1, ca⟩, ⟨n', A2, m', cb⟩, sw⟩) HB5.out)
                | exact cutF_put (x := ⟨s.first, p, s.size, ⟨n, A1, m1, ca⟩, ⟨n', A2, m', cb⟩, sw⟩) HW3.out (by first | exact VarS.below (VarS.made (w3.drew) zeroV w3.heap.size rfl) HBB5.out | exact VarS.below (VarS.below (VarS.made w3 zeroV w3.heap.size rfl) (Below.refl _ _).drew) HBB5.out) HB5.out
          case rest =>
            clear hw1 hw2
            obtain ⟨b, rfl, rfl, hv, hbx⟩ := hcut
            obtain ⟨k0, k1, k2, k3, k4, k5, k6, k7⟩ := hv
            simp only at k0 k1 k2 k3 k4 k5 k6 k7
            have HBX := Lib.hid hbx
            clear hbx c0 c1 c2 c3 c4 c5 c6 c7
            obtain ⟨off, hoff⟩ : ∃ off : Nat, x - s.first * 16 = (off : Int) := Int.eq_ofNat_of_zero_le HFO.out.1
            have HIN : Hid (findP l x = if restP s.size off = 0 ∧ bitP s.al (slotP s.size off).toNat = true then ⟨k, slotP s.size off, 0⟩ else ⟨0, 0, 10⟩) := by
              show _ = _
              rw [E1.out]
              unfold findIn
              rw [if_neg (by have := HNE.out; omega), hoff]
            rw [hoff]
            have HSL := Lib.hid (slot_less HR.out (off := (off : Int)) (by omega) (by rw [← hoff]; exact HFO.out.2.2))
            have ho64 : off < 64 := by have := HFO.out.2.1; omega
            clear hoff E1 HFO
            by_cases hz : 0 < s.size
            · obtain ⟨q, hq⟩ : ∃ q : Nat, (off : Int) / s.size = (q : Int) := Int.eq_ofNat_of_zero_le (Int.ediv_nonneg (by omega) (by omega))
              obtain ⟨r, hr⟩ : ∃ r : Nat, (off : Int) % s.size = (r : Int) := Int.eq_ofNat_of_zero_le (Int.emod_nonneg _ (by omega))
              have h1 : slotP s.size off = (q : Int) := by unfold slotP; rw [if_pos hz, hq]
              have h2 : restP s.size off = (r : Int) := by unfold restP; rw [if_pos hz, hr]
              rw [h1, h2] at HIN
              rw [h1] at HSL
              have HQ : Hid (q ≤ 1000000) := by show _ ≤ _; have := HSL.out.2.2; omega
              have ht1 : (off : Int).tdiv s.size = (q : Int) := by rw [Int.tdiv_eq_ediv_of_nonneg (by omega)]; exact hq
              have ht2 : (off : Int).tmod s.size = (r : Int) := by rw [Int.tmod_eq_emod_of_nonneg (by omega)]; exact hr
              have hw3 := wrap_in (x := (q : Int)) (by have := HQ.out; omega)
              have hzn : ¬ s.size = 0 := by omega
              have hzn2 : (s.size == 0) = false := by simpa using hzn
              clear h1 h2
              go_wp2
              go_quiet (fail)
              clear ht1 ht2 hw3 hq hr
              have k3 := k3
              by_cases hr0 : r = 0
              · subst hr0
                go_wp2_with fail
                refine (C50.out _ (bthen HBX.out (bdrewN (Below.refl _ _) _)) q (by have := HSL.out.2.1; rwa [Int.toNat_natCast] at this) HQ.out).mono ?_
                rintro e w6 ⟨rfl, hb6⟩
                have HB6 := Lib.hid (bthen (bdrewN HBX.out _) hb6)
                clear hb6
                by_cases hbit : bitP s.al q = true
                · have E1 : Hid (findP l x = ⟨k, q, 0⟩) := by show _ = _; rw [HIN.out, if_pos ⟨rfl, by rw [Int.toNat_natCast]; exact hbit⟩]
                  rw [hbit]
                  clear hbit HIN
                  go_wp2
                  go_ret3
                  rw [E1.out]
                  exact ⟨rfl, HB6.out⟩
                · have E1 : Hid (findP l x = ⟨0, 0, 10⟩) := by show _ = _; rw [HIN.out, if_neg (fun h => hbit (by have := h.2; rwa [Int.toNat_natCast] at this))]
                  rw [show bitP s.al q = false from by simpa using hbit]
                  clear hbit HIN
                  go_wp2
                  go_ret3
                  rw [E1.out]
                  exact ⟨rfl, HB6.out⟩
              · have E1 : Hid (findP l x = ⟨0, 0, 10⟩) := by show _ = _; rw [HIN.out, if_neg (fun h => hr0 (by have := h.1; omega))]
                have er : ((r : Int) != 0) = true := by rw [bne_iff_ne]; omega
                have er2 : ((r : Int) == 0) = false := by rw [beq_eq_false_iff_ne]; omega
                have HB6 := Lib.hid (bdrewN HBX.out 1)
                clear hr0 HIN
                go_wp2
                go_ret3
                rw [E1.out]
                exact ⟨rfl, bdrewN HBX.out _⟩
            · have hz0 : s.size = 0 := by have := HSZ.out.1; omega
              have h1 : slotP s.size off = 0 := by unfold slotP; rw [if_neg hz]
              have h2 : restP s.size off = (off : Int) := by unfold restP; rw [if_neg hz]
              rw [h1, h2] at HIN
              rw [h1] at HSL
              rw [hz0] at k2
              clear h1 h2 hz hz0
              by_cases hr0 : off = 0
              · subst hr0
                go_wp2_with fail
                refine (C50.out _ HBX.out 0 (by have := HSL.out.2.1; simpa using this) (by omega)).mono ?_
                rintro e w6 ⟨rfl, hb6⟩
                have HB6 := Lib.hid (bthen HBX.out hb6)
                clear hb6
                by_cases hbit : bitP s.al 0 = true
                · have E1 : Hid (findP l x = ⟨k, 0, 0⟩) := by show _ = _; rw [HIN.out, if_pos ⟨rfl, hbit⟩]
                  rw [hbit]
                  clear hbit HIN
                  go_wp2
                  go_ret3
                  rw [E1.out]
                  exact ⟨rfl, HB6.out⟩
                · have E1 : Hid (findP l x = ⟨0, 0, 10⟩) := by show _ = _; rw [HIN.out, if_neg (fun h => hbit h.2)]
                  rw [show bitP s.al 0 = false from by simpa using hbit]
                  clear hbit HIN
                  go_wp2
                  go_ret3
                  rw [E1.out]
                  exact ⟨rfl, HB6.out⟩
              · have E1 : Hid (findP l x = ⟨0, 0, 10⟩) := by show _ = _; rw [HIN.out, if_neg (fun h => hr0 (by have := h.1; omega))]
                have er : ((off : Int) != 0) = true := by rw [bne_iff_ne]; omega
                have er2 : ((off : Int) == 0) = false := by rw [beq_eq_false_iff_ne]; omega
                clear hr0 HIN
                go_wp2
                go_ret3
                rw [E1.out]
                exact ⟨rfl, HBX.out⟩
      · rw [hf, hp] at CS
        clear hf hp
        go_enter Tryd.func21, Tryd.ntmps21
        go_wp2_with (go_at_call 19; refine CC.out.mono ?_)
        rintro e w1 ⟨rfl, hb1⟩
        have HB1 := Lib.hid hb1
        clear hb1
        go_wp2_with (go_at_call 47; refine (CS.out _ HB1.out).mono ?_)
        rintro e w2 ⟨rfl, hb2⟩
        have HB2 := Lib.hid (bthen HB1.out hb2)
        have c0 := cell_later HB2.out HC0.out
        have c1 := cell_later HB2.out HC1.out
        have c2 := cell_later HB2.out HC2.out
        have c3 := cell_later HB2.out HC3.out
        have c4 := cell_later HB2.out HC4.out
        have c5 := cell_later HB2.out HC5.out
        have c6 := cell_later HB2.out HC6.out
        have c7 := cell_later HB2.out HC7.out
        clear hb2
        go_wp2_with (go_at_call 46; refine (C46.out _).mono ?_)
        rintro e w3 ⟨rfl, hb3⟩
        have HB3 := Lib.hid (bthen HB2.out hb3)
        clear hb3 c0 c1 c2 c3 c4 c5 c6 c7
        have he := HE.out
        by_cases hend : endP s * 16 ≤ x
        · have E1 : Hid (findP l x = ⟨0, 0, 3⟩) := by show _ = _; rw [E1.out]; unfold findIn; rw [if_pos hend]
          go_wp2
          go_ret3
          rw [E1.out]
          exact ⟨rfl, HB3.out⟩
        · have hend' : ¬ endP s * 16 ≤ x := hend
          have HNE : Hid (x < endP s * 16) := by show _ < _; omega
          have c0 := cell_later HB3.out HC0.out
          have c1 := cell_later HB3.out HC1.out
          have c2 := cell_later HB3.out HC2.out
          have c3 := cell_later HB3.out HC3.out
          have c4 := cell_later HB3.out HC4.out
          have c5 := cell_later HB3.out HC5.out
          have c6 := cell_later HB3.out HC6.out
          have c7 := cell_later HB3.out HC7.out
          go_upto_region 9 with fail
          have hfo : 0 ≤ x - s.first * 16 ∧ x - s.first * 16 < 64 ∧ x - s.first * 16 < s.pages * 16 := by
            have h1 := HLE.out
            have h2 := HPG.out
            omega
          have HFO := Lib.hid hfo
          have hw1 : IntKind.u64.wrap (x - s.first * 16) = x - s.first * 16 := by simp [IntKind.wrap, IntKind.bits, IntKind.signed]; omega
          have hw2 : IntKind.i64.wrap (x - s.first * 16) = x - s.first * 16 := wrap_in (by omega)
          clear hend' hend hfo he
          have E1 := Lib.hid (E1.out)
          have hbk3 : bk < w3.heap.size := Nat.lt_of_lt_of_le hbk HB3.out.size
          have hbk4 : bk < w3.heap.size + 1 := by omega
          have HW3 : Hid (w.heap.size ≤ w3.heap.size) := HB3.out.size
          go_cut [10, 11] (fun s10 s11 wx => CutF w ⟨s.first, p, s.size, ⟨n, A1, m1, ca⟩, ⟨n', A2, m', cb⟩, sw⟩ (x - s.first * 16) s10 s11 wx)
          case first =>
            go_region_with (go_at_call 42; refine (C42.out _).mono ?_; rintro e w5 ⟨rfl, hb5⟩; obtain ⟨hc5, hf5⟩ := bcell hb5; have z5 : w3.heap.size ≤ w5.heap.size := (by have := hb5.size; simp at this; omega); have hbk5 : bk < w5.heap.size := (by omega); have HBB5 := Lib.hid hb5; have HB5 := Lib.hid (bthen (bthen HB3.out (by first | exact (Below.refl _ _).drew | exact (balloc (Below.refl _ _).drew _) | exact (balloc (Below.refl _ _) _).drew)) hb5); have d0 := cell_later HB5.out HC0.out; have d1 := cell_later HB5.out HC1.out; have d2 := cell_later HB5.out HC2.out; have d3 := cell_later HB5.out HC3.out; have d4 := cell_later HB5.out HC4.out; have d5 := cell_later HB5.out HC5.out; have d6 := cell_later HB5.out HC6.out; have d7 := cell_later HB5.out HC7.out; clear hb5)
            all_goals
              go_wp2_with fail
              go_meet
              first
                | (with_reducible exact cutF_al (x := ⟨s.first, p, s.size, ⟨n, A1, m1, ca⟩, ⟨n', A2, m', cb⟩, sw⟩) HB5.out)
                | exact cutF_put (x := ⟨s.first, p, s.size, ⟨n, A1, m1, ca⟩, ⟨n', A2, m', cb⟩, sw⟩) HW3.out (by first | exact VarS.below (VarS.made (w3.drew) zeroV w3.heap.size rfl) HBB5.out | exact VarS.below (VarS.below (VarS.made w3 zeroV w3.heap.size rfl) (Below.refl _ _).drew) HBB5.out) HB5.out
          case rest =>
            clear hw1 hw2
            obtain ⟨b, rfl, rfl, hv, hbx⟩ := hcut
            obtain ⟨k0, k1, k2, k3, k4, k5, k6, k7⟩ := hv
            simp only at k0 k1 k2 k3 k4 k5 k6 k7
            have HBX := Lib.hid hbx
            clear hbx c0 c1 c2 c3 c4 c5 c6 c7
            obtain ⟨off, hoff⟩ : ∃ off : Nat, x - s.first * 16 = (off : Int) := Int.eq_ofNat_of_zero_le HFO.out.1
            have HIN : Hid (findP l x = if restP s.size off = 0 ∧ bitP s.al (slotP s.size off).toNat = true then ⟨k, slotP s.size off, 0⟩ else ⟨0, 0, 10⟩) := by
              show _ = _
              rw [E1.out]
              unfold findIn
              rw [if_neg (by have := HNE.out; omega), hoff]
            rw [hoff]
            have HSL := Lib.hid (slot_less HR.out (off := (off : Int)) (by omega) (by rw [← hoff]; exact HFO.out.2.2))
            have ho64 : off < 64 := by have := HFO.out.2.1; omega
            clear hoff E1 HFO
            by_cases hz : 0 < s.size
            · obtain ⟨q, hq⟩ : ∃ q : Nat, (off : Int) / s.size = (q : Int) := Int.eq_ofNat_of_zero_le (Int.ediv_nonneg (by omega) (by omega))
              obtain ⟨r, hr⟩ : ∃ r : Nat, (off : Int) % s.size = (r : Int) := Int.eq_ofNat_of_zero_le (Int.emod_nonneg _ (by omega))
              have h1 : slotP s.size off = (q : Int) := by unfold slotP; rw [if_pos hz, hq]
              have h2 : restP s.size off = (r : Int) := by unfold restP; rw [if_pos hz, hr]
              rw [h1, h2] at HIN
              rw [h1] at HSL
              have HQ : Hid (q ≤ 1000000) := by show _ ≤ _; have := HSL.out.2.2; omega
              have ht1 : (off : Int).tdiv s.size = (q : Int) := by rw [Int.tdiv_eq_ediv_of_nonneg (by omega)]; exact hq
              have ht2 : (off : Int).tmod s.size = (r : Int) := by rw [Int.tmod_eq_emod_of_nonneg (by omega)]; exact hr
              have hw3 := wrap_in (x := (q : Int)) (by have := HQ.out; omega)
              have hzn : ¬ s.size = 0 := by omega
              have hzn2 : (s.size == 0) = false := by simpa using hzn
              clear h1 h2
              go_wp2
              go_quiet (fail)
              clear ht1 ht2 hw3 hq hr
              have k3 := k3
              by_cases hr0 : r = 0
              · subst hr0
                go_wp2_with fail
                refine (C50.out _ (bthen HBX.out (bdrewN (Below.refl _ _) _)) q (by have := HSL.out.2.1; rwa [Int.toNat_natCast] at this) HQ.out).mono ?_
                rintro e w6 ⟨rfl, hb6⟩
                have HB6 := Lib.hid (bthen (bdrewN HBX.out _) hb6)
                clear hb6
                by_cases hbit : bitP s.al q = true
                · have E1 : Hid (findP l x = ⟨k, q, 0⟩) := by show _ = _; rw [HIN.out, if_pos ⟨rfl, by rw [Int.toNat_natCast]; exact hbit⟩]
                  rw [hbit]
                  clear hbit HIN
                  go_wp2
                  go_ret3
                  rw [E1.out]
                  exact ⟨rfl, HB6.out⟩
                · have E1 : Hid (findP l x = ⟨0, 0, 10⟩) := by show _ = _; rw [HIN.out, if_neg (fun h => hbit (by have := h.2; rwa [Int.toNat_natCast] at this))]
                  rw [show bitP s.al q = false from by simpa using hbit]
                  clear hbit HIN
                  go_wp2
                  go_ret3
                  rw [E1.out]
                  exact ⟨rfl, HB6.out⟩
              · have E1 : Hid (findP l x = ⟨0, 0, 10⟩) := by show _ = _; rw [HIN.out, if_neg (fun h => hr0 (by have := h.1; omega))]
                have er : ((r : Int) != 0) = true := by rw [bne_iff_ne]; omega
                have er2 : ((r : Int) == 0) = false := by rw [beq_eq_false_iff_ne]; omega
                have HB6 := Lib.hid (bdrewN HBX.out 1)
                clear hr0 HIN
                go_wp2
                go_ret3
                rw [E1.out]
                exact ⟨rfl, bdrewN HBX.out _⟩
            · have hz0 : s.size = 0 := by have := HSZ.out.1; omega
              have h1 : slotP s.size off = 0 := by unfold slotP; rw [if_neg hz]
              have h2 : restP s.size off = (off : Int) := by unfold restP; rw [if_neg hz]
              rw [h1, h2] at HIN
              rw [h1] at HSL
              rw [hz0] at k2
              clear h1 h2 hz hz0
              by_cases hr0 : off = 0
              · subst hr0
                go_wp2_with fail
                refine (C50.out _ HBX.out 0 (by have := HSL.out.2.1; simpa using this) (by omega)).mono ?_
                rintro e w6 ⟨rfl, hb6⟩
                have HB6 := Lib.hid (bthen HBX.out hb6)
                clear hb6
                by_cases hbit : bitP s.al 0 = true
                · have E1 : Hid (findP l x = ⟨k, 0, 0⟩) := by show _ = _; rw [HIN.out, if_pos ⟨rfl, hbit⟩]
                  rw [hbit]
                  clear hbit HIN
                  go_wp2
                  go_ret3
                  rw [E1.out]
                  exact ⟨rfl, HB6.out⟩
                · have E1 : Hid (findP l x = ⟨0, 0, 10⟩) := by show _ = _; rw [HIN.out, if_neg (fun h => hbit h.2)]
                  rw [show bitP s.al 0 = false from by simpa using hbit]
                  clear hbit HIN
                  go_wp2
                  go_ret3
                  rw [E1.out]
                  exact ⟨rfl, HB6.out⟩
              · have E1 : Hid (findP l x = ⟨0, 0, 10⟩) := by show _ = _; rw [HIN.out, if_neg (fun h => hr0 (by have := h.1; omega))]
                have er : ((off : Int) != 0) = true := by rw [bne_iff_ne]; omega
                have er2 : ((off : Int) == 0) = false := by rw [beq_eq_false_iff_ne]; omega
                clear hr0 HIN
                go_wp2
                go_ret3
                rw [E1.out]
                exact ⟨rfl, HBX.out⟩
  · have E1 : Hid (findP l x = ⟨0, 0, 2⟩) := by show _ = _; unfold findP; rw [if_neg hok]
    rw [show chkE l = 2 from by simp [chkE, hok]] at CC
    clear h hok
    go_enter Tryd.func21, Tryd.ntmps21
    go_wp2_with (go_at_call 19; refine CC.out.mono ?_)
    rintro e w1 ⟨rfl, hb1⟩
    have HB1 := Lib.hid hb1
    clear hb1
    go_wp2
    go_ret3
    rw [E1.out]
    exact ⟨rfl, HB1.out⟩
end Go.Proofs.YtchbbldanmmpjaaDoor
