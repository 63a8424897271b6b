/- The walk of the law GreySteals. -/
import Derived.Test.YtinjeoohklabpaaYQ
namespace Go.Proofs.Ytinjeoohklabpaa
open Go.RowKit
set_option linter.unusedVariables false
set_option linter.unusedSimpArgs false

theorem steals_cases (l : List (List Int)) (k : Int) : (∃ q e, e ≠ 0 ∧ e ≠ 3 ∧ popP l k = ⟨q, 0, false, e⟩) ∨ (okQ l ∧ manyN l = 0 ∧ popP l k = ⟨l, 0, false, 3⟩) ∨ (okQ l ∧ (0 ≤ k ∧ k < l.length) ∧ Took l k.toNat (popP l k)) := by
  unfold popP
  by_cases ho : okQ l
  · rw [if_pos ho]
    by_cases hk : 0 ≤ k ∧ k < l.length
    · rw [if_pos hk]
      rcases popIn_cases (l := l) (k := k.toNat) (by omega) with h | h
      · exact .inr (.inl ⟨ho, h.2, h.1⟩)
      · exact .inr (.inr ⟨ho, hk, h⟩)
    · rw [if_neg hk]; exact .inl ⟨_, 11, by omega, by omega, rfl⟩
  · rw [if_neg ho]; exact .inl ⟨_, 2, by omega, by omega, rfl⟩
def RetSt (n : Nat) (q : List (List Int)) (x : Int) (st : Bool) (er : Int) (w : World) (e : Ending) (w' : World) : Prop := ∃ A c vs, e = .returned (.tuple #[.agg #[.slice A n c], .int .u64 x, .bool st, .int .i64 er]) ∧ RdQ w' A vs q ∧ Below w.heap.size w w'

set_option maxRecDepth 100000 in
set_option maxHeartbeats 16000000 in
theorem steals7e (A : Option Addr) (c : Nat) (vs : List QV) (l : List (List Int)) (k : Int) (w : World) (ha : RdQ w A vs l) (hw : WdQ l) (h : (∃ q e, e ≠ 0 ∧ e ≠ 3 ∧ popP l k = ⟨q, 0, false, e⟩) ∨ (okQ l ∧ manyN l = 0 ∧ popP l k = ⟨l, 0, false, 3⟩)) :
    Calls Try.prog 7 #[.agg #[.slice A l.length c], .int .i64 k] w (Ret (.bool true) w) := by
  have hl := ha.len
  have CN : Hid (∀ W, Below w.heap.size w W → Calls Try.prog 16 #[.agg #[.slice A l.length c]] W (Ret (.tuple #[.int .i64 (manyV l), .int .i64 (chkE l)]) W)) := fun W hW => manyG A c vs l W (ha.below hW) hw
  rcases h with ⟨q, E, hE0, hE3, HE⟩ | ⟨ho, hm, HE⟩
  · have e0 : (E == 0) = false := by simp [hE0]
    have e3 : (E == 3) = false := by simp [hE3]
    have CP : Hid (∀ (W : World), Below w.heap.size w W → Calls Try.prog 12 #[.agg #[.slice A l.length c], .int .i64 k] W (RetSt q.length q 0 false E W)) := fun W hW => by
      have := popG A c vs l k W (ha.below hW) hw
      rw [HE] at this
      exact this.mono (fun e w' ⟨A', c', vs', h1, h2, h3⟩ => ⟨A', c', vs', by rw [h1], h2.rd, h3⟩)
    have hE3' : ¬ E = 3 := hE3
    clear hE0 hE3 ha HE
    generalize manyV l = mv at *
    generalize chkE l = ce at *
    have HB0 := Lib.hid (balloc (Below.refl w.heap.size w) (.cells #[.slice A l.length c] 24))
    have F0 : Hid ((w.alloc (.cells #[.slice A l.length c] 24)).cell? ⟨w.heap.size, 0, none⟩ = some (.slice A l.length c)) := by show _ = _; go_simp
    go_enter Try.func7, Try.ntmps7
    go_wp2_with (go_at_call 14; refine (lives14 _).mono ?_)
    rintro e w1 ⟨rfl, hb1⟩
    have k1 := cell_later hb1 F0.out
    have HB1 := Lib.hid (bthen HB0.out hb1)
    have X2 := Lib.hid (CP.out w1 HB1.out)
    have l1 := World.block_lt_of_cell? _ _ k1
    have K1 := Lib.hid k1
    clear hb1 CP F0 HB0
    go_wp2_with (go_at_call 12; refine X2.out.mono ?_)
    rintro e w3 ⟨A3, c3, vs3, rfl, hr3, hb3⟩
    have HB4 := Lib.hid (balloc (bthen HB1.out hb3) (.cells #[.slice A3 q.length c3] 24))
    have HR4 := Lib.hid (hr3.below (balloc (Below.refl w3.heap.size w3) (.cells #[.slice A3 q.length c3] 24)))
    have K4 : Hid ((w3.alloc (.cells #[.slice A3 q.length c3] 24)).cell? ⟨w3.heap.size, 0, none⟩ = some (.slice A3 q.length c3)) := by show _ = _; go_simp
    have KA4 := Lib.hid (cell_later (balloc hb3 (.cells #[.slice A3 q.length c3] 24)) K1.out)
    clear hr3 hb3 X2 k1 l1 HB1 K1
    go_upto_region 4 with fail
    generalize (w3.alloc (.cells #[.slice A3 q.length c3] 24)) = w4 at *
    generalize w3.heap.size = b3 at *
    have k4 := KA4.out
    have l4 := World.block_lt_of_cell? _ _ k4
    have X4 := Lib.hid (CN.out w4 HB4.out)
    go_wp2_with (go_at_call 16; refine X4.out.mono ?_)
    rintro e w5 ⟨rfl, hb5⟩
    have HB5 := Lib.hid (bthen HB4.out hb5)
    clear hb5 k4 l4 X4
    go_wp2
    go_ret
    exact ⟨rfl, HB5.out⟩
  · rw [manyV_ok ho, chkE_ok ho, hm] at CN
    have CP : Hid (∀ (W : World), Below w.heap.size w W → Calls Try.prog 12 #[.agg #[.slice A l.length c], .int .i64 k] W (RetSt l.length l 0 false 3 W)) := fun W hW => by
      have := popG A c vs l k W (ha.below hW) hw
      rw [HE] at this
      exact this.mono (fun e w' ⟨A', c', vs', h1, h2, h3⟩ => ⟨A', c', vs', by rw [h1], h2.rd, h3⟩)
    clear ha HE ho hm
    have HB0 := Lib.hid (balloc (Below.refl w.heap.size w) (.cells #[.slice A l.length c] 24))
    have F0 : Hid ((w.alloc (.cells #[.slice A l.length c] 24)).cell? ⟨w.heap.size, 0, none⟩ = some (.slice A l.length c)) := by show _ = _; go_simp
    go_enter Try.func7, Try.ntmps7
    go_wp2_with (go_at_call 14; refine (lives14 _).mono ?_)
    rintro e w1 ⟨rfl, hb1⟩
    have k1 := cell_later hb1 F0.out
    have HB1 := Lib.hid (bthen HB0.out hb1)
    have X2 := Lib.hid (CP.out w1 HB1.out)
    have l1 := World.block_lt_of_cell? _ _ k1
    have K1 := Lib.hid k1
    clear hb1 CP F0 HB0
    go_wp2_with (go_at_call 12; refine X2.out.mono ?_)
    rintro e w3 ⟨A3, c3, vs3, rfl, hr3, hb3⟩
    have HB4 := Lib.hid (balloc (bthen HB1.out hb3) (.cells #[.slice A3 l.length c3] 24))
    have HR4 := Lib.hid (hr3.below (balloc (Below.refl w3.heap.size w3) (.cells #[.slice A3 l.length c3] 24)))
    have K4 : Hid ((w3.alloc (.cells #[.slice A3 l.length c3] 24)).cell? ⟨w3.heap.size, 0, none⟩ = some (.slice A3 l.length c3)) := by show _ = _; go_simp
    have KA4 := Lib.hid (cell_later (balloc hb3 (.cells #[.slice A3 l.length c3] 24)) K1.out)
    clear hr3 hb3 X2 k1 l1 HB1 K1
    go_upto_region 4 with fail
    generalize (w3.alloc (.cells #[.slice A3 l.length c3] 24)) = w4 at *
    generalize w3.heap.size = b3 at *
    have k4 := KA4.out
    have l4 := World.block_lt_of_cell? _ _ k4
    have X4 := Lib.hid (CN.out w4 HB4.out)
    go_wp2_with (go_at_call 16; refine X4.out.mono ?_)
    rintro e w5 ⟨rfl, hb5⟩
    have HB5 := Lib.hid (bthen HB4.out hb5)
    clear hb5 k4 l4 X4
    go_wp2
    go_ret
    exact ⟨rfl, HB5.out⟩
set_option maxRecDepth 100000 in
set_option maxHeartbeats 16000000 in
theorem steals7t (A : Option Addr) (c : Nat) (vs : List QV) (l : List (List Int)) (kn : Nat) (w : World) (ha : RdQ w A vs l) (hw : WdQ l) (ho : okQ l) (hk : kn < l.length) (ht : Took l kn (popP l kn)) :
    Calls Try.prog 7 #[.agg #[.slice A l.length c], .int .i64 (kn : Int)] w (Ret (.bool true) w) := by
  have hl := ha.len
  obtain ⟨k, rfl⟩ : ∃ k : Int, k = (kn : Int) := ⟨_, rfl⟩
  have CN : Hid (∀ W, Below w.heap.size w W → Calls Try.prog 16 #[.agg #[.slice A l.length c]] W (Ret (.tuple #[.int .i64 (manyN (popP l kn).q + 1 : Int), .int .i64 0]) W)) := fun W hW => by
    have := manyG A c vs l W (ha.below hW) hw
    rwa [manyV_ok ho, chkE_ok ho, ht.many, Int.natCast_add] at this
  have CP : Hid (∀ (W : World), Below w.heap.size w W → Calls Try.prog 12 #[.agg #[.slice A l.length c], .int .i64 (kn : Int)] W (RetSt l.length (popP l kn).q (popP l kn).a (popP l kn).st 0 W)) := fun W hW =>
    (popG A c vs l kn W (ha.below hW) hw).mono (fun e w' ⟨A', c', vs', h1, h2, h3⟩ => ⟨A', c', vs', by rw [h1, ht.len, ht.e], h2.rd, h3⟩)
  have HOQ := Lib.hid (ht.ok ho)
  have HWQ := Lib.hid (ht.wd hw)
  obtain ⟨hx1, hx2, hx3⟩ := ht.one ho
  have HX0 := Lib.hid hx2
  have hxb : ((popP l kn).a == 0) = false := by simp [hx3]
  have hxn : ¬ (popP l kn).a = 0 := hx3
  have hxc : ((popP l kn).a != 0) = true := by simp [hx3]
  have hql := ht.len
  have HLE : Hid (∀ (i : Nat) s t, l[i]? = some s → (popP l kn).q[i]? = some t → t.length ≤ s.length) := ht.le
  have hmq : manyN (popP l kn).q ≤ 16384 := HOQ.out.1.2.2
  obtain ⟨s0, hs⟩ : ∃ s0, l[kn]? = some s0 := ⟨_, List.getElem?_eq_getElem hk⟩
  have hst := ht.st
  have hown := ht.own
  rw [lenAt_eq hs] at hst
  obtain ⟨o, hso⟩ : ∃ o, s0.length = o := ⟨_, rfl⟩
  rw [hso] at hst
  have hob : o ≤ 16384 := by
    have h1 := manyN_succ hs
    have h2 := manyN_take l (kn + 1)
    have := ho.1.2.2
    omega
  have HA := Lib.hid ha
  have hk1 : (kn : Int) < (l.length : Int) := by omega
  have HOWN : Hid (∀ (j : Nat) s t, l[j]? = some s → (popP l kn).q[j]? = some t → (popP l kn).st = true → j = kn → s.length = 0 ∧ t.length = 0) := fun j s t hs' ht' h1 h2 => by
    subst h2
    rw [hs] at hs'
    cases hs'
    have h3 := hown h1
    rw [lenAt_eq ht'] at h3
    rw [hst] at h1
    have := of_decide_eq_true h1
    omega
  clear ha hw ho hx1 hx2 hx3 ht hown
  generalize (popP l kn).q = q at *
  generalize (popP l kn).a = x at *
  generalize (popP l kn).st = st at *
  have hw1 : IntKind.i64.wrap ((manyN q : Int) + 1 - (manyN q : Int)) = 1 := by rw [wrap_in (by omega)]; omega
  cases st with
  | true =>
    have ho0 := of_decide_eq_true hst.symm
    subst ho0
    clear hst
    have HB0 := Lib.hid (balloc (Below.refl w.heap.size w) (.cells #[.slice A l.length c] 24))
    have F0 : Hid ((w.alloc (.cells #[.slice A l.length c] 24)).cell? ⟨w.heap.size, 0, none⟩ = some (.slice A l.length c)) := by show _ = _; go_simp
    go_enter Try.func7, Try.ntmps7
    go_wp2_with (go_at_call 14; refine (lives14 _).mono ?_)
    rintro e w1 ⟨rfl, hb1⟩
    have k1 := cell_later hb1 F0.out
    have HB1 := Lib.hid (bthen HB0.out hb1)
    have X2 := Lib.hid (CP.out w1 HB1.out)
    have l1 := World.block_lt_of_cell? _ _ k1
    have K1 := Lib.hid k1
    clear hb1 CP F0 HB0
    go_wp2_with (go_at_call 12; refine X2.out.mono ?_)
    rintro e w3 ⟨A3, c3, vs3, rfl, hr3, hb3⟩
    have HB4 := Lib.hid (balloc (bthen HB1.out hb3) (.cells #[.slice A3 l.length c3] 24))
    have HR4 := Lib.hid (hr3.below (balloc (Below.refl w3.heap.size w3) (.cells #[.slice A3 l.length c3] 24)))
    have K4 : Hid ((w3.alloc (.cells #[.slice A3 l.length c3] 24)).cell? ⟨w3.heap.size, 0, none⟩ = some (.slice A3 l.length c3)) := by show _ = _; go_simp
    have KA4 := Lib.hid (cell_later (balloc hb3 (.cells #[.slice A3 l.length c3] 24)) K1.out)
    clear hr3 hb3 X2 k1 l1 HB1 K1
    go_upto_region 4 with fail
    generalize (w3.alloc (.cells #[.slice A3 l.length c3] 24)) = w4 at *
    generalize w3.heap.size = b3 at *
    have CM : Hid (∀ W, Below w4.heap.size w4 W → Calls Try.prog 16 #[.agg #[.slice A3 l.length c3]] W (Ret (.tuple #[.int .i64 (manyN q : Int), .int .i64 0]) W)) := fun W hW => by
      have := manyG A3 c3 vs3 q W (HR4.out.below hW) HWQ.out
      rwa [manyV_ok HOQ.out, chkE_ok HOQ.out, hql] at this
    have CH : Hid (∀ W, Below w4.heap.size w4 W → Calls Try.prog 22 #[.agg #[.slice A3 l.length c3], .int .u64 x] W (Ret (.int .i64 0) W)) := fun W hW => by
      have := hasQ A3 c3 vs3 q x W (HR4.out.below hW) (by omega)
      rwa [HX0.out, hql] at this
    have k4 := KA4.out
    have l4 := World.block_lt_of_cell? _ _ k4
    have X4 := Lib.hid (CN.out w4 HB4.out)
    go_wp2_with (go_at_call 16; refine X4.out.mono ?_)
    rintro e w5 ⟨rfl, hb5⟩
    have B45 := Lib.hid hb5
    have k5 := cell_later hb5 K4.out
    have l5 := World.block_lt_of_cell? _ _ k5
    have X5 := Lib.hid (CM.out w5 B45.out)
    clear hb5 k4 l4 X4
    go_wp2_with (go_at_call 16; refine X5.out.mono ?_)
    rintro e w6 ⟨rfl, hb6⟩
    have B46 := Lib.hid (bthen B45.out hb6)
    have KA5 := Lib.hid (cell_later B46.out KA4.out)
    have K5 := Lib.hid (cell_later B46.out K4.out)
    clear hb6 k5 l5 X5
    obtain ⟨v, bv, ov, hvi, hA, hbv, c0, hR⟩ := (HA.out.below (bthen HB4.out B46.out)).at_ hs
    obtain ⟨t0, ht0⟩ : ∃ t0, q[kn]? = some t0 := ⟨_, List.getElem?_eq_getElem (by omega)⟩
    obtain ⟨u, bu, ou, hui, hA3, hbu, d0, hR'⟩ := (HR4.out.below B46.out).at_ ht0
    subst hA
    subst hA3
    obtain ⟨v1, v2, v3⟩ := v
    simp only at c0
    rw [hso] at c0
    have ka := KA5.out
    have kh := K5.out
    have la := World.block_lt_of_cell? _ _ ka
    have lh := World.block_lt_of_cell? _ _ kh
    have hAG := Lib.hid (HA.out.below (bthen HB4.out B46.out))
    have hQG := Lib.hid (HR4.out.below B46.out)
    have HB6 := Lib.hid (bthen HB4.out B46.out)
    clear hR hR' hvi hui d0 HR4 HA CN CM
    go_upto_block 0 with fail
    clear ka kh la lh c0
    go_cut [6, 7, 11, 12, 13, 14, 15] (fun x6 x7 x11 x12 x13 x14 x15 wr => x6 = .int .u64 x ∧ x7 = .bool true ∧ x11 = .int .i64 ((manyN q : Int) + 1) ∧ x12 = .int .i64 0 ∧ x13 = .int .i64 (manyN q : Int) ∧ x14 = .int .i64 0 ∧ x15 = .int .i64 0 ∧ Below w6.heap.size w6 wr)
    case first =>
      go_wp2
      go_loopw [72] (fun i wr => ∃ j : Nat, j ≤ l.length ∧ i = .int .i64 j ∧ Hid (Below w6.heap.size w6 wr)) (fun i _ => l.length - (intOf i).toNat)
      case atStart => exact ⟨0, Nat.zero_le _, rfl, Below.refl _ _⟩
      case round =>
        obtain ⟨j, hj, rfl, HBr⟩ := hrel
        by_cases hlt : j < l.length
        · have hlt1 : (j : Int) < (l.length : Int) := by omega
          obtain ⟨s, hs'⟩ : ∃ s, l[j]? = some s := ⟨_, List.getElem?_eq_getElem hlt⟩
          obtain ⟨t, ht'⟩ : ∃ t, q[j]? = some t := ⟨_, List.getElem?_eq_getElem (by omega)⟩
          obtain ⟨v, bv', ov', hvi, hA, hbv, c0, hR⟩ := hAG.out.at_ hs'
          obtain ⟨u, bu', ou', hui, hA3, hbu, d0, hR'⟩ := hQG.out.at_ ht'
          injection hA with hA
          injection hA with e1 e2
          subst e1
          subst e2
          injection hA3 with hA3
          injection hA3 with e1 e2
          subst e1
          subst e2
          have hle := HLE.out j s t hs' ht'
          have hown := HOWN.out j s t hs' ht'
          obtain ⟨v1, v2, v3⟩ := v
          obtain ⟨u1, u2, u3⟩ := u
          simp only at c0 d0
          obtain ⟨sn, hsn⟩ : ∃ sn, s.length = sn := ⟨_, rfl⟩
          obtain ⟨tn, htn⟩ : ∃ tn, t.length = tn := ⟨_, rfl⟩
          rw [hsn] at c0 hle hown
          rw [htn] at d0 hle hown
          have hle1 : ¬ (sn : Int) < (tn : Int) := by omega
          have hle2 : decide ((sn : Int) < (tn : Int)) = false := decide_eq_false hle1
          have KT := cell_later HBr.out d0
          have HKT := World.block_lt_of_cell? _ _ KT
          clear hvi hui hR hR' hs' ht' hbv hbu hsn htn
          have ka := cell_later HBr.out KA5.out
          have kh := cell_later HBr.out K5.out
          have ks := cell_later HBr.out c0
          have la := World.block_lt_of_cell? _ _ ka
          have lh := World.block_lt_of_cell? _ _ kh
          have ls := World.block_lt_of_cell? _ _ ks
          clear c0 d0
          by_cases hjk : j = kn
          · obtain ⟨h1, h2⟩ := hown (by trivial) hjk
            subst h1
            subst h2
            subst hjk
            go_wp2
            go_roundw
            case rel => exact ⟨j + 1, by omega, by go_num, HBr.out⟩
            case measure => simp [intOf]; omega
          · have hjk1 : ((j : Int) == (kn : Int)) = false := by rw [beq_eq_false_iff_ne]; omega
            go_wp2
            go_roundw
            case rel => exact ⟨j + 1, by omega, by go_num, HBr.out⟩
            case measure => simp [intOf]; omega
        · obtain rfl : j = l.length := by omega
          go_wp2
          go_meet
          exact ⟨rfl, rfl, rfl, rfl, rfl, rfl, rfl, HBr.out⟩
    case rest =>
      obtain ⟨rfl, rfl, rfl, rfl, rfl, rfl, rfl, hb7⟩ := hcut
      have B47 := Lib.hid (bthen B46.out hb7)
      have K7 := Lib.hid (cell_later hb7 K5.out)
      clear hb7
      have kh := K7.out
      have lh := World.block_lt_of_cell? _ _ kh
      have X7 := Lib.hid (CH.out wc B47.out)
      clear CH
      go_wp2_with (go_at_call 22; refine X7.out.mono ?_)
      rintro e w8 ⟨rfl, hb8⟩
      have HBW := Lib.hid (bthen (bthen HB4.out B47.out) hb8)
      clear hb8
      go_wp2
      go_ret
      exact ⟨rfl, HBW.out⟩
  | false =>
    have ho0 := of_decide_eq_false hst.symm
    have ho1 : ((o : Int) == 0) = false := by rw [beq_eq_false_iff_ne]; omega
    clear hst
    have HB0 := Lib.hid (balloc (Below.refl w.heap.size w) (.cells #[.slice A l.length c] 24))
    have F0 : Hid ((w.alloc (.cells #[.slice A l.length c] 24)).cell? ⟨w.heap.size, 0, none⟩ = some (.slice A l.length c)) := by show _ = _; go_simp
    go_enter Try.func7, Try.ntmps7
    go_wp2_with (go_at_call 14; refine (lives14 _).mono ?_)
    rintro e w1 ⟨rfl, hb1⟩
    have k1 := cell_later hb1 F0.out
    have HB1 := Lib.hid (bthen HB0.out hb1)
    have X2 := Lib.hid (CP.out w1 HB1.out)
    have l1 := World.block_lt_of_cell? _ _ k1
    have K1 := Lib.hid k1
    clear hb1 CP F0 HB0
    go_wp2_with (go_at_call 12; refine X2.out.mono ?_)
    rintro e w3 ⟨A3, c3, vs3, rfl, hr3, hb3⟩
    have HB4 := Lib.hid (balloc (bthen HB1.out hb3) (.cells #[.slice A3 l.length c3] 24))
    have HR4 := Lib.hid (hr3.below (balloc (Below.refl w3.heap.size w3) (.cells #[.slice A3 l.length c3] 24)))
    have K4 : Hid ((w3.alloc (.cells #[.slice A3 l.length c3] 24)).cell? ⟨w3.heap.size, 0, none⟩ = some (.slice A3 l.length c3)) := by show _ = _; go_simp
    have KA4 := Lib.hid (cell_later (balloc hb3 (.cells #[.slice A3 l.length c3] 24)) K1.out)
    clear hr3 hb3 X2 k1 l1 HB1 K1
    go_upto_region 4 with fail
    generalize (w3.alloc (.cells #[.slice A3 l.length c3] 24)) = w4 at *
    generalize w3.heap.size = b3 at *
    have CM : Hid (∀ W, Below w4.heap.size w4 W → Calls Try.prog 16 #[.agg #[.slice A3 l.length c3]] W (Ret (.tuple #[.int .i64 (manyN q : Int), .int .i64 0]) W)) := fun W hW => by
      have := manyG A3 c3 vs3 q W (HR4.out.below hW) HWQ.out
      rwa [manyV_ok HOQ.out, chkE_ok HOQ.out, hql] at this
    have CH : Hid (∀ W, Below w4.heap.size w4 W → Calls Try.prog 22 #[.agg #[.slice A3 l.length c3], .int .u64 x] W (Ret (.int .i64 0) W)) := fun W hW => by
      have := hasQ A3 c3 vs3 q x W (HR4.out.below hW) (by omega)
      rwa [HX0.out, hql] at this
    have k4 := KA4.out
    have l4 := World.block_lt_of_cell? _ _ k4
    have X4 := Lib.hid (CN.out w4 HB4.out)
    go_wp2_with (go_at_call 16; refine X4.out.mono ?_)
    rintro e w5 ⟨rfl, hb5⟩
    have B45 := Lib.hid hb5
    have k5 := cell_later hb5 K4.out
    have l5 := World.block_lt_of_cell? _ _ k5
    have X5 := Lib.hid (CM.out w5 B45.out)
    clear hb5 k4 l4 X4
    go_wp2_with (go_at_call 16; refine X5.out.mono ?_)
    rintro e w6 ⟨rfl, hb6⟩
    have B46 := Lib.hid (bthen B45.out hb6)
    have KA5 := Lib.hid (cell_later B46.out KA4.out)
    have K5 := Lib.hid (cell_later B46.out K4.out)
    clear hb6 k5 l5 X5
    obtain ⟨v, bv, ov, hvi, hA, hbv, c0, hR⟩ := (HA.out.below (bthen HB4.out B46.out)).at_ hs
    obtain ⟨t0, ht0⟩ : ∃ t0, q[kn]? = some t0 := ⟨_, List.getElem?_eq_getElem (by omega)⟩
    obtain ⟨u, bu, ou, hui, hA3, hbu, d0, hR'⟩ := (HR4.out.below B46.out).at_ ht0
    subst hA
    subst hA3
    obtain ⟨v1, v2, v3⟩ := v
    simp only at c0
    rw [hso] at c0
    have ka := KA5.out
    have kh := K5.out
    have la := World.block_lt_of_cell? _ _ ka
    have lh := World.block_lt_of_cell? _ _ kh
    have hAG := Lib.hid (HA.out.below (bthen HB4.out B46.out))
    have hQG := Lib.hid (HR4.out.below B46.out)
    have HB6 := Lib.hid (bthen HB4.out B46.out)
    clear hR hR' hvi hui d0 HR4 HA CN CM
    go_upto_block 0 with fail
    clear ka kh la lh c0
    go_cut [6, 7, 11, 12, 13, 14, 15] (fun x6 x7 x11 x12 x13 x14 x15 wr => x6 = .int .u64 x ∧ x7 = .bool false ∧ x11 = .int .i64 ((manyN q : Int) + 1) ∧ x12 = .int .i64 0 ∧ x13 = .int .i64 (manyN q : Int) ∧ x14 = .int .i64 0 ∧ x15 = .int .i64 o ∧ Below w6.heap.size w6 wr)
    case first =>
      go_wp2
      go_loopw [72] (fun i wr => ∃ j : Nat, j ≤ l.length ∧ i = .int .i64 j ∧ Hid (Below w6.heap.size w6 wr)) (fun i _ => l.length - (intOf i).toNat)
      case atStart => exact ⟨0, Nat.zero_le _, rfl, Below.refl _ _⟩
      case round =>
        obtain ⟨j, hj, rfl, HBr⟩ := hrel
        by_cases hlt : j < l.length
        · have hlt1 : (j : Int) < (l.length : Int) := by omega
          obtain ⟨s, hs'⟩ : ∃ s, l[j]? = some s := ⟨_, List.getElem?_eq_getElem hlt⟩
          obtain ⟨t, ht'⟩ : ∃ t, q[j]? = some t := ⟨_, List.getElem?_eq_getElem (by omega)⟩
          obtain ⟨v, bv', ov', hvi, hA, hbv, c0, hR⟩ := hAG.out.at_ hs'
          obtain ⟨u, bu', ou', hui, hA3, hbu, d0, hR'⟩ := hQG.out.at_ ht'
          injection hA with hA
          injection hA with e1 e2
          subst e1
          subst e2
          injection hA3 with hA3
          injection hA3 with e1 e2
          subst e1
          subst e2
          have hle := HLE.out j s t hs' ht'
          have hown := HOWN.out j s t hs' ht'
          obtain ⟨v1, v2, v3⟩ := v
          obtain ⟨u1, u2, u3⟩ := u
          simp only at c0 d0
          obtain ⟨sn, hsn⟩ : ∃ sn, s.length = sn := ⟨_, rfl⟩
          obtain ⟨tn, htn⟩ : ∃ tn, t.length = tn := ⟨_, rfl⟩
          rw [hsn] at c0 hle hown
          rw [htn] at d0 hle hown
          have hle1 : ¬ (sn : Int) < (tn : Int) := by omega
          have hle2 : decide ((sn : Int) < (tn : Int)) = false := decide_eq_false hle1
          have KT := cell_later HBr.out d0
          have HKT := World.block_lt_of_cell? _ _ KT
          clear hvi hui hR hR' hs' ht' hbv hbu hsn htn
          have ka := cell_later HBr.out KA5.out
          have kh := cell_later HBr.out K5.out
          have ks := cell_later HBr.out c0
          have la := World.block_lt_of_cell? _ _ ka
          have lh := World.block_lt_of_cell? _ _ kh
          have ls := World.block_lt_of_cell? _ _ ks
          clear c0 d0
          go_wp2
          go_roundw
          case rel => exact ⟨j + 1, by omega, by go_num, HBr.out⟩
          case measure => simp [intOf]; omega
        · obtain rfl : j = l.length := by omega
          go_wp2
          go_meet
          exact ⟨rfl, rfl, rfl, rfl, rfl, rfl, rfl, HBr.out⟩
    case rest =>
      obtain ⟨rfl, rfl, rfl, rfl, rfl, rfl, rfl, hb7⟩ := hcut
      have B47 := Lib.hid (bthen B46.out hb7)
      have K7 := Lib.hid (cell_later hb7 K5.out)
      clear hb7
      have kh := K7.out
      have lh := World.block_lt_of_cell? _ _ kh
      have X7 := Lib.hid (CH.out wc B47.out)
      clear CH
      go_wp2_with (go_at_call 22; refine X7.out.mono ?_)
      rintro e w8 ⟨rfl, hb8⟩
      have HBW := Lib.hid (bthen (bthen HB4.out B47.out) hb8)
      clear hb8
      go_wp2
      go_ret
      exact ⟨rfl, HBW.out⟩
theorem steals7 (A : Option Addr) (c : Nat) (vs : List QV) (l : List (List Int)) (k : Int) (w : World) (ha : RdQ w A vs l) (hw : WdQ l) :
    Calls Try.prog 7 #[.agg #[.slice A l.length c], .int .i64 k] w (Ret (.bool true) w) := by
  rcases steals_cases l k with h | h | ⟨ho, hk, ht⟩
  · exact steals7e A c vs l k w ha hw (.inl h)
  · exact steals7e A c vs l k w ha hw (.inr h)
  · obtain ⟨kn, rfl⟩ := Int.eq_ofNat_of_zero_le hk.1
    exact steals7t A c vs l kn w ha hw ho (by omega) ht
end Go.Proofs.Ytinjeoohklabpaa
