/- The walk of the law GreyOwn. -/
import Derived.Test.YtinjeoohklabpaaYR
namespace Go.Proofs.Ytinjeoohklabpaa
open Go.RowKit
set_option linter.unusedVariables false
set_option linter.unusedSimpArgs false

/-! ### Cells that hold a number of a kind, and rows whose cells do -/
def Kd (w : World) (p : Addr) (k : IntKind) : Prop := (∃ x : Int, w.cell? p = some (.int k x)) ∧ w.frozen? p = false
theorem Kd.set {w : World} {p q : Addr} {k k' : IntKind} (h : Kd w p k) (h' : Kd w q k') (x : Int) : Kd (w.setCell p (.int k x)) q k' := by
  refine ⟨?_, by rw [World.frozen?_setCell]; exact h'.2⟩
  by_cases e : p = q
  · subst e
    obtain ⟨⟨a, ha⟩, _⟩ := h
    obtain ⟨⟨b, hb⟩, _⟩ := h'
    rw [ha] at hb
    injection hb with hb
    injection hb with hk _
    subst hk
    exact ⟨x, World.cell?_setCell_same _ _ _ ha⟩
  · obtain ⟨⟨b, hb⟩, _⟩ := h'
    exact ⟨b, (World.cell?_setCell_other (h := e) ..).trans hb⟩
theorem Kd.slice {w : World} {p q : Addr} {k : IntKind} (h : Kd w p k) {A : Option Addr} {n c : Nat} (hq : w.cell? q = some (.slice A n c)) (v : Value) : (w.setCell p v).cell? q = some (.slice A n c) := by
  rw [World.cell?_setCell_other]
  · exact hq
  · intro e
    subst e
    obtain ⟨⟨x, hx⟩, _⟩ := h
    rw [hx] at hq
    cases hq
theorem Kd.later {w w1 : World} {p : Addr} {k : IntKind} (h : Kd w p k) (hb : Below w.heap.size w w1) : Kd w1 p k := by
  obtain ⟨⟨x, hx⟩, hf⟩ := h
  exact ⟨⟨x, cell_later hb hx⟩, (hb.frozen (World.block_lt_of_cell? _ _ hx)).trans hf⟩
def WRD (w : World) (base : Nat) (A : Option Addr) (m : Nat) : Prop := m ≤ 9223372036854775807 ∧ (0 < m → ∃ g o, A = some ⟨g, o, none⟩ ∧ base ≤ g ∧ ∀ q, q < m → Kd w ⟨g, o + q, none⟩ .u64)
def QUS (w : World) (base : Nat) (A : Option Addr) (n : Nat) : Prop := n ≤ 9223372036854775807 ∧ (0 < n → ∃ g o, A = some ⟨g, o, none⟩ ∧ ∀ i, i < n → ∃ B m d, w.cell? ⟨g, o + i, none⟩ = some (.slice B m d) ∧ WRD w base B m)
theorem WRD.set {w : World} {base m : Nat} {A : Option Addr} {p : Addr} {k : IntKind} (h : WRD w base A m) (hp : Kd w p k) (x : Int) : WRD (w.setCell p (.int k x)) base A m :=
  ⟨h.1, fun hm => by
    obtain ⟨g, o, e, hb, hc⟩ := h.2 hm
    exact ⟨g, o, e, hb, fun q hq => hp.set (hc q hq) x⟩⟩
theorem QUS.set {w : World} {base n : Nat} {A : Option Addr} {p : Addr} {k : IntKind} (h : QUS w base A n) (hp : Kd w p k) (x : Int) : QUS (w.setCell p (.int k x)) base A n :=
  ⟨h.1, fun hn => by
    obtain ⟨g, o, e, hc⟩ := h.2 hn
    refine ⟨g, o, e, fun i hi => ?_⟩
    obtain ⟨B, m, d, h2, h3⟩ := hc i hi
    exact ⟨B, m, d, hp.slice h2 _, h3.set hp x⟩⟩
theorem WRD.later {w w1 : World} {base m : Nat} {A : Option Addr} (h : WRD w base A m) (hb : Below w.heap.size w w1) : WRD w1 base A m :=
  ⟨h.1, fun hm => by
    obtain ⟨g, o, e, hg, hc⟩ := h.2 hm
    exact ⟨g, o, e, hg, fun q hq => (hc q hq).later hb⟩⟩
theorem QUS.later {w w1 : World} {base n : Nat} {A : Option Addr} (h : QUS w base A n) (hb : Below w.heap.size w w1) : QUS w1 base A n :=
  ⟨h.1, fun hn => by
    obtain ⟨g, o, e, hc⟩ := h.2 hn
    refine ⟨g, o, e, fun i hi => ?_⟩
    obtain ⟨B, m, d, h2, h3⟩ := hc i hi
    exact ⟨B, m, d, cell_later hb h2, h3.later hb⟩⟩
theorem FrQ.qus {w : World} {base : Nat} {A : Option Addr} {vs : List QV} {l : List (List Int)} (h : FrQ w base A vs l) : QUS w base A l.length := by
  refine ⟨h.rd.len, fun hn => ?_⟩
  obtain ⟨v0, g, o, _, hA, _, _, _⟩ := h.rd.at_ (List.getElem?_eq_getElem hn)
  refine ⟨g, o, hA, fun i hi => ?_⟩
  obtain ⟨v, bv, ov, hvi, hA', _, c0, hR⟩ := h.rd.at_ (List.getElem?_eq_getElem hi)
  rw [hA] at hA'
  injection hA' with hA'
  injection hA' with e1 e2
  subst e1
  subst e2
  refine ⟨v.A, _, _, c0, hR.len, fun h0 => ?_⟩
  obtain ⟨b, o2, e, hb, hf⟩ := h.fr i v _ hvi (List.getElem?_eq_getElem hi) h0
  refine ⟨b, o2, e, hb, fun q hq => ?_⟩
  obtain ⟨b2, o3, e2, _, d0⟩ := hR.at_ (List.getElem?_eq_getElem hq)
  rw [e] at e2
  injection e2 with e2
  injection e2 with e3 e4
  subst e3
  subst e4
  exact ⟨⟨_, d0⟩, hf q hq⟩
structure INV (w1 wr : World) (G : Nat) (S : List (Option Addr × Nat × Nat)) : Prop where
  below : Below w1.heap.size w1 wr
  slot : ∀ j A n c, S[j]? = some (A, n, c) → wr.cell? ⟨G, j, none⟩ = some (.slice A n c) ∧ QUS wr w1.heap.size A n
theorem INV.set {w1 wr : World} {G : Nat} {S : List (Option Addr × Nat × Nat)} (h : INV w1 wr G S) {p : Addr} {k : IntKind} (hb : w1.heap.size ≤ p.block) (hp : Kd wr p k) (x : Int) : INV w1 (wr.setCell p (.int k x)) G S :=
  ⟨h.below.setCell hb _, fun j A n c e => ⟨hp.slice (h.slot j A n c e).1 _, (h.slot j A n c e).2.set hp x⟩⟩
theorem INV.later {w1 wr w2 : World} {G : Nat} {S : List (Option Addr × Nat × Nat)} (h : INV w1 wr G S) (hb : Below wr.heap.size wr w2) : INV w1 w2 G S :=
  ⟨bthen h.below hb, fun j A n c e => ⟨cell_later hb (h.slot j A n c e).1, (h.slot j A n c e).2.later hb⟩⟩

set_option maxRecDepth 100000 in
set_option maxHeartbeats 16000000 in
theorem own8 (A : Option Addr) (c : Nat) (vs : List QV) (l : List (List Int)) (k a : Int) (w : World) (ha : RdQ w A vs l) (hw : WdQ l) (hz : smallQ l) :
    Calls Try.prog 8 #[.agg #[.slice A l.length c], .int .i64 k, .int .u64 a] w (Ret (.bool true) w) := by
  have hl := ha.len
  have HB0 := Lib.hid (balloc (Below.refl w.heap.size w) (.cells #[.slice A l.length c] 24))
  have F0 : Hid ((w.alloc (.cells #[.slice A l.length c] 24)).cell? ⟨w.heap.size, 0, none⟩ = some (.slice A l.length c)) := by show _ = _; go_simp
  have CC : Hid (∀ W, Below w.heap.size w W → Calls Try.prog 9 #[.agg #[.slice A l.length c]] W (RetG l W)) := fun W hW => copyQ A c vs l W (ha.below hW) hz
  have CP : Hid (∀ (W : World) B, Below w.heap.size w W → RdU W B [a] → Calls Try.prog 10 #[.agg #[.slice A l.length c], .int .i64 k, .slice B 1 1] W (RetGE (pushP l k [a]).1 (pushP l k [a]).2 W)) := fun W B hW hB => pushG A c vs l k B 1 [a] W (ha.below hW) hw hB
  have CQ : Hid (∀ W, Below w.heap.size w W → Calls Try.prog 12 #[.agg #[.slice A l.length c], .int .i64 k] W (RetPop (popP l k) W)) := fun W hW => popG A c vs l k W (ha.below hW) hw
  have CS : Hid (∀ W A1 c1 vs1, Below w.heap.size w W → RdQ W A1 vs1 l → Calls Try.prog 15 #[.agg #[.slice A l.length c], .agg #[.slice A1 l.length c1]] W (Ret (.bool true) W)) := fun W A1 c1 vs1 hW h => by
    have := sameQ A A1 c c1 vs vs1 l l W (ha.below hW) h
    rwa [dec_refl] at this
  clear ha hw hz
  generalize pushP l k [a] = P at *
  generalize popP l k = p at *
  obtain ⟨P1, P2⟩ := P
  obtain ⟨pq, pa, ps, pe⟩ := p
  simp only at CP
  go_enter Try.func8, Try.ntmps8
  go_wp2_with (go_at_call 14; refine (lives14 _).mono ?_)
  rintro e w1 ⟨rfl, hb1⟩
  have k1 := cell_later hb1 F0.out
  have l1 := World.block_lt_of_cell? _ _ k1
  have HB1 := Lib.hid (bthen HB0.out hb1)
  have K1 := Lib.hid k1
  have X1 := Lib.hid (CC.out w1 HB1.out)
  clear hb1 CC F0 HB0
  go_wp2_with (go_at_call 9; refine X1.out.mono ?_)
  rintro e w2 ⟨v, rfl, ⟨vs2, hq2⟩, hb2⟩
  obtain ⟨A2, c2, rfl, _, hr2⟩ := hq2.shape
  have HB3 := Lib.hid (balloc (bthen HB1.out hb2) (.cells #[.slice A2 l.length c2] 24))
  have HR3 := Lib.hid (hr2.below (balloc (Below.refl w2.heap.size w2) (.cells #[.slice A2 l.length c2] 24)))
  have K3 : Hid ((w2.alloc (.cells #[.slice A2 l.length c2] 24)).cell? ⟨w2.heap.size, 0, none⟩ = some (.slice A2 l.length c2)) := by show _ = _; go_simp
  have KA3 := Lib.hid (cell_later (balloc hb2 (.cells #[.slice A2 l.length c2] 24)) K1.out)
  clear hq2 hr2 hb2 X1 k1 l1 HB1 K1
  go_upto_region 4 with fail
  generalize (w2.alloc (.cells #[.slice A2 l.length c2] 24)) = w3 at *
  generalize w2.heap.size = b2 at *
  have k3 := KA3.out
  have l3 := World.block_lt_of_cell? _ _ k3
  have HD4 := Lib.hid (rd_one1 w3 a)
  have B34 := Lib.hid (balloc (Below.refl w3.heap.size w3) (.cells #[.int .u64 a] 30))
  have X4 := Lib.hid (CP.out (w3.alloc (.cells #[.int .u64 a] 30)) (some ⟨w3.heap.size, 0, none⟩) (bthen HB3.out B34.out) HD4.out)
  clear CP HD4
  go_wp2_with (go_at_call 10; refine X4.out.mono ?_)
  rintro e w5 ⟨v, rfl, ⟨vs5, hq5⟩, hb5⟩
  obtain ⟨A5, c5, rfl, _, hr5⟩ := hq5.shape
  have B36 := Lib.hid (balloc (bthen B34.out hb5) (.cells #[.slice A5 P1.length c5] 24))
  have Q6 : Hid (QUS (w5.alloc (.cells #[.slice A5 P1.length c5] 24)) w3.heap.size A5 P1.length) := (hq5.frq.mono (base' := w3.heap.size) (by simp)).qus.later (balloc (Below.refl w5.heap.size w5) _)
  have K6 : Hid ((w5.alloc (.cells #[.slice A5 P1.length c5] 24)).cell? ⟨w5.heap.size, 0, none⟩ = some (.slice A5 P1.length c5)) := by show _ = _; go_simp
  have KA6 := Lib.hid (cell_later B36.out k3)
  have hP := hr5.len
  clear hq5 hr5 hb5 X4 k3 l3 B34
  go_upto_region 5 with fail
  generalize (w5.alloc (.cells #[.slice A5 P1.length c5] 24)) = w6 at *
  generalize w5.heap.size = b5 at *
  have k6 := KA6.out
  have l6 := World.block_lt_of_cell? _ _ k6
  have X6 := Lib.hid (CQ.out w6 (bthen HB3.out B36.out))
  clear CQ
  go_wp2_with (go_at_call 12; refine X6.out.mono ?_)
  rintro e w7 ⟨A7, c7, vs7, rfl, hq7, hb7⟩
  have B68 := Lib.hid (balloc hb7 (.cells #[.slice A7 pq.length c7] 24))
  have Q8 : Hid (QUS (w7.alloc (.cells #[.slice A7 pq.length c7] 24)) w3.heap.size A7 pq.length) := (hq7.mono (base' := w3.heap.size) B36.out.size).qus.later (balloc (Below.refl w7.heap.size w7) _)
  have K8 : Hid ((w7.alloc (.cells #[.slice A7 pq.length c7] 24)).cell? ⟨w7.heap.size, 0, none⟩ = some (.slice A7 pq.length c7)) := by show _ = _; go_simp
  have hp := hq7.rd.len
  clear hq7 hb7 X6 k6 l6
  go_upto_region 6 with fail
  generalize (w7.alloc (.cells #[.slice A7 pq.length c7] 24)) = w8 at *
  generalize w7.heap.size = b7 at *
  have k8 := cell_later B68.out K6.out
  have j8 := K8.out
  have l8 := World.block_lt_of_cell? _ _ k8
  have m8 := World.block_lt_of_cell? _ _ j8
  generalize P1.length = n1 at *
  generalize pq.length = n2 at *
  have hba : Below w8.heap.size w8 (w8.alloc (.cells #[.slice A5 n1 c5, .slice A7 n2 c7] 24)) := balloc (Below.refl _ _) _
  have HI : Hid (INV w3 (w8.alloc (.cells #[.slice A5 n1 c5, .slice A7 n2 c7] 24)) w8.heap.size [(A5, n1, c5), (A7, n2, c7)]) := by
    refine ⟨bthen (bthen B36.out B68.out) hba, fun j B n d e => ?_⟩
    match j, e with
    | 0, e => cases e; exact ⟨by go_simp, (Q6.out.later B68.out).later hba⟩
    | 1, e => cases e; exact ⟨by go_simp, Q8.out.later hba⟩
    | j + 2, e => simp at e
  have HS : Hid (∀ j, j < 2 → ∃ B n d, [(A5, n1, c5), (A7, n2, c7)][j]? = some (B, n, d)) := by
    intro j hj
    exact ⟨_, _, _, List.getElem?_eq_getElem (by simpa using hj)⟩
  clear Q6 Q8 hba B36 B68 K6 K8 KA6
  generalize [(A5, n1, c5), (A7, n2, c7)] = S at *
  go_upto_block 0 with fail
  clear k8 j8 l8 m8
  generalize (w8.alloc (.cells #[.slice A5 n1 c5, .slice A7 n2 c7] 24)) = w9 at *
  generalize w8.heap.size = G at *
  go_cut [3, 7] (fun x3 x7 wr => x3 = .pointer (some ⟨w.heap.size, 0, none⟩) ∧ x7 = .pointer (some ⟨b2, 0, none⟩) ∧ Below w3.heap.size w3 wr)
  case first =>
    go_wp2
    go_loopw [43] (fun i wr => ∃ j : Nat, j ≤ 2 ∧ i = .int .i64 j ∧ Hid (INV w3 wr G S)) (fun i _ => 2 - (intOf i).toNat)
    case atStart => exact ⟨0, by omega, rfl, HI.out⟩
    case round =>
      obtain ⟨j, hj, rfl, HV⟩ := hrel
      obtain ⟨wo, rfl⟩ : ∃ wo : World, wo = wr := ⟨_, rfl⟩
      clear HI
      by_cases hlt : j < 2
      · obtain ⟨B, n, d, hS⟩ := HS.out j hlt
        have f := (HV.out.slot j B n d hS).1
        have hn := (HV.out.slot j B n d hS).2.1
        have HSj : Hid (S[j]? = some (B, n, d)) := hS
        have HV2 : Hid (INV w3 (wo.alloc (.cells #[.slice B n d] 24)) G S) := HV.out.later (balloc (Below.refl _ _) _)
        clear hS
        go_wp2_with fail
        go_loopw [50] (fun i wr => ∃ m : Nat, m ≤ n ∧ i = .int .i64 m ∧ Hid (INV w3 wr G S)) (fun i _ => n - (intOf i).toNat)
        case atStart => exact ⟨0, Nat.zero_le _, rfl, HV2.out⟩
        case round =>
          obtain ⟨m, hm, rfl, HV'⟩ := hrel
          obtain ⟨wi, rfl⟩ : ∃ wi : World, wi = wr := ⟨_, rfl⟩
          clear HV f HV2
          by_cases hmn : m < n
          · obtain ⟨g, o, rfl, hcel⟩ := (HV'.out.slot j B n d HSj.out).2.2 (by omega)
            obtain ⟨B', m', d', hsl, hwr⟩ := hcel m hmn
            have hm63 := hwr.1
            clear hcel
            go_wp2_with fail
            go_loopw [56] (fun i wr => ∃ q : Nat, q ≤ m' ∧ i = .int .i64 q ∧ Hid (INV w3 wr G S) ∧ Hid (WRD wr w3.heap.size B' m')) (fun i _ => m' - (intOf i).toNat)
            case atStart => exact ⟨0, Nat.zero_le _, rfl, HV'.out, hwr⟩
            case round =>
              obtain ⟨q, hq, rfl, HVq, HWq⟩ := hrel
              obtain ⟨wq, rfl⟩ : ∃ wq : World, wq = wr := ⟨_, rfl⟩
              clear HV' hsl hwr
              by_cases hqm : q < m'
              · obtain ⟨g', o', hB', hg', hcw⟩ := HWq.out.2 (by omega)
                subst hB'
                have hkq := hcw q hqm
                have HNq : Hid (∀ z : Int, INV w3 (wq.setCell ⟨g', o' + q, none⟩ (.int .u64 z)) G S) := fun z => HVq.out.set (p := ⟨g', o' + q, none⟩) hg' hkq z
                have HWN : Hid (∀ z : Int, WRD (wq.setCell ⟨g', o' + q, none⟩ (.int .u64 z)) w3.heap.size (some ⟨g', o', none⟩) m') := fun z => HWq.out.set hkq z
                obtain ⟨⟨y, hy⟩, hfz⟩ := hkq
                clear hcw hg' HVq HWq
                go_wp2_with fail
                go_roundw
                case rel => exact ⟨q + 1, by omega, by go_num, HNq.out _, HWN.out _⟩
                case measure => simp [intOf]; omega
              · obtain rfl : q = m' := by omega
                go_wp2_with fail
                go_roundw
                case rel => exact ⟨m + 1, by omega, by go_num, HVq.out⟩
                case measure => simp [intOf]; omega
          · have hmn' : m = n := by omega
            subst hmn'
            go_wp2_with fail
            go_roundw
            case rel => exact ⟨j + 1, by omega, by go_num, HV'.out⟩
            case measure => simp [intOf]; omega
      · have hj2 : j = 2 := by omega
        subst hj2
        go_wp2_with fail
        go_meet
        exact ⟨rfl, rfl, HV.out.below⟩
  case rest =>
    obtain ⟨rfl, rfl, hb⟩ := hcut
    have HB := Lib.hid (bthen HB3.out hb)
    have ka := cell_later hb KA3.out
    have kb := cell_later hb K3.out
    have la := World.block_lt_of_cell? _ _ ka
    have lb := World.block_lt_of_cell? _ _ kb
    have X9 := Lib.hid (CS.out wc A2 c2 vs2 HB.out (HR3.out.below hb))
    clear hb CS
    go_wp2_with (go_at_call 15; refine X9.out.mono ?_)
    rintro e w11 ⟨rfl, hb11⟩
    have HBW := Lib.hid (bthen HB.out hb11)
    clear hb11
    go_wp2
    go_ret
    exact ⟨rfl, HBW.out⟩
end Go.Proofs.Ytinjeoohklabpaa
