/- The walk of the reference's Find. -/
import Derived.Test.YtchbbldanmmpjaaDoorT7
import Derived.Test.YtchbbldanmmpjaaDoorUB
namespace Go.Proofs.YtchbbldanmmpjaaDoor
open Go.RowKit
set_option linter.unusedVariables false
set_option linter.unusedSimpArgs false

def inS (x : Int) (s : SpanB) : Bool := decide (s.first * 16 ≤ x) && decide (x < endP s * 16)
def slotR (s : SpanB) (x : Int) (k : Nat) : Bool := (s.first * 16 + (k : Int) * s.size == x) && bitP s.al k
def inR (i : Int) (s : SpanB) (x : Int) : Fd := match (List.range (manyP s.size).toNat).find? (slotR s x) with | some k => ⟨i, k, 0⟩ | none => ⟨0, 0, 10⟩
def onR (o : Option SpanB) (i x : Int) : Fd := match o with | some s => inR i s x | none => ⟨0, 0, 3⟩
def atR (l : List SpanB) (x : Int) (o : Option Nat) : Fd := match o with | some i => onR l[i]? i x | none => ⟨0, 0, 3⟩
def findR (l : List SpanB) (x : Int) : Fd := if okL l = true then atR l x (l.findIdx? (inS x)) else ⟨0, 0, 2⟩
theorem range_find {p : Nat → Bool} {n k : Nat} (hk : k < n) (hp : p k = true) (hno : ∀ j, j < k → p j = false) : (List.range n).find? p = some k := by
  rw [List.find?_range_eq_some]
  exact ⟨hp, List.mem_range.2 hk, fun j hj => by simp [hno j hj]⟩
theorem range_none {p : Nat → Bool} {n : Nat} (hno : ∀ j, j < n → p j = false) : (List.range n).find? p = none := by
  rw [List.find?_range_eq_none]
  exact fun j hj => by simp [hno j hj]
theorem next_no {p : Nat → Bool} {k : Nat} (h : ∀ j, j < k → p j = false) (hk : p k = false) : ∀ j, j < k + 1 → p j = false := by
  intro j hj
  rcases Nat.lt_succ_iff_lt_or_eq.1 hj with h' | rfl
  · exact h j h'
  · exact hk

set_option maxRecDepth 100000 in
set_option maxHeartbeats 16000000 in
theorem find22 (A : Option Addr) (c : Nat) (vs : List SpanV) (l : List SpanB) (x : Int) (w : World) (h : RdL w A vs l) (hx : 0 ≤ x ∧ x < 18446744073709551616) :
    Calls Tryd.prog 22 #[.slice A l.length c, .int .u64 x] w (Ret (.tuple #[.int .i64 (findR l x).i, .int .i64 (findR l x).k, .int .i64 (findR l x).e]) w) := by
  have CC : Hid (Calls Tryd.prog 20 #[.slice A l.length c] w (Ret (.int .i64 (chkE l)) w)) := check20 A c vs l w h
  have hl := h.len
  by_cases hok : okL l = true
  · have E0 : Hid (findR l x = atR l x (l.findIdx? (inS x))) := by show _ = _; unfold findR; rw [if_pos hok]
    rw [show chkE l = 0 from by simp [chkE, hok]] at CC
    have H := Lib.hid h
    have HOK := Lib.hid hok
    clear h hok
    go_enter Tryd.func22, Tryd.ntmps22
    go_wp2_with (go_at_call 20; refine CC.out.mono ?_)
    rintro e w1 ⟨rfl, hb1⟩
    have HB1 := Lib.hid hb1
    clear hb1
    go_wp2
    obtain ⟨wo, hwo⟩ : ∃ wo : World, wo = w1 := ⟨w1, rfl⟩
    go_loopw [15] (fun i wr => ∃ k : Nat, k ≤ l.length ∧ i = .int .i64 k ∧ Hid (∀ j, j < k → ∀ s, l[j]? = some s → inS x s = false) ∧ Hid (Below w.heap.size w wr)) (fun i _ => l.length - (intOf i).toNat)
    case atStart => exact ⟨0, Nat.zero_le _, rfl, fun j hj => by omega, HB1.out⟩
    case round =>
      obtain ⟨k, hk, rfl, HNO, HBr⟩ := hrel
      by_cases hlt : k < l.length
      · have hs : l[k]? = some l[k] := List.getElem?_eq_getElem hlt
        generalize l[k] = s at hs
        have hr := okL_right HOK.out hs
        have hp := rightP_parts hr
        have hm := manyP_of hp.1
        have hsb := size_bound hp.1
        have hpp := shapedP_pages hp.1
        have hsl := fun k : Nat => fun h : (k : Int) < manyP s.size => slot_bound hp.1 (show 0 ≤ (k : Int) by omega) h
        have hal := okB_parts hp.2.2.2.1
        have haln := hp.2.2.2.2.2.1
        obtain ⟨mN, HQ⟩ : ∃ mN : Nat, Hid (manyP s.size = (mN : Int)) := ⟨(manyP s.size).toNat, by show _ = _; omega⟩
        have hmN : mN ≤ 8 := by have := HQ.out; omega
        have HIR : Hid (∀ i : Int, inR i s x = match (List.range mN).find? (slotR s x) with | some k => ⟨i, k, 0⟩ | none => ⟨0, 0, 10⟩) := fun i => by unfold inR; rw [HQ.out, Int.toNat_natCast]
        obtain ⟨v, bk, o, hv, hR, hA, hbk, c0, c1, c2, c3, c4, c5, c6, c7⟩ := H.out.at_ hs
        replace c0 := cell_later HBr.out c0
        replace c1 := cell_later HBr.out c1
        replace c2 := cell_later HBr.out c2
        replace c3 := cell_later HBr.out c3
        replace c4 := cell_later HBr.out c4
        replace c5 := cell_later HBr.out c5
        replace c6 := cell_later HBr.out c6
        replace c7 := cell_later HBr.out c7
        have hf0 := hp.2.1
        have hf1 : s.first + s.pages ≤ 1024 := by have := hp.2.2.1; omega
        have CT : Hid (∀ W, ∀ q : Nat, q < mN → Calls Tryd.prog 43 #[v.v, .int .i64 q] W (Ret (.int .u64 (s.first * 16 + (q : Int) * s.size)) W)) := fun W q hq => by
          have hqq : (q : Int) < manyP s.size := by rw [HQ.out]; omega
          have := at43 v q W (by rw [hR.first]; exact hf0) (by rw [hR.first]; omega) (by omega) (by rw [hR.size]; exact hsb.1) (by rw [hR.size]; exact hsb.2) (by rw [hR.size]; have := hsl q hqq; omega)
          rwa [hR.first, hR.size] at this
        have CT0 : Hid (∀ W, Calls Tryd.prog 43 #[v.v, .int .i64 0] W (Ret (.int .u64 (s.first * 16)) W)) := fun W => by
          have := CT.out W 0 (by have := HQ.out; omega)
          simpa using this
        have CM : Hid (∀ W, Calls Tryd.prog 39 #[.int .i64 v.size] W (Ret (.int .i64 (mN : Int)) W)) := fun W => by rw [← HQ.out, hR.size]; exact many39 _ W
        have CI : Hid (∀ W, Below w.heap.size w W → ∀ q : Nat, q < mN → Calls Tryd.prog 51 #[v.al.v, .int .i64 q] W (Ret (.bool (bitP s.al q)) W)) := fun W hW q hq => is51 v.al s.al q W (hR.al.below hW) (by have := HQ.out; omega) (by omega)
        have h1 := hR.first
        have h2 := hR.pages
        obtain ⟨f, p, z', ⟨n, A1, m, ca⟩, ⟨n', A2, m', cb⟩, sw⟩ := v
        unfold SpanV.v at CT CT0
        unfold BitV.v at CI
        simp only at c0 c1 c2 c3 c4 c5 c6 c7 CT CT0 CI CM h1 h2
        subst hA
        subst h1
        subst h2
        have HSS := Lib.hid hs
        have hpg : 1 ≤ s.pages := by omega
        have HF : Hid (endP s = s.first + s.pages) := rfl
        clear hv hs hR hr hp hm hsb hpp hsl hal haln
        have HB2 := Lib.hid (balloc HBr.out (.cells #[.int .i64 s.first, .int .i64 s.pages, .int .i64 z', .int .i64 n, .slice A1 m ca, .int .i64 n', .slice A2 m' cb, .bool sw] 26))
        have K0 : Hid ((wr.alloc (.cells #[.int .i64 s.first, .int .i64 s.pages, .int .i64 z', .int .i64 n, .slice A1 m ca, .int .i64 n', .slice A2 m' cb, .bool sw] 26)).cell? ⟨wr.heap.size, 0, none⟩ = some (.int .i64 s.first)) := by show _ = _; go_simp
        have K1 : Hid ((wr.alloc (.cells #[.int .i64 s.first, .int .i64 s.pages, .int .i64 z', .int .i64 n, .slice A1 m ca, .int .i64 n', .slice A2 m' cb, .bool sw] 26)).cell? ⟨wr.heap.size, 1, none⟩ = some (.int .i64 s.pages)) := by show _ = _; go_simp
        have K2 : Hid ((wr.alloc (.cells #[.int .i64 s.first, .int .i64 s.pages, .int .i64 z', .int .i64 n, .slice A1 m ca, .int .i64 n', .slice A2 m' cb, .bool sw] 26)).cell? ⟨wr.heap.size, 2, none⟩ = some (.int .i64 z')) := by show _ = _; go_simp
        have K3 : Hid ((wr.alloc (.cells #[.int .i64 s.first, .int .i64 s.pages, .int .i64 z', .int .i64 n, .slice A1 m ca, .int .i64 n', .slice A2 m' cb, .bool sw] 26)).cell? ⟨wr.heap.size, 3, none⟩ = some (.int .i64 n)) := by show _ = _; go_simp
        have K4 : Hid ((wr.alloc (.cells #[.int .i64 s.first, .int .i64 s.pages, .int .i64 z', .int .i64 n, .slice A1 m ca, .int .i64 n', .slice A2 m' cb, .bool sw] 26)).cell? ⟨wr.heap.size, 4, none⟩ = some (.slice A1 m ca)) := by show _ = _; go_simp
        have K5 : Hid ((wr.alloc (.cells #[.int .i64 s.first, .int .i64 s.pages, .int .i64 z', .int .i64 n, .slice A1 m ca, .int .i64 n', .slice A2 m' cb, .bool sw] 26)).cell? ⟨wr.heap.size, 5, none⟩ = some (.int .i64 n')) := by show _ = _; go_simp
        have K6 : Hid ((wr.alloc (.cells #[.int .i64 s.first, .int .i64 s.pages, .int .i64 z', .int .i64 n, .slice A1 m ca, .int .i64 n', .slice A2 m' cb, .bool sw] 26)).cell? ⟨wr.heap.size, 6, none⟩ = some (.slice A2 m' cb)) := by show _ = _; go_simp
        have K7 : Hid ((wr.alloc (.cells #[.int .i64 s.first, .int .i64 s.pages, .int .i64 z', .int .i64 n, .slice A1 m ca, .int .i64 n', .slice A2 m' cb, .bool sw] 26)).cell? ⟨wr.heap.size, 7, none⟩ = some (.bool sw)) := by show _ = _; go_simp
        by_cases hlo : x < s.first * 16
        · have HP : Hid (inS x s = false) := by show _ = _; unfold inS; rw [decide_eq_false (by omega)]; rfl
          go_wp2_with (go_at_call 43; refine (CT0.out _).mono ?_)
          rintro e w3 ⟨rfl, hb3⟩
          have HB3 := Lib.hid (bthen HB2.out hb3)
          have k0 := cell_later hb3 K0.out
          have k1 := cell_later hb3 K1.out
          have k2 := cell_later hb3 K2.out
          have k3 := cell_later hb3 K3.out
          have k4 := cell_later hb3 K4.out
          have k5 := cell_later hb3 K5.out
          have k6 := cell_later hb3 K6.out
          have k7 := cell_later hb3 K7.out
          have HX3 := Lib.hid hb3
          clear hb3
          go_wp2
          go_roundw
          case rel => exact ⟨k + 1, by omega, by go_num, no_next HSS.out HP.out HNO.out, HB3.out⟩
          case measure => simp [intOf]; omega
        · by_cases hhi : (s.first + s.pages) * 16 ≤ x
          · have HP : Hid (inS x s = false) := by show _ = _; unfold inS; rw [HF.out, decide_eq_false (p := x < (s.first + s.pages) * 16) (by omega), Bool.and_false]
            go_wp2_with (go_at_call 43; refine (CT0.out _).mono ?_)
            rintro e w3 ⟨rfl, hb3⟩
            have HB3 := Lib.hid (bthen HB2.out hb3)
            have k0 := cell_later hb3 K0.out
            have k1 := cell_later hb3 K1.out
            have k2 := cell_later hb3 K2.out
            have k3 := cell_later hb3 K3.out
            have k4 := cell_later hb3 K4.out
            have k5 := cell_later hb3 K5.out
            have k6 := cell_later hb3 K6.out
            have k7 := cell_later hb3 K7.out
            have HX3 := Lib.hid hb3
            clear hb3
            go_wp2
            go_roundw
            case rel => exact ⟨k + 1, by omega, by go_num, no_next HSS.out HP.out HNO.out, HB3.out⟩
            case measure => simp [intOf]; omega
          · have HP : Hid (inS x s = true) := by show _ = _; unfold inS; rw [HF.out, decide_eq_true (by omega), decide_eq_true (by omega)]; rfl
            have E1 : Hid (findR l x = match (List.range mN).find? (slotR s x) with | some q => ⟨k, q, 0⟩ | none => ⟨0, 0, 10⟩) := by
              show _ = _
              rw [E0.out, room_some HSS.out HP.out HNO.out]
              show onR l[k]? k x = _
              rw [HSS.out]
              exact HIR.out k
            clear HIR E0
            go_wp2_with (go_at_call 43; refine (CT0.out _).mono ?_)
            rintro e w3 ⟨rfl, hb3⟩
            have HB3 := Lib.hid (bthen HB2.out hb3)
            have k0 := cell_later hb3 K0.out
            have k1 := cell_later hb3 K1.out
            have k2 := cell_later hb3 K2.out
            have k3 := cell_later hb3 K3.out
            have k4 := cell_later hb3 K4.out
            have k5 := cell_later hb3 K5.out
            have k6 := cell_later hb3 K6.out
            have k7 := cell_later hb3 K7.out
            have HX3 := Lib.hid hb3
            clear hb3
            clear CT0
            go_wp2
            clear k0 k1 k2 k3 k4 k5 k6 k7 c0 c1 c2 c3 c4 c5 c6 c7
            obtain ⟨wo3, hwo3⟩ : ∃ wo3 : World, wo3 = w3 := ⟨w3, rfl⟩
            go_loopw [9] (fun i wr2 => ∃ q : Nat, q ≤ mN ∧ i = .int .i64 q ∧ Hid (∀ j, j < q → slotR s x j = false) ∧ Hid (Below w3.heap.size w3 wr2)) (fun i _ => mN - (intOf i).toNat)
            case atStart => exact ⟨0, Nat.zero_le _, rfl, fun j hj => by omega, Below.refl _ _⟩
            case round =>
              obtain ⟨q, hq, rfl, HN2, HBi⟩ := hrel
              have HX4 := Lib.hid (bthen HX3.out HBi.out)
              have HW4 := Lib.hid (bthen HB3.out HBi.out)
              have k0 := cell_later HX4.out K0.out
              have k1 := cell_later HX4.out K1.out
              have k2 := cell_later HX4.out K2.out
              have k3 := cell_later HX4.out K3.out
              have k4 := cell_later HX4.out K4.out
              have k5 := cell_later HX4.out K5.out
              have k6 := cell_later HX4.out K6.out
              have k7 := cell_later HX4.out K7.out
              by_cases hqlt : q < mN
              · go_wp2_with (go_at_call 39; refine (CM.out _).mono ?_)
                rintro e w5 ⟨rfl, hb5⟩
                have HX5 := Lib.hid (bthen HX4.out hb5)
                have HW5 := Lib.hid (bthen HW4.out hb5)
                have HI5 := Lib.hid (bthen HBi.out hb5)
                clear hb5 k0 k1 k2 k3 k4 k5 k6 k7
                have k0 := cell_later HX5.out K0.out
                have k1 := cell_later HX5.out K1.out
                have k2 := cell_later HX5.out K2.out
                have k3 := cell_later HX5.out K3.out
                have k4 := cell_later HX5.out K4.out
                have k5 := cell_later HX5.out K5.out
                have k6 := cell_later HX5.out K6.out
                have k7 := cell_later HX5.out K7.out
                go_wp2_with (go_at_call 43; refine (CT.out _ q hqlt).mono ?_)
                rintro e w6 ⟨rfl, hb6⟩
                have HX6 := Lib.hid (bthen HX5.out hb6)
                have HW6 := Lib.hid (bthen HW5.out hb6)
                have HI6 := Lib.hid (bthen HI5.out hb6)
                clear hb6 k0 k1 k2 k3 k4 k5 k6 k7
                by_cases he : s.first * 16 + (q : Int) * s.size = x
                · cases hbt : bitP s.al q
                  · have HS : Hid (slotR s x q = false) := by show _ = _; unfold slotR; rw [hbt, Bool.and_false]
                    have CI1 := Lib.hid (fun W hW => CI.out W hW q hqlt)
                    rw [hbt] at CI1
                    rw [he]
                    clear hbt he
                    have k0 := cell_later HX6.out K0.out
                    have k1 := cell_later HX6.out K1.out
                    have k2 := cell_later HX6.out K2.out
                    have k3 := cell_later HX6.out K3.out
                    have k4 := cell_later HX6.out K4.out
                    have k5 := cell_later HX6.out K5.out
                    have k6 := cell_later HX6.out K6.out
                    have k7 := cell_later HX6.out K7.out
                    go_wp2_with (go_at_call 51; refine (CI1.out _ HW6.out).mono ?_)
                    rintro e w7 ⟨rfl, hb7⟩
                    have HI7 := Lib.hid (bthen HI6.out hb7)
                    clear hb7 k0 k1 k2 k3 k4 k5 k6 k7
                    go_wp2
                    go_roundw
                    case rel => exact ⟨q + 1, by omega, by go_num, next_no HN2.out HS.out, HI7.out⟩
                    case measure => simp [intOf]; omega
                  · have HS : Hid (slotR s x q = true) := by show _ = _; unfold slotR; rw [hbt, he]; simp
                    have CI1 := Lib.hid (fun W hW => CI.out W hW q hqlt)
                    rw [hbt] at CI1
                    rw [he]
                    clear hbt he
                    have E1 : Hid (findR l x = ⟨k, q, 0⟩) := by show _ = _; rw [E1.out, range_find hqlt HS.out HN2.out]
                    have k0 := cell_later HX6.out K0.out
                    have k1 := cell_later HX6.out K1.out
                    have k2 := cell_later HX6.out K2.out
                    have k3 := cell_later HX6.out K3.out
                    have k4 := cell_later HX6.out K4.out
                    have k5 := cell_later HX6.out K5.out
                    have k6 := cell_later HX6.out K6.out
                    have k7 := cell_later HX6.out K7.out
                    go_wp2_with (go_at_call 51; refine (CI1.out _ HW6.out).mono ?_)
                    rintro e w7 ⟨rfl, hb7⟩
                    have HW7 := Lib.hid (bthen HW6.out hb7)
                    clear hb7 k0 k1 k2 k3 k4 k5 k6 k7
                    go_wp2
                    go_ret3
                    rw [E1.out]
                    exact ⟨rfl, HW7.out⟩
                · have HS : Hid (slotR s x q = false) := by show _ = _; unfold slotR; rw [beq_eq_false_iff_ne.2 he]; rfl
                  have hne : (s.first * 16 + (q : Int) * s.size == x) = false := beq_eq_false_iff_ne.2 he
                  clear he
                  go_wp2
                  go_roundw
                  case rel => exact ⟨q + 1, by omega, by go_num, next_no HN2.out HS.out, HI6.out⟩
                  case measure => simp [intOf]; omega
              · obtain rfl : q = mN := by omega
                have E1 : Hid (findR l x = ⟨0, 0, 10⟩) := by show _ = _; rw [E1.out, range_none HN2.out]
                go_wp2_with (go_at_call 39; refine (CM.out _).mono ?_)
                rintro e w5 ⟨rfl, hb5⟩
                have HW5 := Lib.hid (bthen HW4.out hb5)
                clear hb5 k0 k1 k2 k3 k4 k5 k6 k7
                go_wp2
                go_ret3
                rw [E1.out]
                exact ⟨rfl, HW5.out⟩
      · obtain rfl : k = l.length := by omega
        have E1 : Hid (findR l x = ⟨0, 0, 3⟩) := by show _ = _; rw [E0.out, room_none HNO.out]; rfl
        go_wp2
        go_ret3
        rw [E1.out]
        exact ⟨rfl, HBr.out⟩
  · have E1 : Hid (findR l x = ⟨0, 0, 2⟩) := by show _ = _; unfold findR; rw [if_neg hok]
    rw [show chkE l = 2 from by simp [chkE, hok]] at CC
    clear h hok
    go_enter Tryd.func22, Tryd.ntmps22
    go_wp2_with (go_at_call 20; refine CC.out.mono ?_)
    rintro e w1 ⟨rfl, hb1⟩
    have HB1 := Lib.hid hb1
    clear hb1
    go_wp2
    go_ret3
    rw [E1.out]
    exact ⟨rfl, HB1.out⟩

/-- What the reference finds is what the program finds. -/
theorem idxF_out {l : List SpanB} (hok : okL l = true) {x : Int} (hno : ∀ j, j < l.length → ∀ s, l[j]? = some s → inS x s = false) : findP l x = ⟨0, 0, 3⟩ := by
  unfold findP
  rw [if_pos hok]
  by_cases hneg : idxF l x < 0
  · rw [if_pos hneg]
  · rw [if_neg hneg]
    have hlt := idxF_lt (l := l) (x := x) (by omega)
    have hy : l[(idxF l x).toNat]? = some l[(idxF l x).toNat] := List.getElem?_eq_getElem hlt
    have h1 := idxF_at (by omega) hy
    have h2 := hno _ hlt _ hy
    rw [hy]
    unfold findOn findIn
    simp only
    unfold inS at h2
    rw [decide_eq_true h1, Bool.true_and, decide_eq_false_iff_not] at h2
    rw [if_pos (by omega)]
theorem find_eq {l : List SpanB} (x : Int) : findR l x = findP l x := by
  by_cases hok : okL l = true
  · unfold findR
    rw [if_pos hok]
    cases hf : l.findIdx? (inS x)
    · rw [List.findIdx?_eq_none_iff] at hf
      rw [idxF_out hok (fun j hj s hs => hf s (List.mem_of_getElem? hs))]
      rfl
    · rename_i i
      rw [List.findIdx?_eq_some_iff_getElem] at hf
      obtain ⟨hil, hin, _⟩ := hf
      have hs : l[i]? = some l[i] := List.getElem?_eq_getElem hil
      generalize l[i] = s at hs hin
      unfold inS at hin
      simp only [Bool.and_eq_true, decide_eq_true_eq] at hin
      have hr := okL_right hok hs
      have hp := rightP_parts hr
      have hm := manyP_of hp.1
      show onR l[i]? i x = _
      rw [hs, findP_in hok hs hin.1 hin.2]
      show inR i s x = _
      unfold inR findIn
      rw [if_neg (by omega)]
      have hz := shapedP_size hp.1
      have key : ∀ k : Nat, (k : Int) < manyP s.size → (slotR s x k = true ↔ (restP s.size (x - s.first * 16) = 0 ∧ bitP s.al (slotP s.size (x - s.first * 16)).toNat = true ∧ slotP s.size (x - s.first * 16) = k)) := by
        intro k hk
        unfold slotR
        rw [Bool.and_eq_true, beq_iff_eq]
        have e1 : s.first * 16 + (k : Int) * s.size = x → slotP s.size (x - s.first * 16) = k ∧ restP s.size (x - s.first * 16) = 0 := by
          intro e
          rcases hz with h | h | h | h | h
          · rw [h] at hk e ⊢
            have : manyP 0 = 1 := by decide +kernel
            unfold slotP restP
            exact ⟨by rw [if_neg (by omega)]; omega, by rw [if_neg (by omega)]; omega⟩
          all_goals
            rw [h] at e ⊢
            unfold slotP restP
            exact ⟨by rw [if_pos (by omega)]; omega, by rw [if_pos (by omega)]; omega⟩
        have e2 : restP s.size (x - s.first * 16) = 0 → slotP s.size (x - s.first * 16) = k → s.first * 16 + (k : Int) * s.size = x := by
          intro h4 h5
          unfold restP at h4
          unfold slotP at h5
          rcases hz with h | h | h | h | h
          · rw [h] at h4 h5 ⊢
            rw [if_neg (by omega)] at h4
            omega
          all_goals
            rw [h] at h4 h5 ⊢
            rw [if_pos (by omega)] at h4 h5
            omega
        constructor
        · rintro ⟨ha, hb⟩
          obtain ⟨q1, q2⟩ := e1 ha
          exact ⟨q2, by rw [q1]; simpa using hb, q1⟩
        · rintro ⟨ha, hb, hc⟩
          refine ⟨e2 ha hc, ?_⟩
          rw [hc] at hb
          simpa using hb
      by_cases hh : restP s.size (x - s.first * 16) = 0 ∧ bitP s.al (slotP s.size (x - s.first * 16)).toNat = true
      · rw [if_pos hh]
        have h0 : 0 ≤ slotP s.size (x - s.first * 16) := by unfold slotP; split <;> first | omega | exact Int.ediv_nonneg (by omega) (by omega)
        have hlt : slotP s.size (x - s.first * 16) < manyP s.size := by
          apply Classical.byContradiction
          intro hge
          have := okB_bits hp.2.2.2.1 (slotP s.size (x - s.first * 16)).toNat (by
            have hall := okB_parts hp.2.2.2.1
            have hsl := slot_less hr (off := x - s.first * 16) (by omega) (by unfold endP at hin; omega)
            omega) (by rw [hp.2.2.2.2.2.1]; omega)
          rw [hh.2] at this
          cases this
        have e : slotP s.size (x - s.first * 16) = ((slotP s.size (x - s.first * 16)).toNat : Int) := by omega
        rw [range_find (k := (slotP s.size (x - s.first * 16)).toNat) (by omega) ((key _ (by omega)).2 ⟨hh.1, hh.2, e⟩)]
        · show (⟨(i : Int), ((slotP s.size (x - s.first * 16)).toNat : Int), 0⟩ : Fd) = _
          rw [← e]
        · intro j hj
          rw [Bool.eq_false_iff]
          intro hc
          have := ((key j (by omega)).1 hc).2.2
          omega
      · rw [if_neg hh, range_none]
        intro j hj
        rw [Bool.eq_false_iff]
        intro hc
        have := (key j (by omega)).1 hc
        exact hh ⟨this.1, this.2.1⟩
  · unfold findR findP
    rw [if_neg hok, if_neg hok]
end Go.Proofs.YtchbbldanmmpjaaDoor
