/- The walk of the reference's Room. -/
import Derived.Test.YtchbbldanmmpjaaDoorUF
namespace Go.Proofs.YtchbbldanmmpjaaDoor
open Go.RowKit
set_option linter.unusedVariables false
set_option linter.unusedSimpArgs false

def freeR (z : Int) (s : SpanB) (k : Nat) : Bool := (s.size == z) && (s.sw && !bitP s.al k)
def isR (s : SpanB) (k : Nat) : Bool := bitP s.al k == false
/-- Of a right span: where the first free bit is, the reference's way. -/
theorem first_find {s : SpanB} (hr : rightP s = true) : (∀ q : Nat, (q : Int) < manyP s.size → bitP s.al q = false → (∀ j, j < q → bitP s.al j = true) → firstE s.al 0 false = 0 ∧ firstI s.al 0 false = q) ∧
    ((∀ j : Nat, (j : Int) < manyP s.size → bitP s.al j = true) → firstE s.al 0 false ≠ 0) := by
  have hp := rightP_parts hr
  have hm := manyP_of hp.1
  have ha := hp.2.2.2.1
  have hn := hp.2.2.2.2.2.1
  have hin : firstIn s.al 0 := ⟨Int.le_refl _, by omega⟩
  have eN : firstN s.al (0 : Int).toNat false = ((List.range (manyP s.size).toNat).find? (isR s)).getD (manyP s.size).toNat := by
    unfold firstN
    rw [hn]
    simp only [Int.toNat_zero, Nat.sub_zero, List.range_eq_range']
    rfl
  have eE : firstE s.al 0 false = if (firstN s.al (0 : Int).toNat false : Int) = s.al.n then 3 else 0 := by
    unfold firstE
    rw [if_pos ha, if_pos hin]
  constructor
  · intro q hq hb hlo
    have h1 : (List.range (manyP s.size).toNat).find? (isR s) = some q := range_find (by omega) (by unfold isR; rw [hb]; rfl) (fun j hj => by unfold isR; rw [hlo j hj]; rfl)
    rw [h1] at eN
    have e0 : firstE s.al 0 false = 0 := by
      rw [eE, eN, if_neg]
      show ¬ ((q : Int) = s.al.n)
      omega
    refine ⟨e0, ?_⟩
    unfold firstI
    rw [if_pos e0, eN]
    rfl
  · intro hall
    have h1 : (List.range (manyP s.size).toNat).find? (isR s) = none := range_none (fun j hj => by unfold isR; rw [hall j (by omega)]; rfl)
    rw [h1] at eN
    rw [eE, eN, if_pos]
    · decide
    · show (((manyP s.size).toNat : Nat) : Int) = s.al.n
      omega
theorem room_yes {z : Int} {s : SpanB} (hr : rightP s = true) {q : Nat} (hq : (q : Int) < manyP s.size) (h : freeR z s q = true) (hno : ∀ j, j < q → freeR z s j = false) : hasRoom z s = true ∧ firstI s.al 0 false = q := by
  unfold freeR at h
  simp only [Bool.and_eq_true, Bool.not_eq_true', beq_iff_eq] at h
  obtain ⟨h1, h2, h3⟩ := h
  have h4 := (first_find hr).1 q hq h3 (fun j hj => by
    have := hno j hj
    unfold freeR at this
    rw [h1, h2] at this
    simpa using this)
  exact ⟨by unfold hasRoom; rw [h1, h2, h4.1]; simp, h4.2⟩
theorem room_no {z : Int} {s : SpanB} (hr : rightP s = true) {m : Nat} (hm : manyP s.size = (m : Int)) (hno : ∀ j, j < m → freeR z s j = false) : hasRoom z s = false := by
  rw [Bool.eq_false_iff]
  intro h
  unfold hasRoom at h
  simp only [Bool.and_eq_true, beq_iff_eq] at h
  obtain ⟨h1, h2, h3⟩ := h
  refine (first_find hr).2 (fun j hj => ?_) h3
  have := hno j (by omega)
  unfold freeR at this
  rw [h1, h2] at this
  simpa using this
theorem roomIn_yes {l : List SpanB} {z : Int} {k : Nat} {s : SpanB} {q : Nat} (hs : l[k]? = some s) (hp : hasRoom z s = true ∧ firstI s.al 0 false = q) (hno : ∀ j, j < k → ∀ s, l[j]? = some s → hasRoom z s = false) :
    roomIn l (l.findIdx? (hasRoom z)) = ⟨k, q, 0⟩ := by
  rw [room_some hs hp.1 hno]
  show roomAt k l[k]? = _
  rw [hs]
  show (⟨k, firstI s.al 0 false, 0⟩ : Fd) = _
  rw [hp.2]

set_option maxRecDepth 100000 in
set_option maxHeartbeats 16000000 in
theorem room24 (A : Option Addr) (c : Nat) (vs : List SpanV) (l : List SpanB) (z : Int) (w : World) (h : RdL w A vs l) :
    Calls Tryd.prog 24 #[.slice A l.length c, .int .i64 z] w (Ret (.tuple #[.int .i64 (roomP l z).i, .int .i64 (roomP l z).k, .int .i64 (roomP l z).e]) w) := by
  have CC : Hid (Calls Tryd.prog 20 #[.slice A l.length c] w (Ret (.int .i64 (chkE l)) w)) := check20 A c vs l w h
  have hl := h.len
  by_cases hok : okL l = true
  · have E0 : Hid (roomP l z = roomIn l (l.findIdx? (hasRoom z))) := by show _ = _; unfold roomP; rw [if_pos hok]
    rw [show chkE l = 0 from by simp [chkE, hok]] at CC
    have H := Lib.hid h
    have HOK := Lib.hid hok
    clear h hok
    go_enter Tryd.func24, Tryd.ntmps24
    go_wp2_with (go_at_call 20; refine CC.out.mono ?_)
    rintro e w1 ⟨rfl, hb1⟩
    have HB1 := Lib.hid hb1
    clear hb1
    go_wp2
    obtain ⟨wo, hwo⟩ : ∃ wo : World, wo = w1 := ⟨w1, rfl⟩
    go_loopw [15] (fun i wr => ∃ k : Nat, k ≤ l.length ∧ i = .int .i64 k ∧ Hid (∀ j, j < k → ∀ s, l[j]? = some s → hasRoom z s = false) ∧ Hid (Below w.heap.size w wr)) (fun i _ => l.length - (intOf i).toNat)
    case atStart => exact ⟨0, Nat.zero_le _, rfl, fun j hj => by omega, HB1.out⟩
    case round =>
      obtain ⟨k, hk, rfl, HNO, HBr⟩ := hrel
      by_cases hlt : k < l.length
      · have hs : l[k]? = some l[k] := List.getElem?_eq_getElem hlt
        generalize l[k] = s at hs
        have hr := okL_right HOK.out hs
        have hp := rightP_parts hr
        have hm := manyP_of hp.1
        have hal := okB_parts hp.2.2.2.1
        have haln := hp.2.2.2.2.2.1
        have HR := Lib.hid hr
        obtain ⟨mN, HQ⟩ : ∃ mN : Nat, Hid (manyP s.size = (mN : Int)) := ⟨(manyP s.size).toNat, by show _ = _; omega⟩
        have hmN : mN ≤ 8 := by have := HQ.out; omega
        obtain ⟨v, bk, o, hv, hR, hA, hbk, c0, c1, c2, c3, c4, c5, c6, c7⟩ := H.out.at_ hs
        replace c0 := cell_later HBr.out c0
        replace c1 := cell_later HBr.out c1
        replace c2 := cell_later HBr.out c2
        replace c3 := cell_later HBr.out c3
        replace c4 := cell_later HBr.out c4
        replace c5 := cell_later HBr.out c5
        replace c6 := cell_later HBr.out c6
        replace c7 := cell_later HBr.out c7
        have CM : Hid (∀ W, Calls Tryd.prog 39 #[.int .i64 v.size] W (Ret (.int .i64 (mN : Int)) W)) := fun W => by rw [← HQ.out, hR.size]; exact many39 _ W
        have CI : Hid (∀ W, Below w.heap.size w W → ∀ q : Nat, q < mN → Calls Tryd.prog 51 #[v.al.v, .int .i64 q] W (Ret (.bool (bitP s.al q)) W)) := fun W hW q hq => is51 v.al s.al q W (hR.al.below hW) (by have := HQ.out; omega) (by omega)
        have h1 := hR.size
        have h2 := hR.sw
        obtain ⟨f, p, z', ⟨n, A1, m, ca⟩, ⟨n', A2, m', cb⟩, sw⟩ := v
        unfold BitV.v at CI
        simp only at c0 c1 c2 c3 c4 c5 c6 c7 CI CM h1 h2
        subst hA
        subst h1
        subst h2
        have HSS := Lib.hid hs
        clear hv hs hR hr hp hm hal haln
        have HB2 := Lib.hid (balloc HBr.out (.cells #[.int .i64 f, .int .i64 p, .int .i64 s.size, .int .i64 n, .slice A1 m ca, .int .i64 n', .slice A2 m' cb, .bool s.sw] 26))
        have K0 : Hid ((wr.alloc (.cells #[.int .i64 f, .int .i64 p, .int .i64 s.size, .int .i64 n, .slice A1 m ca, .int .i64 n', .slice A2 m' cb, .bool s.sw] 26)).cell? ⟨wr.heap.size, 0, none⟩ = some (.int .i64 f)) := by show _ = _; go_simp
        have K1 : Hid ((wr.alloc (.cells #[.int .i64 f, .int .i64 p, .int .i64 s.size, .int .i64 n, .slice A1 m ca, .int .i64 n', .slice A2 m' cb, .bool s.sw] 26)).cell? ⟨wr.heap.size, 1, none⟩ = some (.int .i64 p)) := by show _ = _; go_simp
        have K2 : Hid ((wr.alloc (.cells #[.int .i64 f, .int .i64 p, .int .i64 s.size, .int .i64 n, .slice A1 m ca, .int .i64 n', .slice A2 m' cb, .bool s.sw] 26)).cell? ⟨wr.heap.size, 2, none⟩ = some (.int .i64 s.size)) := by show _ = _; go_simp
        have K3 : Hid ((wr.alloc (.cells #[.int .i64 f, .int .i64 p, .int .i64 s.size, .int .i64 n, .slice A1 m ca, .int .i64 n', .slice A2 m' cb, .bool s.sw] 26)).cell? ⟨wr.heap.size, 3, none⟩ = some (.int .i64 n)) := by show _ = _; go_simp
        have K4 : Hid ((wr.alloc (.cells #[.int .i64 f, .int .i64 p, .int .i64 s.size, .int .i64 n, .slice A1 m ca, .int .i64 n', .slice A2 m' cb, .bool s.sw] 26)).cell? ⟨wr.heap.size, 4, none⟩ = some (.slice A1 m ca)) := by show _ = _; go_simp
        have K5 : Hid ((wr.alloc (.cells #[.int .i64 f, .int .i64 p, .int .i64 s.size, .int .i64 n, .slice A1 m ca, .int .i64 n', .slice A2 m' cb, .bool s.sw] 26)).cell? ⟨wr.heap.size, 5, none⟩ = some (.int .i64 n')) := by show _ = _; go_simp
        have K6 : Hid ((wr.alloc (.cells #[.int .i64 f, .int .i64 p, .int .i64 s.size, .int .i64 n, .slice A1 m ca, .int .i64 n', .slice A2 m' cb, .bool s.sw] 26)).cell? ⟨wr.heap.size, 6, none⟩ = some (.slice A2 m' cb)) := by show _ = _; go_simp
        have K7 : Hid ((wr.alloc (.cells #[.int .i64 f, .int .i64 p, .int .i64 s.size, .int .i64 n, .slice A1 m ca, .int .i64 n', .slice A2 m' cb, .bool s.sw] 26)).cell? ⟨wr.heap.size, 7, none⟩ = some (.bool s.sw)) := by show _ = _; go_simp
        go_wp2
        clear c0 c1 c2 c3 c4 c5 c6 c7
        generalize wr.alloc (.cells #[.int .i64 f, .int .i64 p, .int .i64 s.size, .int .i64 n, .slice A1 m ca, .int .i64 n', .slice A2 m' cb, .bool s.sw] 26) = W1 at *
        obtain ⟨wo3, hwo3⟩ : ∃ wo3 : World, wo3 = W1 := ⟨W1, rfl⟩
        go_loopw [9] (fun i wr2 => ∃ q : Nat, q ≤ mN ∧ i = .int .i64 q ∧ Hid (∀ j, j < q → freeR z s j = false) ∧ Hid (Below W1.heap.size W1 wr2)) (fun i _ => mN - (intOf i).toNat)
        case atStart => exact ⟨0, Nat.zero_le _, rfl, fun j hj => by omega, Below.refl _ _⟩
        case round =>
          obtain ⟨q, hq, rfl, HN2, HBi⟩ := hrel
          have k0 := cell_later HBi.out K0.out
          have k1 := cell_later HBi.out K1.out
          have k2 := cell_later HBi.out K2.out
          have k3 := cell_later HBi.out K3.out
          have k4 := cell_later HBi.out K4.out
          have k5 := cell_later HBi.out K5.out
          have k6 := cell_later HBi.out K6.out
          have k7 := cell_later HBi.out K7.out
          go_wp2_with (go_at_call 39; refine (CM.out _).mono ?_)
          rintro e w5 ⟨rfl, hb5⟩
          have HI5 := Lib.hid (bthen HBi.out hb5)
          have HW5 := Lib.hid (bthen HB2.out HI5.out)
          clear hb5 k0 k1 k2 k3 k4 k5 k6 k7
          by_cases hqlt : q < mN
          · have k0 := cell_later HI5.out K0.out
            have k1 := cell_later HI5.out K1.out
            have k2 := cell_later HI5.out K2.out
            have k3 := cell_later HI5.out K3.out
            have k4 := cell_later HI5.out K4.out
            have k5 := cell_later HI5.out K5.out
            have k6 := cell_later HI5.out K6.out
            have k7 := cell_later HI5.out K7.out
            by_cases hz : s.size = z
            · by_cases hw : s.sw = true
              rotate_left
              · replace hw : s.sw = false := by simpa using hw
                have HS : Hid (freeR z s q = false) := by show _ = _; unfold freeR; rw [hw, Bool.false_and, Bool.and_false]
                rw [hw] at k7
                subst hz
                clear hw
                go_wp2
                go_roundw
                case rel => exact ⟨q + 1, by omega, by go_num, next_no HN2.out HS.out, HI5.out⟩
                case measure => simp [intOf]; omega
              · rw [hw] at k7
                have CI1 := Lib.hid (fun W hW => CI.out W hW q hqlt)
                cases hbt : bitP s.al q
                · have HS : Hid (freeR z s q = true) := by show _ = _; unfold freeR; rw [hw, hbt, hz]; simp
                  have E1 : Hid (roomP l z = ⟨k, q, 0⟩) := by show _ = _; rw [E0.out]; exact roomIn_yes HSS.out (room_yes HR.out (by rw [HQ.out]; omega) HS.out HN2.out) HNO.out
                  rw [hbt] at CI1
                  clear hbt hw
                  subst hz
                  go_wp2_with (go_at_call 51; refine (CI1.out _ HW5.out).mono ?_)
                  rintro e w7 ⟨rfl, hb7⟩
                  have HW7 := Lib.hid (bthen HW5.out hb7)
                  clear hb7 k0 k1 k2 k3 k4 k5 k6 k7
                  go_wp2
                  go_ret3
                  rw [E1.out]
                  exact ⟨rfl, HW7.out⟩
                · have HS : Hid (freeR z s q = false) := by show _ = _; unfold freeR; rw [hbt]; simp
                  rw [hbt] at CI1
                  clear hbt hw
                  subst hz
                  go_wp2_with (go_at_call 51; refine (CI1.out _ HW5.out).mono ?_)
                  rintro e w7 ⟨rfl, hb7⟩
                  have HI7 := Lib.hid (bthen HI5.out hb7)
                  clear hb7 k0 k1 k2 k3 k4 k5 k6 k7
                  go_wp2
                  go_roundw
                  case rel => exact ⟨q + 1, by omega, by go_num, next_no HN2.out HS.out, HI7.out⟩
                  case measure => simp [intOf]; omega
            · have HS : Hid (freeR z s q = false) := by show _ = _; unfold freeR; rw [beq_eq_false_iff_ne.2 hz, Bool.false_and]
              have hzb : (s.size == z) = false := beq_eq_false_iff_ne.2 hz
              clear hz
              go_wp2
              go_roundw
              case rel => exact ⟨q + 1, by omega, by go_num, next_no HN2.out HS.out, HI5.out⟩
              case measure => simp [intOf]; omega
          · obtain rfl : q = mN := by omega
            have HP := Lib.hid (room_no HR.out HQ.out HN2.out)
            go_wp2
            go_roundw
            case rel => exact ⟨k + 1, by omega, by go_num, no_next HSS.out HP.out HNO.out, HW5.out⟩
            case measure => simp [intOf]; omega
      · obtain rfl : k = l.length := by omega
        have E1 : Hid (roomP l z = ⟨0, 0, 3⟩) := by show _ = _; rw [E0.out, room_none HNO.out]; rfl
        go_wp2
        go_ret3
        rw [E1.out]
        exact ⟨rfl, HBr.out⟩
  · have E1 : Hid (roomP l z = ⟨0, 0, 2⟩) := by show _ = _; unfold roomP; rw [if_neg hok]
    rw [show chkE l = 2 from by simp [chkE, hok]] at CC
    clear h hok
    go_enter Tryd.func24, Tryd.ntmps24
    go_wp2_with (go_at_call 20; refine CC.out.mono ?_)
    rintro e w1 ⟨rfl, hb1⟩
    have HB1 := Lib.hid hb1
    clear hb1
    go_wp2
    go_ret3
    rw [E1.out]
    exact ⟨rfl, HB1.out⟩
end Go.Proofs.YtchbbldanmmpjaaDoor
