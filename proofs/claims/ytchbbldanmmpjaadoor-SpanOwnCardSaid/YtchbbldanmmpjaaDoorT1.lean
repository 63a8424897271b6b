/- The walk of span.Room. -/
import Derived.Test.YtchbbldanmmpjaaDoorT0
import Derived.Test.YtchbbldanmmpjaaDoorSV
namespace Go.Proofs.YtchbbldanmmpjaaDoor
open Go.RowKit
set_option linter.unusedVariables false
set_option linter.unusedSimpArgs false

def hasRoom (z : Int) (s : SpanB) : Bool := (s.size == z) && (s.sw && (firstE s.al 0 false == 0))
def roomAt (i : Nat) (o : Option SpanB) : Fd := match o with | some s => ⟨i, firstI s.al 0 false, 0⟩ | none => ⟨0, 0, 3⟩
def roomIn (l : List SpanB) (o : Option Nat) : Fd := match o with | some i => roomAt i l[i]? | none => ⟨0, 0, 3⟩
def roomP (l : List SpanB) (z : Int) : Fd := if okL l = true then roomIn l (l.findIdx? (hasRoom z)) else ⟨0, 0, 2⟩
theorem room_some {l : List SpanB} {p : SpanB → Bool} {k : Nat} {s : SpanB} (hs : l[k]? = some s) (hp : p s = true) (hno : ∀ j, j < k → ∀ s, l[j]? = some s → p s = false) : l.findIdx? p = some k := by
  obtain ⟨hk, e⟩ := List.getElem?_eq_some_iff.1 hs
  rw [List.findIdx?_eq_some_iff_getElem]
  refine ⟨hk, by rw [e]; exact hp, fun j hj => ?_⟩
  have := hno j hj l[j] (List.getElem?_eq_getElem (by omega))
  simp [this]
theorem room_none {l : List SpanB} {p : SpanB → Bool} (hno : ∀ j, j < l.length → ∀ s, l[j]? = some s → p s = false) : l.findIdx? p = none := by
  rw [List.findIdx?_eq_none_iff]
  intro x hx
  obtain ⟨j, hj, rfl⟩ := List.getElem_of_mem hx
  exact hno j hj _ (List.getElem?_eq_getElem hj)
theorem no_next {l : List SpanB} {p : SpanB → Bool} {k : Nat} {s : SpanB} (hs : l[k]? = some s) (hp : p s = false) (hno : ∀ j, j < k → ∀ s, l[j]? = some s → p s = false) : ∀ j, j < k + 1 → ∀ s, l[j]? = some s → p s = false := by
  intro j hj s' hs'
  rcases Nat.lt_succ_iff_lt_or_eq.1 hj with h | rfl
  · exact hno j h s' hs'
  · rw [hs] at hs'
    cases hs'
    exact hp
set_option maxRecDepth 100000 in
set_option maxHeartbeats 8000000 in
theorem room23 (A : Option Addr) (c : Nat) (vs : List SpanV) (l : List SpanB) (z : Int) (w : World) (h : RdL w A vs l) (hT : Tab w) :
    Calls Tryd.prog 23 #[.slice A l.length c, .int .i64 z] w (Ret (.tuple #[.int .i64 (roomP l z).i, .int .i64 (roomP l z).k, .int .i64 (roomP l z).e]) w) := by
  have CC : Hid (Calls Tryd.prog 19 #[.slice A l.length c] w (Ret (.int .i64 (chkE l)) w)) := check19 A c vs l w h
  have hl := h.len
  have HT := Lib.hid hT
  by_cases hok : okL l = true
  · have E0 : Hid (roomP l z = roomIn l (l.findIdx? (hasRoom z))) := by show _ = _; unfold roomP; rw [if_pos hok]
    rw [show chkE l = 0 from by simp [chkE, hok]] at CC
    have H := Lib.hid h
    clear h hok hT
    go_enter Tryd.func23, Tryd.ntmps23
    go_wp2_with (go_at_call 19; refine CC.out.mono ?_)
    rintro e w1 ⟨rfl, hb1⟩
    have HB1 := Lib.hid hb1
    clear hb1
    go_wp2
    obtain ⟨wo, hwo⟩ : ∃ wo : World, wo = w1 := ⟨w1, rfl⟩
    go_loopw [19] (fun i wr => ∃ k : Nat, k ≤ l.length ∧ i = .int .i64 k ∧ Hid (∀ j, j < k → ∀ s, l[j]? = some s → hasRoom z s = false) ∧ Hid (Below w.heap.size w wr)) (fun i _ => l.length - (intOf i).toNat)
    case atStart => exact ⟨0, Nat.zero_le _, rfl, fun j hj => by omega, HB1.out⟩
    case round =>
      obtain ⟨k, hk, rfl, HNO, HBr⟩ := hrel
      by_cases hlt : k < l.length
      · have hs : l[k]? = some l[k] := List.getElem?_eq_getElem hlt
        generalize l[k] = s at hs
        obtain ⟨v, bk, o, hv, hR, hA, hbk, c0, c1, c2, c3, c4, c5, c6, c7⟩ := H.out.at_ hs
        replace c0 := cell_later HBr.out c0
        replace c1 := cell_later HBr.out c1
        replace c2 := cell_later HBr.out c2
        replace c3 := cell_later HBr.out c3
        replace c4 := cell_later HBr.out c4
        replace c5 := cell_later HBr.out c5
        replace c6 := cell_later HBr.out c6
        replace c7 := cell_later HBr.out c7
        have CF : Hid (∀ W, Below w.heap.size w W → Calls Tryd.prog 52 #[v.al.v, .int .i64 0, .bool false] W (Ret (.tuple #[.int .i64 (firstI s.al 0 false), .int .i64 (firstE s.al 0 false)]) W)) := fun W hW => first52 v.al s.al 0 false W (hR.al.below hW) (HT.out.below hW)
        have hsi := hR.size
        have hsw := hR.sw
        obtain ⟨f, p, z', ⟨n, A1, m, ca⟩, ⟨n', A2, m', cb⟩, sw⟩ := v
        unfold BitV.v at CF
        simp only at c0 c1 c2 c3 c4 c5 c6 c7 CF hsi hsw
        subst hA
        subst hsi
        subst hsw
        have HSS := Lib.hid hs
        clear hv hs hR
        by_cases hz : s.size = z
        · cases hw : s.sw
          · have HP : Hid (hasRoom z s = false) := by show _ = _; simp [hasRoom, hw]
            rw [hw] at c7
            subst hz
            clear hw CF
            have HB2 := Lib.hid (balloc HBr.out (.cells #[.int .i64 f, .int .i64 p, .int .i64 s.size, .int .i64 n, .slice A1 m ca, .int .i64 n', .slice A2 m' cb, .bool false] 26))
            go_wp2
            go_roundw
            case rel => exact ⟨k + 1, by omega, by go_num, no_next HSS.out HP.out HNO.out, HB2.out⟩
            case measure => simp [intOf]; omega
          · rw [hw] at c7
            by_cases he : firstE s.al 0 false = 0
            · have HP : Hid (hasRoom z s = true) := by show _ = _; simp [hasRoom, hz, hw, he]
              have E1 : Hid (roomP l z = ⟨k, firstI s.al 0 false, 0⟩) := by show _ = _; rw [E0.out, room_some HSS.out HP.out HNO.out]; show roomAt k l[k]? = _; rw [HSS.out]; rfl
              rw [he] at CF
              subst hz
              clear hw he
              have HB2 := Lib.hid (balloc HBr.out (.cells #[.int .i64 f, .int .i64 p, .int .i64 s.size, .int .i64 n, .slice A1 m ca, .int .i64 n', .slice A2 m' cb, .bool true] 26))
              go_wp2_with (go_at_call 52; refine (CF.out _ HB2.out).mono ?_)
              rintro e w3 ⟨rfl, hb3⟩
              have HB3 := Lib.hid (bthen HB2.out hb3)
              clear hb3
              go_wp2
              go_ret3
              rw [E1.out]
              exact ⟨rfl, HB3.out⟩
            · have HP : Hid (hasRoom z s = false) := by show _ = _; simp [hasRoom, he]
              have hne : (firstE s.al 0 false == 0) = false := by rw [beq_eq_false_iff_ne]; exact he
              subst hz
              clear hw he
              have HB2 := Lib.hid (balloc HBr.out (.cells #[.int .i64 f, .int .i64 p, .int .i64 s.size, .int .i64 n, .slice A1 m ca, .int .i64 n', .slice A2 m' cb, .bool true] 26))
              go_wp2_with (go_at_call 52; refine (CF.out _ HB2.out).mono ?_)
              rintro e w3 ⟨rfl, hb3⟩
              have HB3 := Lib.hid (bthen HB2.out hb3)
              clear hb3
              go_wp2
              go_roundw
              case rel => exact ⟨k + 1, by omega, by go_num, no_next HSS.out HP.out HNO.out, HB3.out⟩
              case measure => simp [intOf]; omega
        · have HP : Hid (hasRoom z s = false) := by show _ = _; simp [hasRoom, hz]
          have hzb : (s.size != z) = true := by rw [bne_iff_ne]; exact hz
          clear hz CF
          have HB2 := Lib.hid (balloc HBr.out (.cells #[.int .i64 f, .int .i64 p, .int .i64 s.size, .int .i64 n, .slice A1 m ca, .int .i64 n', .slice A2 m' cb, .bool s.sw] 26))
          go_wp2
          go_roundw
          case rel => exact ⟨k + 1, by omega, by go_num, no_next HSS.out HP.out HNO.out, HB2.out⟩
          case measure => simp [intOf]; omega
      · obtain rfl : k = l.length := by omega
        have E1 : Hid (roomP l z = ⟨0, 0, 3⟩) := by show _ = _; rw [E0.out, room_none HNO.out]; rfl
        go_wp2
        go_ret3
        rw [E1.out]
        exact ⟨rfl, HBr.out⟩
  · have E1 : Hid (roomP l z = ⟨0, 0, 2⟩) := by show _ = _; unfold roomP; rw [if_neg hok]
    rw [show chkE l = 2 from by simp [chkE, hok]] at CC
    clear h hok hT
    go_enter Tryd.func23, Tryd.ntmps23
    go_wp2_with (go_at_call 19; refine CC.out.mono ?_)
    rintro e w1 ⟨rfl, hb1⟩
    have HB1 := Lib.hid hb1
    clear hb1
    go_wp2
    go_ret3
    rw [E1.out]
    exact ⟨rfl, HB1.out⟩
end Go.Proofs.YtchbbldanmmpjaaDoor
