/- The walk of Print. -/
import Derived.Test.YtfgeomdfgjefdaaDoorAF
namespace Go.Proofs.YtfgeomdfgjefdaaDoor
open Go.RowKit
set_option linter.unusedVariables false
set_option linter.unusedSimpArgs false

theorem bat_below {B b : Nat} {p : Value} {bs : List Value} {w w1 : World} (h : Lib.BuilderAt 51 5 B b p bs w) (hb : Below w.heap.size w w1) : Lib.BuilderAt 51 5 B b p bs w1 := by
  obtain ⟨h1, v, h2, h3, h4⟩ := h
  exact ⟨h1, v, (hb.block b (Array.getElem?_eq_some_iff.1 h2).1).trans h2, own_below h3 hb, h4⟩
theorem isb_below {B b : Nat} {bs : List Value} {w w1 : World} (h : Lib.IsBuilder 51 5 B b bs w) (hb : Below w.heap.size w w1) : Lib.IsBuilder 51 5 B b bs w1 := by
  rcases h with h | h
  · exact .inl (bat_below h hb)
  · exact .inr (bat_below h hb)
set_option maxRecDepth 100000 in
set_option maxHeartbeats 32000000 in
theorem print12 (l : List Ev) (A : Option Addr) (c : Nat) (w : World) (hr : RdS w A l) (hE : Env w) : Calls Tryd.prog 12 #[.slice A l.length c] w (Ret (.tuple #[strV (printP l).1, .int .i64 (printP l).2]) w) := by
  have hl := hr.len
  have HC := Lib.hid (check20 l A c w hr)
  have HR := Lib.hid hr
  have HEN := Lib.hid hE
  unfold strV
  clear hr hE
  by_cases hok : okL l
  · rw [show chkE l = 0 from if_pos hok] at HC
    have HP : Hid (printP l = (printL l, 0)) := if_pos hok
    have HOK := Lib.hid hok
    have hl2 : l.length ≤ 4096 := hok.1
    clear hok
    go_enter Tryd.func12, Tryd.ntmps12
    go_wp2_with (go_at_call 20; refine HC.out.mono ?_)
    rintro e w1 ⟨rfl, hb1⟩
    have HB1 := Lib.hid hb1
    have HBA : Hid (Below w.heap.size w (w1.alloc (.cells #[.pointer none, .slice none 0 0] 51))) := balloc hb1 _
    have HIB : Hid (Lib.IsBuilder 51 5 w.heap.size w1.heap.size (Lib.byteCells (printL (l.take 0))) (w1.alloc (.cells #[.pointer none, .slice none 0 0] 51))) :=
      .inl ⟨hb1.size, .slice none 0 0, heap_alloc_new w1 _, World.ownsRow_nil _ _ _ 1, by simp [Value.ownBlock]⟩
    clear hb1 HC
    go_upto_block 0 with fail
    generalize hW : w1.alloc (.cells #[.pointer none, .slice none 0 0] 51) = wa at *
    generalize w1.heap.size = bb at *
    clear hW HB1
    go_cut [5] (fun x wr => x = .pointer (some ⟨bb, 0, none⟩) ∧ Hid (Lib.IsBuilder 51 5 w.heap.size bb (Lib.byteCells (printL l)) wr) ∧ Hid (Below w.heap.size w wr))
    case first =>
      go_wp2
      go_loopw [15] (fun i wr => ∃ (k : Nat), i = .int .i64 k ∧ k ≤ l.length ∧ Hid (Lib.IsBuilder 51 5 w.heap.size bb (Lib.byteCells (printL (l.take k))) wr) ∧ Hid (Below w.heap.size w wr)) (fun i _ => l.length - (intOf i).toNat)
      case atStart => exact ⟨0, rfl, Nat.zero_le _, HIB.out, HBA.out⟩
      case round =>
        obtain ⟨k, rfl, hk, HI, HB⟩ := hrel
        have hol := printL_len HOK.out k hk
        by_cases hlt : k < l.length
        · have hs : l[k]? = some l[k] := List.getElem?_eq_getElem hlt
          generalize l[k] = s at hs
          obtain ⟨b, o, rfl, hB, c0, c1, c2, c3, c4⟩ := (HR.out.below HB.out).at_ hs
          have hsk := HOK.out.2 s (List.mem_of_getElem? hs)
          have HN := Lib.hid (printL_succ hs)
          have hll := lineL_len2 hsk
          have HBB : Hid (Below wr.heap.size wr (wr.alloc (.cells #[.bool s.thr, .int .i64 s.who, .int .u8 s.kind, .int .i64 s.tw, .int .i64 s.times] 41))) := balloc (Below.refl _ _) _
          have HLX := Lib.hid (line26 s hsk (wr.alloc (.cells #[.bool s.thr, .int .i64 s.who, .int .u8 s.kind, .int .i64 s.tw, .int .i64 s.times] 41)) (HEN.out.below (bthen HB.out HBB.out)))
          unfold Ev.v strV at HLX
          generalize lineL s = hL at *
          generalize printL (l.take k) = out at *
          clear hs hsk HIB
          go_wp2_with (go_at_call 26; refine HLX.out.mono ?_)
          rintro e w3 ⟨rfl, hb3⟩
          have HB3 := Lib.hid (bthen HB.out (bthen HBB.out hb3))
          have HI3 := Lib.hid (isb_below HI.out (bthen HBB.out hb3))
          have HWX : Hid (Calls Tryd.prog 25 #[.pointer (some ⟨bb, 0, none⟩), .string ((⟨hL.toArray⟩ : ByteArray) ++ ⟨#[10]⟩)] w3 (fun e w' => e = .returned (.tuple #[.int .i64 (((⟨hL.toArray⟩ : ByteArray) ++ ⟨#[10]⟩).size), .nilIface]) ∧ Lib.IsBuilder 51 5 w.heap.size bb (Lib.byteCells (out ++ (hL ++ [10]))) w' ∧ Below w.heap.size w3 w')) := by
            refine (write25 w.heap.size bb (Lib.byteCells out) _ w3 HI3.out (by rw [Lib.byteCells_length]; simp [ByteArray.size]; omega) HB3.out.size).mono ?_
            rintro e w' ⟨h1, h2, h3⟩
            refine ⟨h1, .inr ?_, h3⟩
            have e1 : Lib.strCells ((⟨hL.toArray⟩ : ByteArray) ++ ⟨#[10]⟩) = Lib.byteCells (hL ++ [10]) := by rw [Lib.strCells_eq]; simp
            rw [e1, ← Lib.byteCells_append] at h2
            exact h2
          clear hb3 HLX
          go_wp2_with (go_at_call 25; refine HWX.out.mono ?_)
          rintro e w5 ⟨rfl, hi5, hb5⟩
          have HI5 := Lib.hid hi5
          have HB5 : Hid (Below w.heap.size w w5) := HB3.out.trans hb5
          clear hi5 hb5 HWX
          go_wp2
          go_roundw
          case rel => exact ⟨k + 1, by go_num, by omega, by rw [HN.out]; exact HI5.out, HB5.out⟩
          case measure => simp [intOf]; omega
        · obtain rfl : k = l.length := by omega
          rw [List.take_length] at HI
          go_wp2
          go_meet
          exact ⟨rfl, HI.out, HB.out⟩
    case rest =>
      obtain ⟨rfl, HI, HB⟩ := hcut
      have HSX := Lib.hid (Tryd.Builder_String_any w.heap.size bb (printL l) wc HI.out HB.out.size)
      generalize printL l = out at *
      go_wp2_with (go_at_call 27; refine HSX.out.mono ?_)
      rintro e w5 ⟨rfl, hb5⟩
      have HB5 : Hid (Below w.heap.size w w5) := HB.out.trans hb5
      clear hb5
      go_wp2
      refine bodyPost_ret (v := .tuple #[.string ⟨out.toArray⟩, .int .i64 0]) (by simp [results, Tryd.results12, go_sem]) rfl ?_
      rw [HP.out]
      exact ⟨rfl, HB5.out⟩
  · rw [show chkE l = 2 from if_neg hok] at HC
    have HP : Hid (printP l = ([], 2)) := if_neg hok
    clear hok
    go_enter Tryd.func12, Tryd.ntmps12
    go_wp2_with (go_at_call 20; refine HC.out.mono ?_)
    rintro e w1 ⟨rfl, hb1⟩
    have HB1 := Lib.hid hb1
    clear hb1
    go_wp2
    refine bodyPost_ret (v := .tuple #[.string ⟨#[]⟩, .int .i64 2]) (by simp [results, Tryd.results12, go_sem]) rfl ?_
    rw [HP.out]
    exact ⟨rfl, HB1.out⟩
end Go.Proofs.YtfgeomdfgjefdaaDoor
