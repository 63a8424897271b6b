/- The walk of the reference's Print. -/
import Derived.Test.YtfgeomdfgjefdaaDoorAC
namespace Go.Proofs.YtfgeomdfgjefdaaDoor
open Go.RowKit
set_option linter.unusedVariables false
set_option linter.unusedSimpArgs false

theorem nameL_len2 (k : Int) : (nameL k).length ≤ 6 := by
  unfold nameL
  repeat' split
  all_goals simp
theorem lineL_len2 {e : Ev} (h : okEv e) : (lineL e).length ≤ 60 := by
  have h1 := h.1
  have h2 := h.2.1
  have ht := dec_len20 (n := e.times.toNat) (by omega)
  have hn := nameL_len2 e.kind
  have hh : (headL e).length ≤ 30 := by
    unfold headL
    split
    · rename_i hthr
      have h3 := h.2.2
      rw [if_pos hthr] at h3
      have := dec_len20 (n := e.who.toNat) (by omega)
      simp
      omega
    · rename_i hthr
      have h3 := h.2.2
      rw [if_neg hthr] at h3
      split
      · rename_i hk
        have h4 := h3.2
        rw [if_pos hk] at h4
        have := dec_len20 (n := e.tw.toNat) (by omega)
        simp
        omega
      · omega
  unfold lineL
  rw [List.length_append]
  split
  · simp; omega
  · simp; omega
def printL (l : List Ev) : List UInt8 := l.flatMap (fun e => lineL e ++ [10])
def printP (l : List Ev) : List UInt8 × Int := if okL l then (printL l, 0) else ([], 2)
theorem printL_succ {l : List Ev} {k : Nat} {s : Ev} (hs : l[k]? = some s) : printL (l.take (k + 1)) = printL (l.take k) ++ (lineL s ++ [10]) := by
  unfold printL
  rw [List.take_add_one, hs]
  simp
theorem printL_len {l : List Ev} (h : okL l) (k : Nat) (hk : k ≤ l.length) : (printL (l.take k)).length ≤ 61 * k := by
  induction k with
  | zero => simp [printL]
  | succ k ih =>
    have hs : l[k]? = some l[k] := List.getElem?_eq_getElem (by omega)
    rw [printL_succ hs, List.length_append, List.length_append]
    have := lineL_len2 (h.2 l[k] (List.getElem_mem _))
    have := ih (by omega)
    simp
    omega
set_option maxRecDepth 100000 in
set_option maxHeartbeats 32000000 in
theorem print13 (l : List Ev) (hk : ∀ e ∈ l, 0 ≤ e.kind) (A : Option Addr) (c : Nat) (w : World) (hr : RdS w A l) : Calls Tryd.prog 13 #[.slice A l.length c] w (Ret (.tuple #[strV (printP l).1, .int .i64 (printP l).2]) w) := by
  have hl := hr.len
  have HC := Lib.hid (check21 l hk A c w hr)
  have HR := Lib.hid hr
  unfold strV
  clear hr hk
  by_cases hok : okL l
  · rw [show chkE l = 0 from if_pos hok] at HC
    have HP : Hid (printP l = (printL l, 0)) := if_pos hok
    have HOK := Lib.hid hok
    have hl2 : l.length ≤ 4096 := hok.1
    clear hok
    go_enter Tryd.func13, Tryd.ntmps13
    go_wp2_with (go_at_call 21; refine HC.out.mono ?_)
    rintro e w1 ⟨rfl, hb1⟩
    have HB1 := Lib.hid hb1
    clear hb1 HC
    go_wp2
    go_loopw [4, 12] (fun s i wr => ∃ (k : Nat) (out : List UInt8), i = .int .i64 k ∧ k ≤ l.length ∧ s = .string ⟨out.toArray⟩ ∧ Hid (out = printL (l.take k)) ∧ Hid (Below w.heap.size w wr)) (fun _ i _ => l.length - (intOf i).toNat)
    case atStart => exact ⟨0, [], rfl, Nat.zero_le _, rfl, by show _ = _; simp [printL], HB1.out⟩
    case round =>
      obtain ⟨k, out, rfl, hk, rfl, HO, HB⟩ := hrel
      have hol : out.length ≤ 249856 := by
        have := printL_len HOK.out k hk
        rw [HO.out]
        omega
      by_cases hlt : k < l.length
      · have hs : l[k]? = some l[k] := List.getElem?_eq_getElem hlt
        generalize l[k] = s at hs
        obtain ⟨b, o, rfl, hB, c0, c1, c2, c3, c4⟩ := (HR.out.below HB.out).at_ hs
        have hsk := HOK.out.2 s (List.mem_of_getElem? hs)
        have HN := Lib.hid (printL_succ hs)
        have hll := lineL_len2 hsk
        have HBA : Hid (Below w.heap.size w (wr.alloc (.cells #[.bool s.thr, .int .i64 s.who, .int .u8 s.kind, .int .i64 s.tw, .int .i64 s.times] 41))) := balloc HB.out _
        have HLX := Lib.hid (line28 s hsk (wr.alloc (.cells #[.bool s.thr, .int .i64 s.who, .int .u8 s.kind, .int .i64 s.tw, .int .i64 s.times] 41)))
        unfold Ev.v strV at HLX
        generalize lineL s = hL at *
        clear hs hsk
        go_wp2_with (go_at_call 28; refine HLX.out.mono ?_)
        rintro e w3 ⟨rfl, hb3⟩
        have HB3 := Lib.hid (bthen HBA.out hb3)
        clear hb3 HLX
        go_wp2
        go_roundw
        case rel => exact ⟨k + 1, out ++ (hL ++ [10]), by go_num, by omega, by rw [Value.string.injEq]; apply ByteArray.ext; simp, by rw [HN.out, HO.out]; exact Eq.refl (printL (l.take k) ++ (hL ++ [10])), HB3.out⟩
        case measure => simp [intOf]; omega
      · obtain rfl : k = l.length := by omega
        rw [List.take_length] at HO
        go_wp2
        refine bodyPost_ret (v := .tuple #[.string ⟨out.toArray⟩, .int .i64 0]) (by simp [results, Tryd.results13, go_sem]) rfl ?_
        rw [HP.out, ← HO.out]
        exact ⟨rfl, HB.out⟩
  · rw [show chkE l = 2 from if_neg hok] at HC
    have HP : Hid (printP l = ([], 2)) := if_neg hok
    clear hok
    go_enter Tryd.func13, Tryd.ntmps13
    go_wp2_with (go_at_call 21; refine HC.out.mono ?_)
    rintro e w1 ⟨rfl, hb1⟩
    have HB1 := Lib.hid hb1
    clear hb1
    go_wp2
    refine bodyPost_ret (v := .tuple #[.string ⟨#[]⟩, .int .i64 2]) (by simp [results, Tryd.results13, go_sem]) rfl ?_
    rw [HP.out]
    exact ⟨rfl, HB1.out⟩
end Go.Proofs.YtfgeomdfgjefdaaDoor
