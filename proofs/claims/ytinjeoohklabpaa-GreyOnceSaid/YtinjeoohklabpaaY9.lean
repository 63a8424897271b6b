/- The walk of the reference's Check. -/
import Derived.Test.YtinjeoohklabpaaY8
namespace Go.Proofs.Ytinjeoohklabpaa
open Go.RowKit
set_option linter.unusedVariables false
set_option linter.unusedSimpArgs false

theorem hasN_count (l : List (List Int)) (a : Int) : hasN l a = l.flatten.count a := by simp [hasN, List.count_flatten]
theorem okQ_iff {l : List (List Int)} : okQ l ↔ fitQ l ∧ ∀ x ∈ l.flatten, x ≠ 0 ∧ hasN l x ≤ 1 := by
  unfold okQ
  refine ⟨fun ⟨h1, h2, h3⟩ => ⟨h1, fun x hx => ⟨fun e => h3 (e ▸ hx), by rw [hasN_count]; exact List.nodup_iff_count.1 h2 x⟩⟩, fun ⟨h1, h2⟩ => ⟨h1, ?_, fun h0 => (h2 0 h0).1 rfl⟩⟩
  rw [List.nodup_iff_count]
  intro x
  by_cases hx : x ∈ l.flatten
  · rw [← hasN_count]; exact (h2 x hx).2
  · rw [List.count_eq_zero_of_not_mem hx]; omega
theorem chk_bad {l : List (List Int)} {k : Nat} {s : List Int} {x : Int} (hs : l[k]? = some s) (hx : x ∈ s) (h : x = 0 ∨ 1 < hasN l x) : chkE l = 2 := by
  unfold chkE
  refine if_neg (fun h' => ?_)
  have := (okQ_iff.1 h').2 x (List.mem_flatten.2 ⟨s, List.mem_of_getElem? hs, hx⟩)
  rcases h with h | h
  · exact this.1 h
  · omega
theorem chk_good {l : List (List Int)} (hf : fitQ l) (h : ∀ (i : Nat) s, i < l.length → l[i]? = some s → ∀ x ∈ s, x ≠ 0 ∧ hasN l x ≤ 1) : chkE l = 0 := by
  unfold chkE
  refine if_pos (okQ_iff.2 ⟨hf, fun x hx => ?_⟩)
  obtain ⟨s, hs, hxs⟩ := List.mem_flatten.1 hx
  obtain ⟨i, hi, e⟩ := List.mem_iff_getElem.1 hs
  exact h i s hi (by rw [List.getElem?_eq_getElem hi, e]) x hxs

set_option maxRecDepth 100000 in
set_option maxHeartbeats 8000000 in
theorem checkR (A : Option Addr) (c : Nat) (vs : List QV) (l : List (List Int)) (w : World) (ha : RdQ w A vs l) :
    Calls Try.prog 21 #[.agg #[.slice A l.length c]] w (Ret (.int .i64 (chkE l)) w) := by
  have hl := ha.len
  have HB0 := Lib.hid (balloc (Below.refl w.heap.size w) (.cells #[.slice A l.length c] 24))
  have HV0 : Hid (VarG (w.alloc (.cells #[.slice A l.length c] 24)) w.heap.size A l.length c) := by show _ = _; go_simp
  by_cases h1 : l.length < 1
  · have E := Lib.hid (chk_unfit (l := l) (fun h => by have := h.1; omega))
    have h2 : (l.length : Int) < 1 := by omega
    go_enter Try.func21, Try.ntmps21
    go_wp2
    go_ret
    exact ⟨by rw [E.out]; rfl, HB0.out⟩
  by_cases h4 : 4 < l.length
  · have E := Lib.hid (chk_unfit (l := l) (fun h => by have := h.2.1; omega))
    have h2 : ¬ (l.length : Int) < 1 := by omega
    have h3 : (4 : Int) < (l.length : Int) := by omega
    go_enter Try.func21, Try.ntmps21
    go_wp2
    go_ret
    exact ⟨by rw [E.out]; rfl, HB0.out⟩
  have g1 : ¬ (l.length : Int) < 1 := by omega
  have g2 : ¬ (4 : Int) < (l.length : Int) := by omega
  have HN : Hid (1 ≤ l.length ∧ l.length ≤ 4) := ⟨by omega, by omega⟩
  have HA := Lib.hid ha
  have CH : Hid (manyN l ≤ 16384 → ∀ (x : Int) W, Below w.heap.size w W → Calls Try.prog 22 #[.agg #[.slice A l.length c], .int .u64 x] W (Ret (.int .i64 (hasN l x : Nat)) W)) := fun hm x W hW => hasQ A c vs l x W (ha.below hW) (by omega)
  clear ha h1 h4
  go_enter Try.func21, Try.ntmps21
  go_wp2
  go_loopw [3, 23] (fun n i wr => ∃ k z : Nat, n = .int .i64 z ∧ k ≤ l.length ∧ i = .int .i64 k ∧ z ≤ 16384 ∧ Hid (z = manyN (l.take k)) ∧ Hid (VarG wr w.heap.size A l.length c) ∧ Hid (Below w.heap.size w wr)) (fun n i _ => l.length - (intOf i).toNat)
  case atStart => exact ⟨0, 0, rfl, Nat.zero_le _, rfl, Nat.zero_le _, Eq.refl (manyN (l.take 0)), HV0.out, HB0.out⟩
  case round =>
    obtain ⟨k, z, rfl, hk, rfl, hz, HZ, HV, HBr⟩ := hrel
    by_cases hlt : k < l.length
    · have hs : l[k]? = some l[k] := List.getElem?_eq_getElem hlt
      generalize l[k] = s at hs
      obtain ⟨v, bv, ov, hvi, hA, hbv, c0, hR⟩ := HA.out.at_ hs
      subst hA
      obtain ⟨v1, v2, v3⟩ := v
      simp only at c0
      have HZ2 : Hid (z + s.length = manyN (l.take (k + 1))) := by show _ = _; rw [manyN_succ hs, HZ.out]
      have HZ3 : Hid (manyN (l.take (k + 1)) ≤ manyN l) := manyN_take l (k + 1)
      have hc := cell_later HBr.out c0
      have hsl := hR.len
      clear hR hvi hs c0
      by_cases hbig : 16384 < s.length
      · have E := Lib.hid (chk_unfit (l := l) (fun h => by have h1 := HZ2.out; have h2 := HZ3.out; have := h.2.2; omega))
        have hb1 : (16384 : Int) < (s.length : Int) := by omega
        go_wp2
        go_ret
        exact ⟨by rw [E.out]; rfl, HBr.out⟩
      have hb1 : ¬ (16384 : Int) < (s.length : Int) := by omega
      obtain ⟨r, hr⟩ : ∃ r : Nat, r = 16384 - s.length := ⟨_, rfl⟩
      have hr1 : (16384 : Int) - (s.length : Int) = (r : Int) := by omega
      have HR := Lib.hid hr
      have hr2 : r ≤ 16384 := by omega
      clear hr
      by_cases hover : r < z
      · have E := Lib.hid (chk_unfit (l := l) (fun h => by have h1 := HZ2.out; have h2 := HZ3.out; have := h.2.2; have := HR.out; omega))
        go_wp2
        go_ret
        exact ⟨by rw [E.out]; rfl, HBr.out⟩
      · have hz2 : z + s.length ≤ 16384 := by have := HR.out; omega
        go_wp2
        go_roundw
        case rel => exact ⟨k + 1, z + s.length, by go_num, by omega, by go_num, hz2, HZ2.out, HV.out, HBr.out⟩
        case measure => simp [intOf]; omega
    · obtain rfl : k = l.length := by omega
      have HM : Hid (manyN l ≤ 16384) := by have := HZ.out; rw [List.take_length] at this; show _ ≤ _; omega
      have CH2 := Lib.hid (CH.out HM.out)
      have k1 := HV.out
      unfold VarG at k1
      clear HZ CH
      go_wp2
      clear k1
      go_loopw [45] (fun i wr2 => ∃ k : Nat, k ≤ l.length ∧ i = .int .i64 k ∧ Hid (∀ (i : Nat) s, i < k → l[i]? = some s → ∀ x ∈ s, x ≠ 0 ∧ hasN l x ≤ 1) ∧ Hid (VarG wr2 w.heap.size A l.length c) ∧ Hid (Below w.heap.size w wr2)) (fun i _ => l.length - (intOf i).toNat)
      case atStart => exact ⟨0, Nat.zero_le _, rfl, (fun i s h => by omega), HV.out, HBr.out⟩
      case round =>
        clear HV HBr
        obtain ⟨k, hk, rfl, HG, HV, HBr⟩ := hrel
        by_cases hlt : k < l.length
        · have hs : l[k]? = some l[k] := List.getElem?_eq_getElem hlt
          generalize l[k] = s at hs
          obtain ⟨v, bv, ov, hvi, hA, hbv, c0, hR⟩ := HA.out.at_ hs
          subst hA
          have hsl := hR.len
          have HR := Lib.hid hR
          obtain ⟨v1, v2, v3⟩ := v
          simp only at c0 HR
          have HS := Lib.hid hs
          have hc := cell_later HBr.out c0
          clear hR hvi hs c0
          go_wp2
          go_loopw [51] (fun j wr3 => ∃ q : Nat, q ≤ s.length ∧ j = .int .i64 q ∧ Hid (∀ x ∈ s.take q, x ≠ 0 ∧ hasN l x ≤ 1) ∧ Hid (VarG wr3 w.heap.size (some ⟨bv, ov, none⟩) l.length c) ∧ Hid (Below w.heap.size w wr3)) (fun j _ => s.length - (intOf j).toNat)
          case atStart => exact ⟨0, Nat.zero_le _, rfl, (fun x h => by simp at h), HV.out, HBr.out⟩
          case round =>
            clear HV HBr hc
            obtain ⟨q, hq, rfl, HQ, HV, HBr⟩ := hrel
            by_cases hqt : q < s.length
            · have hx : s[q]? = some s[q] := List.getElem?_eq_getElem hqt
              generalize s[q] = x at hx
              obtain ⟨b2, o2, e2, _, d0⟩ := HR.out.at_ hx
              subst e2
              have d0 := cell_later HBr.out d0
              have HX := Lib.hid hx
              have k1 := HV.out
              unfold VarG at k1
              clear hx
              by_cases hx0 : x = 0
              · have E : Hid (chkE l = 2) := chk_bad HS.out (List.mem_of_getElem? HX.out) (.inl hx0)
                subst hx0
                go_wp2
                go_ret
                exact ⟨by rw [E.out]; rfl, HBr.out⟩
              · have e0 : (x == 0) = false := by simp [hx0]
                have HX0 := Lib.hid hx0
                clear hx0
                have hhb : hasN l x ≤ 16384 := by have h1 := hasN_le l x; have := HM.out; omega
                have CX := Lib.hid (CH2.out x)
                go_wp2_with (go_at_call 22; refine (CX.out _ HBr.out).mono ?_)
                rintro e w5 ⟨rfl, hb5⟩
                have HB5 := Lib.hid (bthen HBr.out hb5)
                have HV5 := Lib.hid (HV.out.below hb5)
                have d5 := cell_later hb5 d0
                clear hb5 k1
                by_cases hbad : 1 < hasN l x
                · have E : Hid (chkE l = 2) := chk_bad HS.out (List.mem_of_getElem? HX.out) (.inr hbad)
                  go_wp2
                  go_ret
                  exact ⟨by rw [E.out]; rfl, HB5.out⟩
                · have HQ2 : Hid (∀ y ∈ s.take (q + 1), y ≠ 0 ∧ hasN l y ≤ 1) := fun y hy => by
                    rw [List.take_add_one, HX.out] at hy
                    rcases List.mem_append.1 hy with h | h
                    · exact HQ.out y h
                    · simp at h
                      subst h
                      exact ⟨HX0.out, by omega⟩
                  go_wp2
                  go_roundw
                  case rel => exact ⟨q + 1, by omega, by go_num, HQ2.out, HV5.out, HB5.out⟩
                  case measure => simp [intOf]; omega
            · obtain rfl : q = s.length := by omega
              have HG2 : Hid (∀ (i : Nat) t, i < k + 1 → l[i]? = some t → ∀ x ∈ t, x ≠ 0 ∧ hasN l x ≤ 1) := fun i t hi ht => by
                rcases Nat.lt_or_ge i k with h | h
                · exact HG.out i t h ht
                · obtain rfl : i = k := by omega
                  rw [HS.out] at ht
                  cases ht
                  have := HQ.out
                  rwa [List.take_length] at this
              go_wp2
              go_roundw
              case rel => exact ⟨k + 1, by omega, by go_num, HG2.out, HV.out, HBr.out⟩
              case measure => simp [intOf]; omega
        · obtain rfl : k = l.length := by omega
          have E : Hid (chkE l = 0) := chk_good ⟨HN.out.1, HN.out.2, HM.out⟩ HG.out
          go_wp2
          go_ret
          exact ⟨by rw [E.out]; rfl, HBr.out⟩
end Go.Proofs.Ytinjeoohklabpaa
