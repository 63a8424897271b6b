/- The walks of put and of Add. -/
import Derived.Test.YtiapiajldchnmaaW9
namespace Go.Proofs.Ytiapiajldchnmaa
open Go.RowKit
set_option linter.unusedVariables false
set_option linter.unusedSimpArgs false

def idxE (l : List Sp) (s : Sp) : Nat := match l.findIdx? (fun t => decide (s.a < t.a)) with | some i => i | none => l.length
theorem idxE_le (l : List Sp) (s : Sp) : idxE l s ≤ l.length := by
  unfold idxE
  split
  · rename_i i h
    obtain ⟨hi, _⟩ := List.findIdx?_eq_some_iff_getElem.1 h
    omega
  · exact Nat.le_refl _
theorem idxE_neg {l : List Sp} {s : Sp} (h : idxP l (fun t => decide (s.a < t.a)) = -1) : idxE l s = l.length := by
  unfold idxP at h
  unfold idxE
  cases hf : l.findIdx? (fun t => decide (s.a < t.a)) with
  | none => rfl
  | some i => rw [hf] at h; have h' : (i : Int) = -1 := h; omega
theorem idxE_pos {l : List Sp} {s : Sp} (h : idxP l (fun t => decide (s.a < t.a)) ≠ -1) : idxP l (fun t => decide (s.a < t.a)) = idxE l s ∧ idxE l s < l.length := by
  obtain ⟨i, h1, h2, _⟩ := idx_at h
  unfold idxP at h1
  cases hf : l.findIdx? (fun t => decide (s.a < t.a)) with
  | none => rw [hf] at h1; have h' : (-1 : Int) = (i : Int) := h1; omega
  | some j =>
    rw [hf] at h1
    have h' : (j : Int) = (i : Int) := h1
    have e : idxE l s = j := by unfold idxE; rw [hf]
    have e2 : idxP l (fun t => decide (s.a < t.a)) = j := by unfold idxP; rw [hf]
    exact ⟨by rw [e2, e], by rw [e]; omega⟩
def putL (l : List Sp) (s : Sp) : List Sp := if oneP s = false then l else if (s.k == 1 && finalP l s.a) = true then l else if l.length = 64 then l else insP l (idxE l s) s
def putE (l : List Sp) (s : Sp) : Int := if oneP s = false then 2 else if (s.k == 1 && finalP l s.a) = true then 4 else if l.length = 64 then 6 else 0
def RetP (base : Nat) (u : Value) (l : List Sp) (n : Int) (w : World) (e : Ending) (w' : World) : Prop := ∃ v, e = .returned (.tuple #[v, .int .i64 n]) ∧ OwS w' base v l ∧ w.grownBy w' u.ownBlock

set_option maxHeartbeats 4000000 in
theorem put23 (l : List Sp) (v : Value) (base : Nat) (s : Sp) (w : World) (ho : OwS w base v l) (hbase : base ≤ w.heap.size) (hlen : l.length ≤ 64) :
    Calls Try.prog 23 #[v, s.v] w (RetP base v (putL l s) (putE l s) w) := by
  have hl := ho.len
  have C33 := Lib.hid (one33 s)
  obtain ⟨A, c, rfl, hlc, hr⟩ := ho.shape
  have HO := Lib.hid ho
  have HR := Lib.hid hr
  have hown := ho.lt
  clear ho hr
  obtain ⟨a, k, t⟩ := s
  unfold Sp.v at C33 ⊢
  have hb0 : Below w.heap.size w (w.alloc (.cells #[.int .u64 a, .int .u8 k, .int .u64 t] 41)) := balloc (Below.refl _ _) _
  have F1 : Hid ((w.alloc (.cells #[.int .u64 a, .int .u8 k, .int .u64 t] 41)).cell? ⟨w.heap.size, 0, none⟩ = some (.int .u64 a)) := by show _ = _; go_simp
  have F2 : Hid ((w.alloc (.cells #[.int .u64 a, .int .u8 k, .int .u64 t] 41)).cell? ⟨w.heap.size, 1, none⟩ = some (.int .u8 k)) := by show _ = _; go_simp
  have F3 : Hid ((w.alloc (.cells #[.int .u64 a, .int .u8 k, .int .u64 t] 41)).cell? ⟨w.heap.size, 2, none⟩ = some (.int .u64 t)) := by show _ = _; go_simp
  cases h1 : oneP ⟨a, k, t⟩ with
  | false =>
    have HQ : Hid (putL l ⟨a, k, t⟩ = l ∧ putE l ⟨a, k, t⟩ = 2) := by show _ ∧ _; simp [putL, putE, h1]
    rw [h1] at C33
    clear h1
    rw [HQ.out.1, HQ.out.2]
    go_enter Try.func23, Try.ntmps23
    go_wp2_with (go_at_call 33; refine (C33.out _).mono ?_; rintro e w1 ⟨rfl, hb1⟩)
    go_ret2
    exact ⟨_, rfl, HO.out.below (bthen hb0 hb1), gbelow (bthen hb0 hb1) _⟩
  | true =>
    rw [h1] at C33
    cases h2 : (k == 1 && finalP l a) with
    | true =>
      simp only [Bool.and_eq_true] at h2
      obtain ⟨h2, h3⟩ := h2
      have HQ : Hid (putL l ⟨a, k, t⟩ = l ∧ putE l ⟨a, k, t⟩ = 4) := by show _ ∧ _; simp [putL, putE, h1, h2, h3]
      have C34 := Lib.hid (fun W h => final_any l A c a W h)
      rw [h3] at C34
      clear h1 h3
      rw [HQ.out.1, HQ.out.2]
      go_enter Try.func23, Try.ntmps23
      go_wp2_with (first
        | (go_at_call 33; refine (C33.out _).mono ?_; rintro e w1 ⟨rfl, hb1⟩; have f1 := cell_later hb1 F1.out; have f2 := cell_later hb1 F2.out; have f3 := cell_later hb1 F3.out)
        | (go_at_call 34; refine (C34.out _ (HR.out.below (bthen hb0 hb1))).mono ?_; rintro e w2 ⟨rfl, hb2⟩))
      go_ret2
      exact ⟨_, rfl, HO.out.below (bthen (bthen hb0 hb1) hb2), gbelow (bthen (bthen hb0 hb1) hb2) _⟩
    | false =>
      have hkf : (k == 1) = true ∧ finalP l a = false ∨ (k == 1) = false := by
        cases hk : k == 1 with
        | false => exact .inr rfl
        | true => rw [hk] at h2; exact .inl ⟨rfl, by simpa using h2⟩
      by_cases h64 : l.length = 64
      · have HQ : Hid (putL l ⟨a, k, t⟩ = l ∧ putE l ⟨a, k, t⟩ = 6) := by show _ ∧ _; simp only [putL, putE, h1, h2, h64]; simp
        have h64b : ((l.length : Int) == 64) = true := by rw [h64]; rfl
        clear h64 h1 h2
        rw [HQ.out.1, HQ.out.2]
        rcases hkf with ⟨hk, hf⟩ | hk
        · have C34 := Lib.hid (fun W h => final_any l A c a W h)
          rw [hf] at C34
          clear hf
          go_enter Try.func23, Try.ntmps23
          go_wp2_with (first
            | (go_at_call 33; refine (C33.out _).mono ?_; rintro e w1 ⟨rfl, hb1⟩; have f1 := cell_later hb1 F1.out; have f2 := cell_later hb1 F2.out; have f3 := cell_later hb1 F3.out)
            | (go_at_call 34; refine (C34.out _ (HR.out.below (bthen hb0 hb1))).mono ?_; rintro e w2 ⟨rfl, hb2⟩))
          go_ret2
          exact ⟨_, rfl, HO.out.below (bthen (bthen hb0 hb1) hb2), gbelow (bthen (bthen hb0 hb1) hb2) _⟩
        · go_enter Try.func23, Try.ntmps23
          go_wp2_with (go_at_call 33; refine (C33.out _).mono ?_; rintro e w1 ⟨rfl, hb1⟩; have f1 := cell_later hb1 F1.out; have f2 := cell_later hb1 F2.out; have f3 := cell_later hb1 F3.out)
          go_ret2
          exact ⟨_, rfl, HO.out.below (bthen hb0 hb1), gbelow (bthen hb0 hb1) _⟩
      · have HQ : Hid (putL l ⟨a, k, t⟩ = insP l (idxE l ⟨a, k, t⟩) ⟨a, k, t⟩ ∧ putE l ⟨a, k, t⟩ = 0) := by show _ ∧ _; simp only [putL, putE, h1, h2, h64]; simp
        have h64b : ((l.length : Int) == 64) = false := by rw [beq_eq_false_iff_ne]; omega
        clear h64 h1 h2
        rw [HQ.out.1, HQ.out.2]
        have hidx : Hid (idxP l (fun q => decide (a < q.a)) = -1 ∧ idxE l ⟨a, k, t⟩ = l.length ∨ idxP l (fun q => decide (a < q.a)) = (idxE l ⟨a, k, t⟩ : Nat) ∧ idxE l ⟨a, k, t⟩ < l.length) := by
          by_cases h : idxP l (fun q => decide (a < q.a)) = -1
          · exact .inl ⟨h, idxE_neg (s := ⟨a, k, t⟩) h⟩
          · exact .inr (idxE_pos (s := ⟨a, k, t⟩) h)
        generalize idxE l ⟨a, k, t⟩ = ie at hidx ⊢
        have C36 : Hid (∀ W, Below w.heap.size w W → W.cell? ⟨w.heap.size, 0, none⟩ = some (.int .u64 a) → Calls Try.prog 36 #[.slice A l.length c, .func (.func 37) #[] #[.pointer (some ⟨w.heap.size, 0, none⟩)]] W (Ret (.int .i64 (idxP l (fun q => decide (a < q.a)))) W)) :=
          fun W hW hc => index_any l A c 37 #[.pointer (some ⟨w.heap.size, 0, none⟩)] (fun q => decide (a < q.a)) W (HR.out.below hW) Try.call37 (fun s' _ w' hb' => clo37 s' a k t w.heap.size w' (cell_later hb' hc))
        generalize idxP l (fun q => decide (a < q.a)) = ix at hidx C36
        have C38 : Hid (∀ W, Below w.heap.size w W → ie ≤ l.length → Calls Try.prog 38 #[.slice A l.length c, .int .i64 ie, .slice (some ⟨W.heap.size, 0, none⟩) 1 1] (W.alloc (.cells #[.int .u64 a, .int .u8 k, .int .u64 t] 41)) (RetG base (.slice A l.length c) (insP l ie ⟨a, k, t⟩) (W.alloc (.cells #[.int .u64 a, .int .u8 k, .int .u64 t] 41)))) := by
          intro W hW hie
          have hsz := hW.size
          have ho1 : OwS (W.alloc (.cells #[.int .u64 a, .int .u8 k, .int .u64 t] 41)) base (.slice A l.length c) l := World.ownsRow.alloc (HO.out.below hW) _
          have hx : (W.alloc (.cells #[.int .u64 a, .int .u8 k, .int .u64 t] 41)).heap[W.heap.size]? = some (.cells (Sp.cs ⟨a, k, t⟩).toArray 41 (0, 0)) := heap_alloc_new W _
          by_cases hlt : ie < l.length
          · exact insert38_mid l _ base ie ⟨a, k, t⟩ W.heap.size _ ho1 (by simp; omega) hlt (by omega) hx (fun k' hk' => by have := (hown k' hk').2; omega)
          · obtain rfl : ie = l.length := by omega
            refine insert38_end l _ base ⟨a, k, t⟩ W.heap.size _ ho1 (by simp; omega) (by omega) ⟨rfl, by simp, fun _ => ⟨W.heap.size, 0, rfl, by simp, fun j u hu => ?_⟩⟩
            rw [cell_of_row _ _ _ _ 41 (0, 0) hx, Nat.zero_add]
            simpa [fl] using hu
        clear hown
        rcases hkf with ⟨hk, hf⟩ | hk
        · have C34 := Lib.hid (fun W h => final_any l A c a W h)
          rw [hf] at C34
          clear hf
          rcases hidx.out with ⟨rfl, rfl⟩ | ⟨rfl, hie⟩
          all_goals
            go_enter Try.func23, Try.ntmps23
            go_wp2_with (first
              | (go_at_call 33; refine (C33.out _).mono ?_; rintro e w1 ⟨rfl, hb1⟩; have f1 := cell_later hb1 F1.out; have f2 := cell_later hb1 F2.out; have f3 := cell_later hb1 F3.out)
              | (go_at_call 34; refine (C34.out _ (HR.out.below (bthen hb0 hb1))).mono ?_; rintro e w2 ⟨rfl, hb2⟩)
              | (go_at_call 36; refine (C36.out _ (bthen (bthen hb0 hb1) hb2) (cell_later hb2 f1)).mono ?_; rintro e w3 ⟨rfl, hb3⟩; have g1 := cell_later hb3 (cell_later hb2 f1); have g2 := cell_later hb3 (cell_later hb2 f2); have g3 := cell_later hb3 (cell_later hb2 f3))
              | (go_at_call 38; refine (C38.out w3 (bthen (bthen (bthen hb0 hb1) hb2) hb3) (by omega)).mono ?_; rintro e w4 ⟨v4, rfl, ho4, hg4⟩; have HO4 := Lib.hid ho4; have HG4 := Lib.hid hg4; clear ho4 hg4))
            go_ret2
            exact ⟨_, rfl, HO4.out, gtrans (gbelow (balloc (bthen (bthen (bthen hb0 hb1) hb2) hb3) _) _) HG4.out⟩
        · rcases hidx.out with ⟨rfl, rfl⟩ | ⟨rfl, hie⟩
          all_goals
            go_enter Try.func23, Try.ntmps23
            go_wp2_with (first
              | (go_at_call 33; refine (C33.out _).mono ?_; rintro e w1 ⟨rfl, hb1⟩; have f1 := cell_later hb1 F1.out; have f2 := cell_later hb1 F2.out; have f3 := cell_later hb1 F3.out)
              | (go_at_call 36; refine (C36.out _ (bthen hb0 hb1) f1).mono ?_; rintro e w3 ⟨rfl, hb3⟩; have g1 := cell_later hb3 f1; have g2 := cell_later hb3 f2; have g3 := cell_later hb3 f3)
              | (go_at_call 38; refine (C38.out w3 (bthen (bthen hb0 hb1) hb3) (by omega)).mono ?_; rintro e w4 ⟨v4, rfl, ho4, hg4⟩; have HO4 := Lib.hid ho4; have HG4 := Lib.hid hg4; clear ho4 hg4))
            go_ret2
            exact ⟨_, rfl, HO4.out, gtrans (gbelow (balloc (bthen (bthen hb0 hb1) hb3) _) _) HG4.out⟩
end Go.Proofs.Ytiapiajldchnmaa
