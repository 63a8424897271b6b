/- The walk of bits.Both. -/
import Derived.Test.YtchbbldanmmpjaaDoorSA
namespace Go.Proofs.YtchbbldanmmpjaaDoor
open Go.RowKit
set_option linter.unusedVariables false
set_option linter.unusedSimpArgs false

def andL (a b : List Int) : List Int := List.zipWith (fun x y => Go.bits .and .u64 x y) a b
def bothOk (a b : BitB) : Prop := okB a = true ∧ okB b = true ∧ a.n = b.n
instance (a b : BitB) : Decidable (bothOk a b) := by unfold bothOk; infer_instance
def bothB (a b : BitB) : BitB := if bothOk a b then ⟨a.n, andL a.w b.w⟩ else ⟨0, []⟩
def bothE (a b : BitB) : Int := if bothOk a b then 0 else 2
theorem okE_0 {b : BitB} (h : okB b = true) : okE b = 0 := by simp [okE, h]
theorem okE_2 {b : BitB} (h : okB b = false) : okE b = 2 := by simp [okE, h]
theorem okB_parts {b : BitB} (h : okB b = true) : 0 ≤ b.n ∧ b.n ≤ 4096 ∧ (b.w.length : Int) = (b.n + 63) / 64 := by
  unfold okB at h
  simp only [Bool.and_eq_true, decide_eq_true_eq] at h
  exact ⟨h.1, h.2.1, h.2.2.1⟩
/-- A store into a row of words of the call's own. -/
theorem wpl_stU {ops : Array Oper} {rest : List Oper} {o : Oper} {a : Act} {w : World} {Q : Exit → Act → World → Prop} (hgd : o.guard = none) (p x : Operand) (ho : o.op = .store 33 p x)
    (base g n cap : Nat) (l : List Int) (h : OwU w base (.slice (some ⟨g, 0, none⟩) n cap) l) (hn : l.length = n) (k : Nat) (y : Int) (hp : a.eval p = .pointer (some ⟨g, k, none⟩)) (hx : a.eval x = .int .u64 y) (hk : k < n)
    (hK : ∀ w', OwU w' base (.slice (some ⟨g, 0, none⟩) n cap) (l.set k y) → w.grownBy w' (some g) → wpList Tryd.prog ops Q rest (a.put o.dst undef) w') :
    wpList Tryd.prog ops Q (o :: rest) a w := by
  subst hn
  obtain ⟨i0, hi, hz0, hz1, hz2⟩ := info_parts info33
  refine wpl_store_own (P := Tryd.prog) hgd 33 p x ho base 33 1 i0 hi hz1 g l.length cap (us l) h k hp (.int .u64 y) hx rfl (by omega) (by simp [Value.cells, Value.oneCell']) ?_
  intro w' h1 h2
  refine hK w' ?_ h2
  unfold OwU
  rw [List.length_set]
  have e : us (l.set k y) = (us l).take k ++ (Value.cells (.int .u64 y)).toList ++ (us l).drop (k + 1) := by
    show us (l.set k y) = (us l).take k ++ [Value.int .u64 y] ++ (us l).drop (k + 1)
    unfold us
    rw [List.map_set, List.set_eq_take_append_cons_drop]
    rw [if_pos (by simpa using hk)]
    simp
  rw [e]
  exact h1
theorem and_step {a b : List Int} {k : Nat} {x y : Int} (hx : a[k]? = some x) (hy : b[k]? = some y) :
    (andL (a.take k) (b.take k) ++ a.drop k).set k (Go.bits .and .u64 x y) = andL (a.take (k + 1)) (b.take (k + 1)) ++ a.drop (k + 1) := by
  obtain ⟨h1, h2⟩ := List.getElem?_eq_some_iff.1 hx
  obtain ⟨h3, h4⟩ := List.getElem?_eq_some_iff.1 hy
  have hl : (andL (a.take k) (b.take k)).length = k := by simp [andL]; omega
  rw [List.set_append_right _ _ (by omega), hl, Nat.sub_self, List.drop_eq_getElem_cons h1, List.set_cons_zero]
  rw [List.take_succ_eq_append_getElem h1, List.take_succ_eq_append_getElem h3, h2, h4]
  unfold andL
  rw [List.zipWith_append (by simp; omega)]
  simp
theorem and_at {a b : List Int} {k : Nat} (hk : k ≤ a.length) (hkb : k ≤ b.length) {x : Int} (hx : a[k]? = some x) : (andL (a.take k) (b.take k) ++ a.drop k)[k]? = some x := by
  have hl : (andL (a.take k) (b.take k)).length = k := by simp [andL]; omega
  rw [List.getElem?_append_right (by omega), hl, Nat.sub_self, List.getElem?_drop, Nat.add_zero]
  exact hx
theorem and_len {a b : List Int} {k : Nat} (hk : k ≤ a.length) (hkb : k ≤ b.length) : (andL (a.take k) (b.take k) ++ a.drop k).length = a.length := by
  simp [andL]; omega

theorem own_form {w : World} {base n m c : Nat} {e : TypeId} {size : Nat} {A : Option Addr} {xs : List Value} (h : w.ownsRow base e size (.slice A m c) n xs) (h0 : 0 < n) : ∃ g, A = some ⟨g, 0, none⟩ := by
  rcases h.2 with ⟨_, h1⟩ | ⟨g, cap, cur, e1, _⟩
  · omega
  · simp only [Value.slice.injEq] at e1
    exact ⟨g, e1.1⟩
theorem OwU.rd {w : World} {base n c : Nat} {A : Option Addr} {l : List Int} (h : OwU w base (.slice A n c) l) (hn : l.length = n) : RdU w A l := by
  subst hn
  exact own_rd h
theorem gfrozen {w w1 : World} {r : Option Nat} (h : w.grownBy w1 r) {a : Addr} (ha : a.block < w.heap.size) (hr : some a.block ≠ r) : w1.frozen? a = w.frozen? a := by
  simp only [World.frozen?, h.block _ ha hr]
theorem bcellB {W w1 : World} {B : Nat} (hb : Below W.heap.size W w1) (hB : B ≤ W.heap.size) : (∀ b o, b < B → w1.cell? ⟨b, o, none⟩ = W.cell? ⟨b, o, none⟩) ∧ (∀ b o, b < B → w1.frozen? ⟨b, o, none⟩ = W.frozen? ⟨b, o, none⟩) ∧ B ≤ w1.heap.size :=
  ⟨fun b o h => hb.cell (p := ⟨b, o, none⟩) (show b < _ by omega), fun b o h => hb.frozen (p := ⟨b, o, none⟩) (show b < _ by omega), by have := hb.size; omega⟩
set_option maxRecDepth 100000 in
set_option maxHeartbeats 8000000 in
theorem both65 (v u : BitV) (a b : BitB) (w : World) (ha : RdB w v a) (hb : RdB w u b) :
    Calls Tryd.prog 65 #[v.v, u.v] w (RetBE (bothB a b) (bothE a b) w) := by
  have CA : Hid (∀ W, Below w.heap.size w W → Calls Tryd.prog 62 #[v.v] W (Ret (.int .i64 (okE a)) W)) := fun W hW => check62 v a W (ha.below hW)
  have CB : Hid (∀ W, Below w.heap.size w W → Calls Tryd.prog 62 #[u.v] W (Ret (.int .i64 (okE b)) W)) := fun W hW => check62 u b W (hb.below hW)
  have CO : Hid (okB a = true → ∀ W, Below w.heap.size w W → Calls Tryd.prog 37 #[v.v] W (RetB a W)) := fun hk W hW => own37 v a W (ha.below hW) (by have := okB_parts hk; omega)
  have hra := ha.row
  have hrb := hb.row
  have hla := hra.len
  have hlb := hrb.len
  obtain ⟨n, A, m, ca⟩ := v
  obtain ⟨n', B, m', cb⟩ := u
  obtain ⟨rfl, rfl, hca, _, _, _, _⟩ := ha
  obtain ⟨rfl, rfl, hcb, _, _, _, _⟩ := hb
  have HRA := Lib.hid hra
  have HRB := Lib.hid hrb
  clear hra hrb hca hcb
  simp only at HRA HRB
  unfold BitV.v at CA CB CO ⊢
  simp only at CA CB CO ⊢
  have HW0 : Hid (Below w.heap.size w (((w.alloc (.cells #[.int .i64 a.n, .slice A a.w.length ca] 24)).alloc (.cells #[.int .i64 b.n, .slice B b.w.length cb] 24)).alloc (.cells #[.int .i64 0, .slice none 0 0] 24))) := balloc (balloc (balloc (Below.refl _ _) _) _) _
  by_cases hA : okB a = true
  · have EA := Lib.hid (okE_0 hA)
    by_cases hB : okB b = true
    · have EB := Lib.hid (okE_0 hB)
      by_cases hn : a.n = b.n
      · have E1 : Hid (bothB a b = ⟨a.n, andL a.w b.w⟩) := by show _ = _; unfold bothB; rw [if_pos ⟨hA, hB, hn⟩]
        have E2 : Hid (bothE a b = 0) := by show _ = _; unfold bothE; rw [if_pos ⟨hA, hB, hn⟩]
        have HL : Hid (b.w.length = a.w.length) := by show _ = _; have h1 := okB_parts hA; have h2 := okB_parts hB; omega
        have e1 : (a.n != b.n) = false := by simp [hn]
        have CO := Lib.hid (CO.out hA)
        clear hA hB hn
        rw [EA.out] at CA
        rw [EB.out] at CB
        go_enter Tryd.func65, Tryd.ntmps65
        go_wp2_with fail
        refine (CA.out _ HW0.out).mono ?_
        rintro e w1 ⟨rfl, hb1⟩
        have HB1 := Lib.hid (bthen HW0.out hb1)
        obtain ⟨hc1, hf1, hs1⟩ := bcellB (B := w.heap.size + 3) hb1 (by simp)
        clear hb1 CA
        go_wp2_with fail
        refine (CB.out _ HB1.out).mono ?_
        rintro e w2 ⟨rfl, hb2⟩
        have HB2 := Lib.hid (bthen HB1.out hb2)
        obtain ⟨hc2, hf2, hs2⟩ := bcellB hb2 hs1
        clear hb2 CB
        go_wp2_with fail
        refine (CO.out _ HB2.out).mono ?_
        rintro e w3 ⟨⟨n3, A3, m3, c3⟩, rfl, rfl, rfl, hcap, ho, hb3⟩
        simp only at hcap ho
        have HB3 := Lib.hid (bthen HB2.out hb3)
        have HO := Lib.hid (ho.mono hs2)
        obtain ⟨hc3, hf3, hs3⟩ := bcellB hb3 hs2
        have z0 : w.heap.size < w3.heap.size := by omega
        have z1 : w.heap.size + 1 < w3.heap.size := by omega
        have z2 : w.heap.size + 2 < w3.heap.size := by omega
        clear hb3 CO ho
        unfold BitV.v
        simp only
        go_wp2
        have F0 : Hid ((w3.alloc (.cells #[.int .i64 a.n, .slice A3 a.w.length c3] 24)).cell? ⟨w3.heap.size, 0, none⟩ = some (.int .i64 a.n)) := by show _ = _; go_simp
        have F1 : Hid ((w3.alloc (.cells #[.int .i64 a.n, .slice A3 a.w.length c3] 24)).cell? ⟨w3.heap.size, 1, none⟩ = some (.slice A3 a.w.length c3)) := by show _ = _; go_simp
        have F2 : Hid ((w3.alloc (.cells #[.int .i64 a.n, .slice A3 a.w.length c3] 24)).cell? ⟨w.heap.size + 2, 0, none⟩ = some (.int .i64 0)) := by show _ = _; go_simp
        have F3 : Hid ((w3.alloc (.cells #[.int .i64 a.n, .slice A3 a.w.length c3] 24)).cell? ⟨w.heap.size + 2, 1, none⟩ = some (.slice none 0 0)) := by show _ = _; go_simp
        have F4 : Hid ((w3.alloc (.cells #[.int .i64 a.n, .slice A3 a.w.length c3] 24)).frozen? ⟨w.heap.size + 2, 0, none⟩ = false) := by show _ = _; go_simp
        have F5 : Hid ((w3.alloc (.cells #[.int .i64 a.n, .slice A3 a.w.length c3] 24)).frozen? ⟨w.heap.size + 2, 1, none⟩ = false) := by show _ = _; go_simp
        have HB4 := Lib.hid (balloc HB3.out (.cells #[.int .i64 a.n, .slice A3 a.w.length c3] 24))
        have HO4 := Lib.hid (HO.out.below (balloc (Below.refl _ _) (.cells #[.int .i64 a.n, .slice A3 a.w.length c3] 24)))
        have HG : Hid (∀ g, (Value.slice A3 a.w.length c3).ownBlock = some g → w.heap.size + 3 ≤ g ∧ g < w3.heap.size) := fun g hg => HO.out.lt g hg
        have HS4 : Hid (w3.heap.size < (w3.alloc (.cells #[.int .i64 a.n, .slice A3 a.w.length c3] 24)).heap.size) := by show _ < _; simp
        generalize w3.alloc (.cells #[.int .i64 a.n, .slice A3 a.w.length c3] 24) = W4 at *
        have HZ : Hid (w.heap.size + 2 < w3.heap.size) := z2
        clear hc1 hc2 hc3 hf1 hf2 hf3 HB1 HB2 HB3 z0 z1 z2 hs1 hs2 hs3
        go_loopw [30] (fun i wr => ∃ k : Nat, k ≤ a.w.length ∧ i = .int .i64 k ∧ Hid (OwU wr (w.heap.size + 3) (.slice A3 a.w.length c3) (andL (a.w.take k) (b.w.take k) ++ a.w.drop k)) ∧ Hid (W4.grownBy wr (Value.slice A3 a.w.length c3).ownBlock)) (fun i _ => a.w.length - (intOf i).toNat)
        case atStart => exact ⟨0, Nat.zero_le _, rfl, HO4.out, gbelow (Below.refl _ _) _⟩
        case round =>
          obtain ⟨k, hk, rfl, HR, HGr⟩ := hrel
          have HBr := Lib.hid (bgrown HB4.out HGr.out (fun g hg => by have := (HG.out g hg).1; omega))
          by_cases hlt : k < a.w.length
          · have hx : a.w[k]? = some a.w[k] := List.getElem?_eq_getElem hlt
            have hy : b.w[k]? = some (b.w[k]'(by have := HL.out; omega)) := List.getElem?_eq_getElem (by have := HL.out; omega)
            obtain ⟨b2, o2, e2, _, c2⟩ := HRB.out.at_ hy
            cases e2
            have c2 := cell_later HBr.out c2
            have hkb : k ≤ b.w.length := by have := HL.out; omega
            have hlen := and_len (a := a.w) (b := b.w) hk hkb
            obtain ⟨g, eg⟩ := own_form HR.out (by rw [hlen]; omega)
            cases eg
            obtain ⟨hg1, hg2⟩ := HG.out g rfl
            obtain ⟨b1, o1, e1', _, c1⟩ := (HR.out.rd hlen).at_ (and_at hk hkb hx)
            cases e1'
            have f0 := gcell HGr.out F0.out (by simp [Value.ownBlock]; omega)
            have f1 := gcell HGr.out F1.out (by simp [Value.ownBlock]; omega)
            have HX := Lib.hid hx
            have HY := Lib.hid hy
            have HLN := Lib.hid hlen
            clear hx hy hlen
            have e2 : k < b.w.length := by have := HL.out; omega
            generalize a.w[k] = x at *
            generalize (b.w[k]'_) = y at *
            simp only [Nat.zero_add] at c1
            go_wp2_with (refine wpl_stU rfl (.tmp 42) (.tmp 41) rfl (w.heap.size + 3) g a.w.length c3 _ HR.out HLN.out k _ rfl rfl hlt ?_)
            intro w' ho hg
            rw [and_step HX.out HY.out] at ho
            have HO' := Lib.hid ho
            have HG' := Lib.hid (gtrans HGr.out hg)
            clear ho hg
            go_wp2
            go_roundw
            case rel => exact ⟨k + 1, by omega, by go_num, HO'.out, HG'.out⟩
            case measure => simp [intOf]; omega
          · obtain rfl : k = a.w.length := by omega
            have e3 : ¬ a.w.length < b.w.length := by have := HL.out; omega
            have hne : ∀ j, j < w3.heap.size + 1 → (∀ g, (Value.slice A3 a.w.length c3).ownBlock = some g → j ≠ g) → some j ≠ (Value.slice A3 a.w.length c3).ownBlock := fun j _ h e => h j e.symm rfl
            have r0 : some w3.heap.size ≠ (Value.slice A3 a.w.length c3).ownBlock := fun e => by have := (HG.out _ e.symm).2; omega
            have r2 : some (w.heap.size + 2) ≠ (Value.slice A3 a.w.length c3).ownBlock := fun e => by have := (HG.out _ e.symm).1; omega
            have f0 := gcell HGr.out F0.out r0
            have f1 := gcell HGr.out F1.out r0
            have f2 := gcell HGr.out F2.out r2
            have f3 := gcell HGr.out F3.out r2
            have z4 : wr.frozen? ⟨w.heap.size + 2, 0, none⟩ = false := by rw [gfrozen HGr.out (by have := HS4.out; have := HZ.out; show w.heap.size + 2 < _; omega) r2]; exact F4.out
            have z5 : wr.frozen? ⟨w.heap.size + 2, 1, none⟩ = false := by rw [gfrozen HGr.out (by have := HS4.out; have := HZ.out; show w.heap.size + 2 < _; omega) r2]; exact F5.out
            have HR' : Hid (OwU wr (w.heap.size + 3) (.slice A3 a.w.length c3) (andL a.w b.w)) := by
              show OwU _ _ _ _
              have := HR.out
              rw [List.take_length, show b.w.take a.w.length = b.w from by rw [← HL.out, List.take_length], List.drop_length, List.append_nil] at this
              exact this
            have HLN : Hid (a.w.length = (andL a.w b.w).length) := by show _ = _; simp [andL, HL.out]
            have HC := Lib.hid hcap
            clear r0 r2 hne hcap
            go_wp2
            have n3 : (⟨w.heap.size + 2, 0, none⟩ : Addr) ≠ ⟨w.heap.size + 2, 1, none⟩ := by simp
            have n4 : (⟨w.heap.size + 2, 1, none⟩ : Addr) ≠ ⟨w.heap.size + 2, 0, none⟩ := by simp
            have g1 : (wr.setCell ⟨w.heap.size + 2, 0, none⟩ (.int .i64 a.n)).cell? ⟨w.heap.size + 2, 0, none⟩ = some (.int .i64 a.n) := World.cell?_setCell_same _ _ _ f2
            have g2 : ((wr.setCell ⟨w.heap.size + 2, 0, none⟩ (.int .i64 a.n)).setCell ⟨w.heap.size + 2, 1, none⟩ (.slice A3 a.w.length c3)).cell? ⟨w.heap.size + 2, 1, none⟩ = some (.slice A3 a.w.length c3) :=
              World.cell?_setCell_same _ _ _ ((World.cell?_setCell_other (h := n3) ..).trans f3)
            have g3 : ((wr.setCell ⟨w.heap.size + 2, 0, none⟩ (.int .i64 a.n)).setCell ⟨w.heap.size + 2, 1, none⟩ (.slice A3 a.w.length c3)).cell? ⟨w.heap.size + 2, 0, none⟩ = some (.int .i64 a.n) :=
              (World.cell?_setCell_other (h := n4) ..).trans g1
            refine bodyPost_ret (v := .tuple #[.agg #[.int .i64 a.n, .slice A3 a.w.length c3], .int .i64 0]) (by simp [results, Tryd.results65, go_sem, g1, g2, g3]) rfl ?_
            rw [E1.out, E2.out]
            refine ⟨⟨a.n, A3, a.w.length, c3⟩, rfl, rfl, HLN.out, HC.out, ?_, ?_⟩
            · refine OwU.mono (base := w.heap.size + 3) ?_ (by omega)
              repeat (refine OwU.set_lo ?_ (by simp) _)
              exact HR'.out
            · repeat (refine Below.setCell ?_ (by first | (simp; done) | (simp; omega)) _)
              exact HBr.out
      · have E1 : Hid (bothB a b = ⟨0, []⟩) := by show _ = _; unfold bothB; rw [if_neg (fun h => hn h.2.2)]
        have E2 : Hid (bothE a b = 2) := by show _ = _; unfold bothE; rw [if_neg (fun h => hn h.2.2)]
        have e1 : (a.n != b.n) = true := by simp [hn]
        clear hA hB hn CO
        rw [EA.out] at CA
        rw [EB.out] at CB
        go_enter Tryd.func65, Tryd.ntmps65
        go_wp2_with fail
        refine (CA.out _ HW0.out).mono ?_
        rintro e w1 ⟨rfl, hb1⟩
        have HB1 := Lib.hid (bthen HW0.out hb1)
        obtain ⟨hc1, hf1, hs1⟩ := bcellB (B := w.heap.size + 3) hb1 (by simp)
        clear hb1 CA
        go_wp2_with fail
        refine (CB.out _ HB1.out).mono ?_
        rintro e w2 ⟨rfl, hb2⟩
        have HB2 := Lib.hid (bthen HB1.out hb2)
        obtain ⟨hc2, hf2, hs2⟩ := bcellB hb2 hs1
        clear hb2 CB
        go_wp2
        have f2 : w2.cell? ⟨w.heap.size + 2, 0, none⟩ = some (.int .i64 0) := by go_simp
        have f3 : w2.cell? ⟨w.heap.size + 2, 1, none⟩ = some (.slice none 0 0) := by go_simp
        have n3 : (⟨w.heap.size + 2, 0, none⟩ : Addr) ≠ ⟨w.heap.size + 2, 1, none⟩ := by simp
        have n4 : (⟨w.heap.size + 2, 1, none⟩ : Addr) ≠ ⟨w.heap.size + 2, 0, none⟩ := by simp
        have g1 : (w2.setCell ⟨w.heap.size + 2, 0, none⟩ (.int .i64 0)).cell? ⟨w.heap.size + 2, 0, none⟩ = some (.int .i64 0) := World.cell?_setCell_same _ _ _ f2
        have g2 : ((w2.setCell ⟨w.heap.size + 2, 0, none⟩ (.int .i64 0)).setCell ⟨w.heap.size + 2, 1, none⟩ (.slice none 0 0)).cell? ⟨w.heap.size + 2, 1, none⟩ = some (.slice none 0 0) :=
          World.cell?_setCell_same _ _ _ ((World.cell?_setCell_other (h := n3) ..).trans f3)
        have g3 : ((w2.setCell ⟨w.heap.size + 2, 0, none⟩ (.int .i64 0)).setCell ⟨w.heap.size + 2, 1, none⟩ (.slice none 0 0)).cell? ⟨w.heap.size + 2, 0, none⟩ = some (.int .i64 0) :=
          (World.cell?_setCell_other (h := n4) ..).trans g1
        refine bodyPost_ret (v := .tuple #[.agg #[.int .i64 0, .slice none 0 0], .int .i64 2]) (by simp [results, Tryd.results65, go_sem, g1, g2, g3]) rfl ?_
        rw [E1.out, E2.out]
        refine ⟨⟨0, none, 0, 0⟩, rfl, rfl, rfl, Nat.le_refl _, OwU.nil_ _ _, ?_⟩
        repeat (refine Below.setCell ?_ (by first | (simp; done) | (simp; omega)) _)
        exact HB2.out
    · have E1 : Hid (bothB a b = ⟨0, []⟩) := by show _ = _; unfold bothB; rw [if_neg (fun h => hB h.2.1)]
      have E2 : Hid (bothE a b = 2) := by show _ = _; unfold bothE; rw [if_neg (fun h => hB h.2.1)]
      have EB := Lib.hid (okE_2 (by simpa using hB))
      clear hA hB CO
      rw [EA.out] at CA
      rw [EB.out] at CB
      go_enter Tryd.func65, Tryd.ntmps65
      go_wp2_with fail
      refine (CA.out _ HW0.out).mono ?_
      rintro e w1 ⟨rfl, hb1⟩
      have HB1 := Lib.hid (bthen HW0.out hb1)
      obtain ⟨hc1, hf1, hs1⟩ := bcellB (B := w.heap.size + 3) hb1 (by simp)
      clear hb1 CA
      go_wp2_with fail
      refine (CB.out _ HB1.out).mono ?_
      rintro e w2 ⟨rfl, hb2⟩
      have HB2 := Lib.hid (bthen HB1.out hb2)
      obtain ⟨hc2, hf2, hs2⟩ := bcellB hb2 hs1
      clear hb2 CB
      go_wp2
      have f2 : w2.cell? ⟨w.heap.size + 2, 0, none⟩ = some (.int .i64 0) := by go_simp
      have f3 : w2.cell? ⟨w.heap.size + 2, 1, none⟩ = some (.slice none 0 0) := by go_simp
      have n3 : (⟨w.heap.size + 2, 0, none⟩ : Addr) ≠ ⟨w.heap.size + 2, 1, none⟩ := by simp
      have n4 : (⟨w.heap.size + 2, 1, none⟩ : Addr) ≠ ⟨w.heap.size + 2, 0, none⟩ := by simp
      have g1 : (w2.setCell ⟨w.heap.size + 2, 0, none⟩ (.int .i64 0)).cell? ⟨w.heap.size + 2, 0, none⟩ = some (.int .i64 0) := World.cell?_setCell_same _ _ _ f2
      have g2 : ((w2.setCell ⟨w.heap.size + 2, 0, none⟩ (.int .i64 0)).setCell ⟨w.heap.size + 2, 1, none⟩ (.slice none 0 0)).cell? ⟨w.heap.size + 2, 1, none⟩ = some (.slice none 0 0) :=
        World.cell?_setCell_same _ _ _ ((World.cell?_setCell_other (h := n3) ..).trans f3)
      have g3 : ((w2.setCell ⟨w.heap.size + 2, 0, none⟩ (.int .i64 0)).setCell ⟨w.heap.size + 2, 1, none⟩ (.slice none 0 0)).cell? ⟨w.heap.size + 2, 0, none⟩ = some (.int .i64 0) :=
        (World.cell?_setCell_other (h := n4) ..).trans g1
      refine bodyPost_ret (v := .tuple #[.agg #[.int .i64 0, .slice none 0 0], .int .i64 2]) (by simp [results, Tryd.results65, go_sem, g1, g2, g3]) rfl ?_
      rw [E1.out, E2.out]
      refine ⟨⟨0, none, 0, 0⟩, rfl, rfl, rfl, Nat.le_refl _, OwU.nil_ _ _, ?_⟩
      repeat (refine Below.setCell ?_ (by first | (simp; done) | (simp; omega)) _)
      exact HB2.out
  · have E1 : Hid (bothB a b = ⟨0, []⟩) := by show _ = _; unfold bothB; rw [if_neg (fun h => hA h.1)]
    have E2 : Hid (bothE a b = 2) := by show _ = _; unfold bothE; rw [if_neg (fun h => hA h.1)]
    have EA := Lib.hid (okE_2 (by simpa using hA))
    clear hA CO CB
    rw [EA.out] at CA
    go_enter Tryd.func65, Tryd.ntmps65
    go_wp2_with fail
    refine (CA.out _ HW0.out).mono ?_
    rintro e w1 ⟨rfl, hb1⟩
    have HB1 := Lib.hid (bthen HW0.out hb1)
    obtain ⟨hc1, hf1, hs1⟩ := bcellB (B := w.heap.size + 3) hb1 (by simp)
    clear hb1 CA
    go_wp2
    have f2 : w1.cell? ⟨w.heap.size + 2, 0, none⟩ = some (.int .i64 0) := by go_simp
    have f3 : w1.cell? ⟨w.heap.size + 2, 1, none⟩ = some (.slice none 0 0) := by go_simp
    have n3 : (⟨w.heap.size + 2, 0, none⟩ : Addr) ≠ ⟨w.heap.size + 2, 1, none⟩ := by simp
    have n4 : (⟨w.heap.size + 2, 1, none⟩ : Addr) ≠ ⟨w.heap.size + 2, 0, none⟩ := by simp
    have g1 : (w1.setCell ⟨w.heap.size + 2, 0, none⟩ (.int .i64 0)).cell? ⟨w.heap.size + 2, 0, none⟩ = some (.int .i64 0) := World.cell?_setCell_same _ _ _ f2
    have g2 : ((w1.setCell ⟨w.heap.size + 2, 0, none⟩ (.int .i64 0)).setCell ⟨w.heap.size + 2, 1, none⟩ (.slice none 0 0)).cell? ⟨w.heap.size + 2, 1, none⟩ = some (.slice none 0 0) :=
      World.cell?_setCell_same _ _ _ ((World.cell?_setCell_other (h := n3) ..).trans f3)
    have g3 : ((w1.setCell ⟨w.heap.size + 2, 0, none⟩ (.int .i64 0)).setCell ⟨w.heap.size + 2, 1, none⟩ (.slice none 0 0)).cell? ⟨w.heap.size + 2, 0, none⟩ = some (.int .i64 0) :=
      (World.cell?_setCell_other (h := n4) ..).trans g1
    refine bodyPost_ret (v := .tuple #[.agg #[.int .i64 0, .slice none 0 0], .int .i64 2]) (by simp [results, Tryd.results65, go_sem, g1, g2, g3]) rfl ?_
    rw [E1.out, E2.out]
    refine ⟨⟨0, none, 0, 0⟩, rfl, rfl, rfl, Nat.le_refl _, OwU.nil_ _ _, ?_⟩
    repeat (refine Below.setCell ?_ (by first | (simp; done) | (simp; omega)) _)
    exact HB1.out
end Go.Proofs.YtchbbldanmmpjaaDoor
