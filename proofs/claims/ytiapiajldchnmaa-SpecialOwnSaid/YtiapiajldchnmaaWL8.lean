/- The walk of the law SpecialOwn. -/
import Derived.Test.YtiapiajldchnmaaWP
import Derived.HandedShaped
namespace Go.Proofs.Ytiapiajldchnmaa
open Go.RowKit
set_option linter.unusedVariables false
set_option linter.unusedSimpArgs false

def WC (w : World) (p : Addr) : Prop := (∃ x : Int, w.cell? p = some (.int .u64 x)) ∧ w.frozen? p = false
def WR (w : World) (base : Nat) (A : Option Addr) (n : Nat) : Prop := n ≤ 9223372036854775807 ∧ (0 < n → ∃ g, A = some ⟨g, 0, none⟩ ∧ base ≤ g ∧ ∀ i, i < n → WC w ⟨g, i * 3 + 2, none⟩)
theorem WC.set {w : World} {p : Addr} (h : WC w p) (q : Addr) (x : Int) : WC (w.setCell q (.int .u64 x)) p :=
  ⟨someInt_setCell h.1 q x, by rw [World.frozen?_setCell]; exact h.2⟩
theorem WR.set {w : World} {base n : Nat} {A : Option Addr} (h : WR w base A n) (q : Addr) (x : Int) : WR (w.setCell q (.int .u64 x)) base A n :=
  ⟨h.1, fun hn => by
    obtain ⟨g, e, hb, hc⟩ := h.2 hn
    exact ⟨g, e, hb, fun i hi => (hc i hi).set q x⟩⟩
theorem keep_slot {w : World} {p q : Addr} {A : Option Addr} {n c : Nat} (hp : WC w p) (h : w.cell? q = some (.slice A n c)) (v : Value) : (w.setCell p v).cell? q = some (.slice A n c) := by
  rw [World.cell?_setCell_other]
  · exact h
  · intro e
    subst e
    obtain ⟨⟨x, hx⟩, _⟩ := hp
    rw [hx] at h
    cases h
theorem OwS.wr {w : World} {base : Nat} {A : Option Addr} {c : Nat} {l : List Sp} (h : OwS w base (.slice A l.length c) l) : WR w base A l.length := by
  refine ⟨h.len, fun hn => ?_⟩
  have hr := own_rd h
  rcases h.2 with ⟨_, h1⟩ | ⟨g, cap, cur, he, hb, hh, _⟩
  · omega
  · simp only [Value.slice.injEq] at he
    obtain ⟨rfl, _, rfl⟩ := he
    refine ⟨g, rfl, hb, fun i hi => ?_⟩
    obtain ⟨b, o, e, _, _, _, h3⟩ := RdS.at_ hr (List.getElem?_eq_getElem hi)
    simp only [Option.some.injEq, Addr.mk.injEq, and_true] at e
    obtain ⟨rfl, rfl⟩ := e
    rw [Nat.zero_add] at h3
    exact ⟨⟨_, h3⟩, by simp [World.frozen?, hh]⟩
structure INV (w1 wr : World) (G : Nat) (S : List (Option Addr × Nat × Nat)) : Prop where
  below : Below w1.heap.size w1 wr
  slot : ∀ j A n c, S[j]? = some (A, n, c) → wr.cell? ⟨G, j, none⟩ = some (.slice A n c) ∧ WR wr w1.heap.size A n
theorem INV.set {w1 wr : World} {G : Nat} {S : List (Option Addr × Nat × Nat)} (h : INV w1 wr G S) {p : Addr} (hb : w1.heap.size ≤ p.block) (hp : WC wr p) (x : Int) : INV w1 (wr.setCell p (.int .u64 x)) G S :=
  ⟨h.below.setCell hb _, fun j A n c e => ⟨keep_slot hp (h.slot j A n c e).1 _, (h.slot j A n c e).2.set p x⟩⟩

set_option maxRecDepth 100000 in
set_option maxHeartbeats 8000000 in
theorem own8 (l : List Sp) (A : Option Addr) (c : Nat) (s1 : Sp) (x : Int) (w : World) (hr : RdS w A l) (hc : l.length ≤ c) (hy : l.length * 24 ≤ 140737488355328) : Calls Try.prog 8 #[.slice A l.length c, s1.v, .int .u64 x] w (Ret (.bool true) w) := by
  have hl := hr.len
  have HR := Lib.hid hr
  clear hr
  obtain ⟨a1, k1, t1⟩ := s1
  have C9 := Lib.hid (fun W h => copy9 l A c W h hy)
  have C10 : Hid (∀ W B, RdS W A l → RdS W B [⟨a1, k1, t1⟩] → Calls Try.prog 10 #[.slice A l.length c, .slice B 1 1] W (RetS2 (addP l [⟨a1, k1, t1⟩]).1 (addP l [⟨a1, k1, t1⟩]).2 W)) := fun W B h h2 => add10 l [⟨a1, k1, t1⟩] A B c 1 W h hc h2
  have C12 := Lib.hid (fun W h => of12 l A c x W h hc)
  have C14 := Lib.hid (fun W h => take14 l A c x k1 W h hc)
  generalize addP l [⟨a1, k1, t1⟩] = q at *
  obtain ⟨L1, e1⟩ := q
  generalize ofP l x = L2 at *
  generalize takeL l x k1 = L3 at *
  generalize takeO l x k1 = L4 at *
  generalize checkP l = e2 at *
  simp only at C10
  unfold Sp.v
  go_enter Try.func8, Try.ntmps8
  have hb0 : Below w.heap.size w (w.alloc (.cells #[.int .u64 a1, .int .u8 k1, .int .u64 t1] 41)) := balloc (Below.refl _ _) _
  have F1 : Hid ((w.alloc (.cells #[.int .u64 a1, .int .u8 k1, .int .u64 t1] 41)).cell? ⟨w.heap.size, 0, none⟩ = some (.int .u64 a1)) := by show _ = _; go_simp
  have F2 : Hid ((w.alloc (.cells #[.int .u64 a1, .int .u8 k1, .int .u64 t1] 41)).cell? ⟨w.heap.size, 1, none⟩ = some (.int .u8 k1)) := by show _ = _; go_simp
  have F3 : Hid ((w.alloc (.cells #[.int .u64 a1, .int .u8 k1, .int .u64 t1] 41)).cell? ⟨w.heap.size, 2, none⟩ = some (.int .u64 t1)) := by show _ = _; go_simp
  go_wp2_with fail
  refine (lives16 _).mono ?_
  rintro e w1 ⟨rfl, hb1⟩
  have f1 := cell_later hb1 F1.out
  have f2 := cell_later hb1 F2.out
  have f3 := cell_later hb1 F3.out
  have HB1 := Lib.hid (bthen hb0 hb1)
  clear hb1 hb0 F1 F2 F3
  go_wp2_with fail
  refine (C9.out _ (HR.out.below HB1.out)).mono ?_
  rintro e w2 ⟨v2, rfl, ho2, hb2⟩
  obtain ⟨A2, c2, rfl, -, hr2⟩ := ho2.shape
  have f1 := cell_later hb2 f1
  have f2 := cell_later hb2 f2
  have f3 := cell_later hb2 f3
  have HB2 := Lib.hid (bthen HB1.out hb2)
  have HR2 := Lib.hid hr2
  clear hb2 ho2 hr2
  go_wp2_with fail
  refine (C10.out _ _ (HR.out.below (balloc HB2.out _)) (rdS_new w2 ⟨a1, k1, t1⟩)).mono ?_
  intro e w3 h3
  obtain ⟨A3, c3, rfl, -, ho3, -, hb3⟩ := h3.shape
  have hb3' : Below w2.heap.size w2 w3 := bthen (balloc (Below.refl _ w2) (Obj.cells #[.int .u64 a1, .int .u8 k1, .int .u64 t1] 41)) hb3
  have ho3 : OwS w3 w2.heap.size _ _ := ho3.mono (balloc (Below.refl _ w2) (Obj.cells #[.int .u64 a1, .int .u8 k1, .int .u64 t1] 41)).size
  have f2 := cell_later hb3' f2
  have HB3 := Lib.hid hb3'
  have HO3 := Lib.hid ho3
  have HW3 := Lib.hid (bthen HB2.out hb3')
  clear hb3 hb3' ho3 f1 f3 h3
  go_wp2_with fail
  refine (C12.out _ (HR.out.below HW3.out)).mono ?_
  intro e w4 h4
  obtain ⟨A4, c4, rfl, -, ho4, -, hb4⟩ := h4.shape
  have f2 := cell_later hb4 f2
  have HB4 := Lib.hid (bthen HB3.out hb4)
  have HW4 := Lib.hid (bthen HW3.out hb4)
  have HO3 := Lib.hid (HO3.out.below hb4)
  have HO4 : Hid (OwS w4 w2.heap.size _ _) := ho4.mono HB3.out.size
  clear hb4 ho4 h4
  go_wp2_with fail
  refine (C14.out _ (HR.out.below HW4.out)).mono ?_
  intro e w5 h5
  obtain ⟨A5, c5, A6, c6, rfl, -, -, ho5, ho6, -, -, hb5⟩ := h5.shape
  have HB5 := Lib.hid (bthen HB4.out hb5)
  have HW5 := Lib.hid (bthen HW4.out hb5)
  have HO3 := Lib.hid (HO3.out.below hb5)
  have HO4 := Lib.hid (HO4.out.below hb5)
  have HO5 : Hid (OwS w5 w2.heap.size _ _) := ho5.mono HB4.out.size
  have HO6 : Hid (OwS w5 w2.heap.size _ _) := ho6.mono HB4.out.size
  clear hb5 ho5 ho6 h5 f2
  have HI : Hid (INV w2 (w5.alloc (Obj.cells #[.slice A3 L1.length c3, .slice A4 L2.length c4, .slice A5 L3.length c5, .slice A6 L4.length c6] 22)) w5.heap.size [(A3, L1.length, c3), (A4, L2.length, c4), (A5, L3.length, c5), (A6, L4.length, c6)]) := by
    have hba : Below w5.heap.size w5 (w5.alloc (Obj.cells #[.slice A3 L1.length c3, .slice A4 L2.length c4, .slice A5 L3.length c5, .slice A6 L4.length c6] 22)) := balloc (Below.refl _ _) _
    refine ⟨bthen HB5.out hba, fun j B n d e => ?_⟩
    match j, e with
    | 0, e => cases e; exact ⟨by go_simp, (HO3.out.below hba).wr⟩
    | 1, e => cases e; exact ⟨by go_simp, (HO4.out.below hba).wr⟩
    | 2, e => cases e; exact ⟨by go_simp, (HO5.out.below hba).wr⟩
    | 3, e => cases e; exact ⟨by go_simp, (HO6.out.below hba).wr⟩
    | j + 4, e => simp at e
  have HS : Hid (∀ j, j < 4 → ∃ B n d, [(A3, L1.length, c3), (A4, L2.length, c4), (A5, L3.length, c5), (A6, L4.length, c6)][j]? = some (B, n, d)) := by
    intro j hj
    exact ⟨_, _, _, List.getElem?_eq_getElem (by simpa using hj)⟩
  generalize [(A3, L1.length, c3), (A4, L2.length, c4), (A5, L3.length, c5), (A6, L4.length, c6)] = S at *
  go_wp2_with fail
  generalize w5.heap.size = G at *
  go_loopw [50] (fun i wr => ∃ j : Nat, j ≤ 4 ∧ i = .int .i64 j ∧ Hid (INV w2 wr G S)) (fun i _ => 4 - (intOf i).toNat)
  case atStart => exact ⟨0, by omega, rfl, HI.out⟩
  case round =>
    obtain ⟨j, hj, rfl, HV⟩ := hrel
    obtain ⟨wo, rfl⟩ : ∃ wo : World, wo = wr := ⟨_, rfl⟩
    clear HI C9 C10 C12 C14
    by_cases hlt : j < 4
    · obtain ⟨B, n, d, hS⟩ := HS.out j hlt
      have f := (HV.out.slot j B n d hS).1
      have hn := (HV.out.slot j B n d hS).2.1
      have HSj : Hid (S[j]? = some (B, n, d)) := hS
      clear hS
      go_wp2_with fail
      go_loopw [56] (fun i wr => ∃ m : Nat, m ≤ n ∧ i = .int .i64 m ∧ Hid (INV w2 wr G S)) (fun i _ => n - (intOf i).toNat)
      case atStart => exact ⟨0, Nat.zero_le _, rfl, HV.out⟩
      case round =>
        obtain ⟨m, hm, rfl, HV'⟩ := hrel
        obtain ⟨wi, rfl⟩ : ∃ wi : World, wi = wr := ⟨_, rfl⟩
        clear HV f
        by_cases hmn : m < n
        · obtain ⟨g, rfl, hg, hcel⟩ := (HV'.out.slot j B n d HSj.out).2.2 (by omega)
          obtain ⟨⟨y, hy'⟩, hfz⟩ := hcel m hmn
          have HN := Lib.hid (HV'.out.set (p := ⟨g, m * 3 + 2, none⟩) hg (hcel m hmn) (IntKind.u64.wrap (y + 9)))
          have HG' := Lib.hid hg
          clear hcel hg
          go_wp2_with fail
          go_roundw
          case rel => exact ⟨m + 1, by omega, by go_num, HN.out⟩
          case measure => simp [intOf]; omega
        · have hmn' : m = n := by omega
          subst hmn'
          go_wp2_with fail
          go_roundw
          case rel => exact ⟨j + 1, by omega, by go_num, HV'.out⟩
          case measure => simp [intOf]; omega
    · have hj4 : j = 4 := by omega
      subst hj4
      go_wp2_with fail
      refine (same17 l l A A2 c c2 _ (HR.out.below (bthen HB2.out HV.out.below)) (HR2.out.below HV.out.below)).mono ?_
      rintro e w6 ⟨rfl, hb6⟩
      go_wp2
      go_ret
      exact ⟨by simp, bthen (bthen HB2.out HV.out.below) hb6⟩
end Go.Proofs.Ytiapiajldchnmaa
