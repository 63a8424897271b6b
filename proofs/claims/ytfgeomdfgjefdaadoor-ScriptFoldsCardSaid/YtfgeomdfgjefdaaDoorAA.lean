/- The walks of ownTask, plainTask and head. -/
import Derived.Test.YtfgeomdfgjefdaaDoorA9
namespace Go.Proofs.YtfgeomdfgjefdaaDoor
open Go.RowKit
set_option linter.unusedVariables false
set_option linter.unusedSimpArgs false

def ownN (k : Int) : List UInt8 := if k = 2 then [115, 99, 97, 110] else if k = 3 then [119, 111, 114, 107] else []
def plainN (k : Int) : List UInt8 := if k = 1 then [115, 116, 97, 114, 116] else if k = 4 then [102, 105, 110, 105, 115, 104] else if k = 5 then [115, 119, 101, 101, 112] else if k = 6 then [114, 117, 110] else []
set_option maxRecDepth 100000 in
set_option maxHeartbeats 8000000 in
theorem own43 (k : Int) (w : World) : Calls Tryd.prog 43 #[.int .u8 k] w (Ret (strV (ownN k)) w) := by
  unfold strV
  go_enter Tryd.func43, Tryd.ntmps43
  go_wp2
  all_goals
    go_ret
    refine ⟨?_, Below.refl _ _⟩
    simp_all [ownN]
set_option maxRecDepth 100000 in
set_option maxHeartbeats 8000000 in
theorem plain45 (k : Int) (w : World) : Calls Tryd.prog 45 #[.int .u8 k] w (Ret (strV (plainN k)) w) := by
  unfold strV
  go_enter Tryd.func45, Tryd.ntmps45
  go_wp2
  all_goals
    go_ret
    refine ⟨?_, Below.refl _ _⟩
    simp_all [plainN]
def zeroEv : Ev := ⟨false, 0, 0, 0, 0⟩
def headK (nm wh : List UInt8) (own : Bool) : Nat → Ev × Bool
  | 0 => (zeroEv, false)
  | r + 1 => if own = true ∧ nm = ownN ((6 - r : Nat) : Int) then (⟨false, 0, ((6 - r : Nat) : Int), (numP wh).1, 1⟩, (numP wh).2)
    else if own = false ∧ nm ≠ [] ∧ nm = plainN ((6 - r : Nat) : Int) then (⟨false, 0, ((6 - r : Nat) : Int), 0, 1⟩, true) else headK nm wh own r
def headP (l : List UInt8) : Ev × Bool := if Lib.hasPrefix l [116] = true then (⟨true, (numP (l.drop 1)).1, 0, 0, 1⟩, (numP (l.drop 1)).2)
  else headK (Lib.cut l [32]).1 (Lib.cut l [32]).2.1 (Lib.cut l [32]).2.2 7
def RetEB (e : Ev) (ok : Bool) (w : World) (x : Ending) (w' : World) : Prop := x = .returned (.tuple #[e.v, .bool ok]) ∧ Below w.heap.size w w'
theorem cut_len (l sep : List UInt8) : (Lib.cut l sep).1.length ≤ l.length ∧ (Lib.cut l sep).2.1.length ≤ l.length := by
  unfold Lib.cut
  split
  · simp only [List.length_take, List.length_drop]
    omega
  · simp
def put5 (W : World) (b : Nat) (e : Ev) : World := ((((W.setCell ⟨b, 0, none⟩ (.bool e.thr)).setCell ⟨b, 1, none⟩ (.int .i64 e.who)).setCell ⟨b, 2, none⟩ (.int .u8 e.kind)).setCell ⟨b, 3, none⟩ (.int .i64 e.tw)).setCell ⟨b, 4, none⟩ (.int .i64 e.times)
theorem below_put5 {w W : World} {b : Nat} (h : Below w.heap.size w W) (e : Ev) (hb : w.heap.size ≤ b := by omega) : Below w.heap.size w (put5 W b e) :=
  ((((h.setCell (p := ⟨b, 0, none⟩) hb _).setCell (p := ⟨b, 1, none⟩) hb _).setCell (p := ⟨b, 2, none⟩) hb _).setCell (p := ⟨b, 3, none⟩) hb _).setCell (p := ⟨b, 4, none⟩) hb _
theorem cell_set {W : World} {b j i : Nat} {u v : Value} (h : W.cell? ⟨b, i, none⟩ = some u) (hj : j ≠ i) : (W.setCell ⟨b, j, none⟩ v).cell? ⟨b, i, none⟩ = some u :=
  (World.cell?_setCell_other (h := fun e => hj (by injection e)) ..).trans h
theorem VarE.put {W : World} {b : Nat} {e0 : Ev} (h : VarE W b e0) (e : Ev) : VarE (put5 W b e) b e := by
  unfold put5
  refine ⟨?_, ?_, ?_, ?_, ?_, ?_⟩
  · exact cell_set (cell_set (cell_set (cell_set (World.cell?_setCell_same _ _ _ h.c0) (by omega)) (by omega)) (by omega)) (by omega)
  · exact cell_set (cell_set (cell_set (World.cell?_setCell_same _ _ _ (cell_set h.c1 (by omega))) (by omega)) (by omega)) (by omega)
  · exact cell_set (cell_set (World.cell?_setCell_same _ _ _ (cell_set (cell_set h.c2 (by omega)) (by omega))) (by omega)) (by omega)
  · exact cell_set (World.cell?_setCell_same _ _ _ (cell_set (cell_set (cell_set h.c3 (by omega)) (by omega)) (by omega))) (by omega)
  · exact World.cell?_setCell_same _ _ _ (cell_set (cell_set (cell_set (cell_set h.c4 (by omega)) (by omega)) (by omega)) (by omega))
  · rw [World.frozen?_setCell, World.frozen?_setCell, World.frozen?_setCell, World.frozen?_setCell, World.frozen?_setCell]
    exact h.fz
theorem str_ne {a b : List UInt8} (h : ¬ a = b) : ¬ (⟨a.toArray⟩ : ByteArray) = ⟨b.toArray⟩ ∧ ¬ a.toArray = b.toArray ∧ (a == b) = false ∧ decide (a = b) = false := by
  have h3 : ¬ a.toArray = b.toArray := fun e => h (by simpa using e)
  exact ⟨fun e => h3 (by injection e), h3, by rw [beq_eq_false_iff_ne]; exact h, decide_eq_false h⟩
/-- The two variables of head: the result's and e. -/
structure HdS (w wr : World) (e : Ev) : Prop where
  v2 : VarE wr w.heap.size zeroEv
  v4 : VarE wr (w.heap.size + 1) e
  f2 : ∀ j, wr.frozen? ⟨w.heap.size, j, none⟩ = false
  f4 : ∀ j, wr.frozen? ⟨w.heap.size + 1, j, none⟩ = false
  below : Below w.heap.size w wr
theorem HdS.later {w wr w2 : World} {e : Ev} (h : HdS w wr e) (hb : Below wr.heap.size wr w2) : HdS w w2 e := by
  have h2 := World.block_lt_of_cell? _ _ h.v2.c0
  have h4 := World.block_lt_of_cell? _ _ h.v4.c0
  exact ⟨h.v2.below hb, h.v4.below hb, fun j => (hb.frozen (p := ⟨w.heap.size, j, none⟩) h2).trans (h.f2 j), fun j => (hb.frozen (p := ⟨w.heap.size + 1, j, none⟩) h4).trans (h.f4 j), bthen h.below hb⟩
theorem HdS.start (w : World) : HdS w ((w.alloc (.cells #[.bool false, .int .i64 0, .int .u8 0, .int .i64 0, .int .i64 0] 41)).alloc (.cells #[.bool false, .int .i64 0, .int .u8 0, .int .i64 0, .int .i64 1] 41)) ⟨false, 0, 0, 0, 1⟩ := by
  refine ⟨(VarE.made w zeroEv).below (balloc (Below.refl _ _) _), ?_, fun j => by go_simp, fun j => by go_simp, balloc (balloc (Below.refl _ _) _) _⟩
  have h := VarE.made (w.alloc (.cells #[.bool false, .int .i64 0, .int .u8 0, .int .i64 0, .int .i64 0] 41)) ⟨false, 0, 0, 0, 1⟩
  rwa [show (w.alloc (.cells #[.bool false, .int .i64 0, .int .u8 0, .int .i64 0, .int .i64 0] 41)).heap.size = w.heap.size + 1 from by simp] at h
theorem HdS.setK {w wr : World} {e : Ev} (h : HdS w wr e) (k : Int) : HdS w (wr.setCell ⟨w.heap.size + 1, 2, none⟩ (.int .u8 k)) { e with kind := k } := by
  have hn : ∀ j, j ≠ 2 → (⟨w.heap.size + 1, 2, none⟩ : Addr) ≠ ⟨w.heap.size + 1, j, none⟩ := fun j hj e => hj (by injection e with _ e2; exact e2.symm)
  refine ⟨h.v2.set_ne (p := ⟨w.heap.size + 1, 2, none⟩) (by simp) _, ⟨(World.cell?_setCell_other (h := hn 0 (by omega)) ..).trans h.v4.c0, (World.cell?_setCell_other (h := hn 1 (by omega)) ..).trans h.v4.c1, World.cell?_setCell_same _ _ _ h.v4.c2, (World.cell?_setCell_other (h := hn 3 (by omega)) ..).trans h.v4.c3, (World.cell?_setCell_other (h := hn 4 (by omega)) ..).trans h.v4.c4, (World.frozen?_setCell _ _ _ _).trans h.v4.fz⟩, fun j => (World.frozen?_setCell _ _ _ _).trans (h.f2 j), fun j => (World.frozen?_setCell _ _ _ _).trans (h.f4 j), h.below.setCell (by simp) _⟩
set_option maxRecDepth 100000 in
set_option maxHeartbeats 32000000 in
theorem head39 (l : List UInt8) (hl : l.length ≤ 100000) (w : World) (hE : Env w) : Calls Tryd.prog 39 #[strV l] w (RetEB (headP l).1 (headP l).2 w) := by
  have HCP : Hid (∀ W, Calls Tryd.prog 54 #[.string ⟨l.toArray⟩, .string ⟨#[116]⟩] W (Ret (.tuple #[.string ⟨(Lib.trimPrefix l [116]).toArray⟩, .bool (Lib.hasPrefix l [116])]) W)) := fun W => by
    refine (Tryd.strings_CutPrefix ⟨l.toArray⟩ ⟨#[116]⟩ W).mono ?_
    rintro e w' ⟨rfl, rfl⟩
    exact ⟨by simp, Below.refl _ _⟩
  have HCU : Hid (∀ W, Below w.heap.size w W → Calls Tryd.prog 38 #[.string ⟨l.toArray⟩, .string ⟨#[32]⟩] W (Ret (.tuple #[.string ⟨(Lib.cut l [32]).1.toArray⟩, .string ⟨(Lib.cut l [32]).2.1.toArray⟩, .bool (Lib.cut l [32]).2.2]) W)) := fun W hW => by
    obtain ⟨m, hm⟩ := (hE.below hW).cut
    refine (Tryd.strings_Cut ⟨l.toArray⟩ ⟨#[32]⟩ m W (by simp [ByteArray.size]; omega) hm).mono ?_
    rintro e w' ⟨rfl, n, rfl⟩
    exact ⟨by simp, bdrewN (Below.refl _ _) n⟩
  have HNU : Hid (∀ (m : List UInt8) W, m.length ≤ 100000 → Below w.heap.size w W → Calls Tryd.prog 40 #[.string ⟨m.toArray⟩] W (Ret (.tuple #[.int .i64 (numP m).1, .bool (numP m).2]) W)) := fun m W hm hW => number40 m hm W (hE.below hW)
  have HB0 : Hid (∀ o o', Below w.heap.size w ((w.alloc o).alloc o')) := fun o o' => balloc (balloc (Below.refl w.heap.size w) o) o'
  unfold strV
  unfold RetEB
  clear hE
  go_enter Tryd.func39, Tryd.ntmps39
  have HS0 := Lib.hid (HdS.start w)
  go_wp2_with (go_at_call 54; refine (HCP.out _).mono ?_)
  rintro e w1 ⟨rfl, hb1⟩
  have HS1 := Lib.hid (HS0.out.later hb1)
  clear hb1 HCP HS0 HB0
  cases hpre : Lib.hasPrefix l [116] with
  | true =>
    have HP : Hid (headP l = (⟨true, (numP (l.drop 1)).1, 0, 0, 1⟩, (numP (l.drop 1)).2)) := if_pos hpre
    have ht : Lib.trimPrefix l [116] = l.drop 1 := by unfold Lib.trimPrefix; rw [if_pos hpre]; rfl
    rw [ht]
    have HX := Lib.hid (HNU.out (l.drop 1) w1 (by rw [List.length_drop]; omega) HS1.out.below)
    clear ht hpre HNU HCU
    generalize l.drop 1 = rr at *
    generalize (numP rr).1 = nn at *
    generalize (numP rr).2 = nb at *
    go_wp2_with (go_at_call 40; refine HX.out.mono ?_)
    rintro e w2 ⟨rfl, hb2⟩
    have HS2 := Lib.hid (HS1.out.later hb2)
    clear hb2 HX HS1
    obtain ⟨p0, p1, p2, p3, p4, -⟩ := HS2.out.v2
    obtain ⟨k0, k1, k2, k3, k4, -⟩ := HS2.out.v4
    have y2 := HS2.out.f2
    have y4 := HS2.out.f4
    simp only [zeroEv] at p0 p1 p2 p3 p4 k0 k1 k2 k3 k4
    have mp := World.block_lt_of_cell? _ _ p0
    have mk := World.block_lt_of_cell? _ _ k0
    go_wp2
    have hv := ((HS2.out.v2.set_ne (p := ⟨w.heap.size + 1, 0, none⟩) (by simp) (.bool true)).set_ne (p := ⟨w.heap.size + 1, 1, none⟩) (by simp) (.int .i64 nn)).put (⟨true, nn, 0, 0, 1⟩ : Ev)
    have hbl : Below w.heap.size w (put5 ((w2.setCell ⟨w.heap.size + 1, 0, none⟩ (.bool true)).setCell ⟨w.heap.size + 1, 1, none⟩ (.int .i64 nn)) w.heap.size (⟨true, nn, 0, 0, 1⟩ : Ev)) := below_put5 ((HS2.out.below.setCell (p := ⟨w.heap.size + 1, 0, none⟩) (by simp) (.bool true)).setCell (p := ⟨w.heap.size + 1, 1, none⟩) (by simp) (.int .i64 nn)) _
    unfold put5 at hv hbl
    obtain ⟨f0, f1, f2, f3, f4, -⟩ := hv
    try simp only [zeroEv] at f0 f1 f2 f3 f4 hbl
    refine bodyPost_ret (v := .tuple #[Ev.v (⟨true, nn, 0, 0, 1⟩ : Ev), .bool nb]) (by simp [results, Tryd.results39, go_sem, f0, f1, f2, f3, f4, Ev.v, zeroEv]) rfl ?_
    rw [HP.out]
    exact ⟨rfl, hbl⟩
  | false =>
    have HP : Hid (headP l = headK (Lib.cut l [32]).1 (Lib.cut l [32]).2.1 (Lib.cut l [32]).2.2 7) := if_neg (by rw [hpre]; simp)
    have hc1 := (cut_len l [32]).1
    have hc2 := (cut_len l [32]).2
    generalize (Lib.cut l [32]).1 = nm at *
    generalize (Lib.cut l [32]).2.1 = wh at *
    generalize (Lib.cut l [32]).2.2 = own at *
    have HX := Lib.hid (HCU.out w1 HS1.out.below)
    have HNW : Hid (∀ W, Below w.heap.size w W → Calls Tryd.prog 40 #[.string ⟨wh.toArray⟩] W (Ret (.tuple #[.int .i64 (numP wh).1, .bool (numP wh).2]) W)) := fun W hW => HNU.out wh W (by omega) hW
    clear hpre HCU HNU
    go_wp2_with (go_at_call 38; refine HX.out.mono ?_)
    rintro e w2 ⟨rfl, hb2⟩
    have HS2 := Lib.hid (HS1.out.later hb2)
    clear hb2 HX HS1
    go_wp2
    go_loopw [38] (fun x wr => ∃ (k : Nat) (kp : Int), x = .int .u8 k ∧ k ≤ 7 ∧ Hid (headK nm wh own (7 - k) = headK nm wh own 7) ∧ Hid (HdS w wr ⟨false, 0, kp, 0, 1⟩)) (fun x _ => 7 - (intOf x).toNat)
    case atStart => exact ⟨0, 0, rfl, by omega, rfl, HS2.out⟩
    case round =>
      obtain ⟨k, kp, rfl, hk, HK, HS⟩ := hrel
      by_cases hlt : k < 7
      · have hlt1 : (k : Int) < 7 := by omega
        have e6 : (6 - (6 - k) : Nat) = k := by omega
        have HKE : Hid (headK nm wh own (7 - k) = if own = true ∧ nm = ownN k then (⟨false, 0, k, (numP wh).1, 1⟩, (numP wh).2) else if own = false ∧ nm ≠ [] ∧ nm = plainN k then (⟨false, 0, k, 0, 1⟩, true) else headK nm wh own (7 - (k + 1))) := by
          show _ = _
          have : 7 - k = (6 - k) + 1 := by omega
          rw [this, headK, e6]
          have : 7 - (k + 1) = 6 - k := by omega
          rw [this]
        obtain ⟨p0, p1, p2, p3, p4, -⟩ := HS.out.v2
        obtain ⟨k0, k1, k2, k3, k4, -⟩ := HS.out.v4
        have y4 := HS.out.f4
        have mk := World.block_lt_of_cell? _ _ k0
        have HSK := Lib.hid (HS.out.setK k)
        simp only at HSK k2
        clear p0 p1 p2 p3 p4
        go_upto_region 12 with fail
        clear k0 k1 k2 k3 k4 y4 mk
        generalize wr.setCell ⟨w.heap.size + 1, 2, none⟩ (.int .u8 k) = wk at *
        cases own with
        | true =>
          have HX := Lib.hid (own43 k wk)
          unfold strV at HX
          by_cases hm : nm = ownN k
          · rw [if_pos ⟨rfl, hm⟩] at HKE
            have HP2 := Lib.hid (HP.out.trans (HK.out.symm.trans HKE.out))
            have HY := Lib.hid (HNW.out)
            generalize (numP wh).1 = nn at *
            generalize (numP wh).2 = nb at *
            clear HKE HNW HK HP
            rw [← hm] at HX
            clear hm
            go_wp2_with (go_at_call 43; refine HX.out.mono ?_)
            rintro e w5 ⟨rfl, hb5⟩
            have HS5 := Lib.hid (HSK.out.later hb5)
            have HY5 := Lib.hid (HY.out w5 HS5.out.below)
            clear hb5 HX HY HSK HS
            go_wp2_with (go_at_call 40; refine HY5.out.mono ?_)
            rintro e w6 ⟨rfl, hb6⟩
            have HS6 := Lib.hid (HS5.out.later hb6)
            clear hb6 HY5 HS5
            obtain ⟨p0, p1, p2, p3, p4, -⟩ := HS6.out.v2
            obtain ⟨k0, k1, k2, k3, k4, -⟩ := HS6.out.v4
            have y2 := HS6.out.f2
            have y4 := HS6.out.f4
            simp only [zeroEv] at p0 p1 p2 p3 p4 k0 k1 k2 k3 k4
            have mp := World.block_lt_of_cell? _ _ p0
            have mk := World.block_lt_of_cell? _ _ k0
            go_wp2
            have hv := (HS6.out.v2.set_ne (p := ⟨w.heap.size + 1, 3, none⟩) (by simp) (.int .i64 nn)).put (⟨false, 0, k, nn, 1⟩ : Ev)
            have hbl : Below w.heap.size w (put5 (w6.setCell ⟨w.heap.size + 1, 3, none⟩ (.int .i64 nn)) w.heap.size (⟨false, 0, k, nn, 1⟩ : Ev)) := below_put5 (HS6.out.below.setCell (p := ⟨w.heap.size + 1, 3, none⟩) (by simp) (.int .i64 nn)) _
            unfold put5 at hv hbl
            obtain ⟨f0, f1, f2, f3, f4, -⟩ := hv
            try simp only [zeroEv] at f0 f1 f2 f3 f4 hbl
            refine bodyPost_ret (v := .tuple #[Ev.v (⟨false, 0, k, nn, 1⟩ : Ev), .bool nb]) (by simp [results, Tryd.results39, go_sem, f0, f1, f2, f3, f4, Ev.v, zeroEv]) rfl ?_
            rw [HP2.out]
            exact ⟨rfl, hbl⟩
          · rw [if_neg (fun h => hm h.2), if_neg (fun h => by simp at h)] at HKE
            have HK2 := Lib.hid (HKE.out.symm.trans HK.out)
            generalize ownN k = on at *
            obtain ⟨n1, n2, n3, n4⟩ := str_ne hm
            clear HKE HK HNW HP
            go_wp2_with (go_at_call 43; refine HX.out.mono ?_)
            rintro e w5 ⟨rfl, hb5⟩
            have HS5 := Lib.hid (HSK.out.later hb5)
            clear hb5 HX HSK HS
            go_wp2
            go_roundw
            case rel => exact ⟨k + 1, k, by go_num, by omega, HK2.out, HS5.out⟩
            case measure => simp [intOf]; omega
        | false =>
          by_cases hz : nm = []
          · rw [if_neg (fun h => by simp at h), if_neg (fun h => h.2.1 hz)] at HKE
            have HK2 := Lib.hid (HKE.out.symm.trans HK.out)
            clear HKE HK HNW HP
            subst hz
            go_wp2
            go_roundw
            case rel => exact ⟨k + 1, k, by go_num, by omega, HK2.out, HSK.out⟩
            case measure => simp [intOf]; omega
          · have z1 : nm.isEmpty = false := by cases nm with | nil => exact absurd rfl hz | cons => rfl
            have HX := Lib.hid (plain45 k wk)
            unfold strV at HX
            by_cases hm : nm = plainN k
            · rw [if_neg (fun h => by simp at h), if_pos ⟨rfl, hz, hm⟩] at HKE
              have HP2 := Lib.hid (HP.out.trans (HK.out.symm.trans HKE.out))
              clear HKE HK HNW HP
              rw [← hm] at HX
              clear hm
              go_wp2_with (go_at_call 45; refine HX.out.mono ?_)
              rintro e w5 ⟨rfl, hb5⟩
              have HS5 := Lib.hid (HSK.out.later hb5)
              clear hb5 HX HSK HS
              obtain ⟨p0, p1, p2, p3, p4, -⟩ := HS5.out.v2
              obtain ⟨k0, k1, k2, k3, k4, -⟩ := HS5.out.v4
              have y2 := HS5.out.f2
              have y4 := HS5.out.f4
              simp only [zeroEv] at p0 p1 p2 p3 p4 k0 k1 k2 k3 k4
              have mp := World.block_lt_of_cell? _ _ p0
              have mk := World.block_lt_of_cell? _ _ k0
              go_wp2
              have hv := (HS5.out.v2).put (⟨false, 0, k, 0, 1⟩ : Ev)
              have hbl : Below w.heap.size w (put5 w5 w.heap.size (⟨false, 0, k, 0, 1⟩ : Ev)) := below_put5 (HS5.out.below) _
              unfold put5 at hv hbl
              obtain ⟨f0, f1, f2, f3, f4, -⟩ := hv
              try simp only [zeroEv] at f0 f1 f2 f3 f4 hbl
              refine bodyPost_ret (v := .tuple #[Ev.v (⟨false, 0, k, 0, 1⟩ : Ev), .bool true]) (by simp [results, Tryd.results39, go_sem, f0, f1, f2, f3, f4, Ev.v, zeroEv]) rfl ?_
              rw [HP2.out]
              exact ⟨rfl, hbl⟩
            · rw [if_neg (fun h => by simp at h), if_neg (fun h => hm h.2.2)] at HKE
              have HK2 := Lib.hid (HKE.out.symm.trans HK.out)
              generalize plainN k = on at *
              obtain ⟨n1, n2, n3, n4⟩ := str_ne hm
              clear HKE HK HNW HP
              go_wp2_with (go_at_call 45; refine HX.out.mono ?_)
              rintro e w5 ⟨rfl, hb5⟩
              have HS5 := Lib.hid (HSK.out.later hb5)
              clear hb5 HX HSK HS
              go_wp2
              go_roundw
              case rel => exact ⟨k + 1, k, by go_num, by omega, HK2.out, HS5.out⟩
              case measure => simp [intOf]; omega
      · have hk7 : k = 7 := by omega
        subst hk7
        have HP2 : Hid (headP l = (zeroEv, false)) := HP.out.trans HK.out.symm
        obtain ⟨p0, p1, p2, p3, p4, -⟩ := HS.out.v2
        obtain ⟨k0, k1, k2, k3, k4, -⟩ := HS.out.v4
        have y2 := HS.out.f2
        have y4 := HS.out.f4
        simp only [zeroEv] at p0 p1 p2 p3 p4 k0 k1 k2 k3 k4
        have mp := World.block_lt_of_cell? _ _ p0
        have mk := World.block_lt_of_cell? _ _ k0
        go_wp2
        have hv := (HS.out.v2).put zeroEv
        have hbl : Below w.heap.size w (put5 wr w.heap.size zeroEv) := below_put5 (HS.out.below) _
        unfold put5 at hv hbl
        obtain ⟨f0, f1, f2, f3, f4, -⟩ := hv
        try simp only [zeroEv] at f0 f1 f2 f3 f4 hbl
        refine bodyPost_ret (v := .tuple #[Ev.v zeroEv, .bool false]) (by simp [results, Tryd.results39, go_sem, f0, f1, f2, f3, f4, Ev.v, zeroEv]) rfl ?_
        rw [HP2.out]
        exact ⟨rfl, hbl⟩
end Go.Proofs.YtfgeomdfgjefdaaDoor
