/- A number's digits, and an event's line; the walks of Digits and the two line. -/
import Derived.Test.YtfgeomdfgjefdaaDoorA7
import Derived.Laws.BytesArg
namespace Go.Proofs.YtfgeomdfgjefdaaDoor
open Go.RowKit
set_option linter.unusedVariables false
set_option linter.unusedSimpArgs false

def strV (l : List UInt8) : Value := .string ⟨l.toArray⟩
theorem dec_step {m : Nat} (h : 9 < m) : Lib.decDigits m = Lib.decDigits (m / 10) ++ [UInt8.ofNat (48 + m % 10)] := by
  rw [Lib.decDigits, dif_neg (by omega)]
theorem dec_last {m : Nat} (h : m ≤ 9) : Lib.decDigits m = [UInt8.ofNat (48 + m)] := Lib.decDigits_one (by omega)
theorem dec_len (k : Nat) : ∀ n, n < 10 ^ (k + 1) → (Lib.decDigits n).length ≤ k + 1 := by
  induction k with
  | zero => intro n hn; rw [dec_last (by omega)]; simp
  | succ k ih =>
    intro n hn
    by_cases h : 9 < n
    · rw [dec_step h, List.length_append]
      have h2 : 10 ^ (k + 1 + 1) = 10 ^ (k + 1) * 10 := Nat.pow_succ _ _
      have := ih (n / 10) (by omega)
      simp
      omega
    · rw [dec_last (by omega)]
      simp
theorem dec_len20 {n : Nat} (h : n < 18446744073709551616) : (Lib.decDigits n).length ≤ 20 := dec_len 19 n (by omega)
theorem conv_one (W : World) (x : Int) : (convert 49 9 (.slice (some ⟨W.heap.size, 0, none⟩) 1 1)).run Tryd.prog (W.alloc (.cells #[.int .u8 x] 5)) = .ok (.string ⟨#[UInt8.ofNat x.toNat]⟩) (W.alloc (.cells #[.int .u8 x] 5)) := by
  have h := run_convert_bytes_arg (P := Tryd.prog) (W.alloc (.cells #[.int .u8 x] 5)) 49 5 Tryd.underlying49 Tryd.underlying5 W.heap.size 0 1 1 [x] rfl (fun i hi => by
    obtain rfl : i = 0 := by omega
    go_simp) 9 Tryd.underlying9
  exact h
theorem str_app (a b : List UInt8) : (⟨a.toArray⟩ : ByteArray) ++ ⟨b.toArray⟩ = ⟨(a ++ b).toArray⟩ := by
  apply ByteArray.ext
  simp
set_option maxRecDepth 100000 in
set_option maxHeartbeats 16000000 in
theorem digits46 (n : Nat) (hn : n < 18446744073709551616) (w : World) : Calls Tryd.prog 46 #[.int .u64 n] w (Ret (strV (Lib.decDigits n)) w) := by
  unfold strV
  have hconv := conv_one
  go_enter Tryd.func46, Tryd.ntmps46
  go_wp2
  go_loopw [0, 3] (fun x s wr => ∃ (m : Nat) (ds : List UInt8), x = .int .u64 m ∧ m ≤ n ∧ s = .string ⟨ds.toArray⟩ ∧ Hid (Lib.decDigits m ++ ds = Lib.decDigits n) ∧ Hid (Below w.heap.size w wr)) (fun x _ _ => (intOf x).toNat)
  case atStart => exact ⟨n, [], rfl, Nat.le_refl _, rfl, by show _ = _; simp, Below.refl _ _⟩
  case round =>
    obtain ⟨m, ds, rfl, hm, rfl, HD, HB⟩ := hrel
    have hds : ds.length ≤ 20 := by
      have h1 := dec_len20 hn
      rw [← HD.out, List.length_append] at h1
      omega
    by_cases h9 : 9 < m
    · have h91 : (9 : Int) < (m : Int) := by omega
      have HD2 : Hid (Lib.decDigits (m / 10) ++ (UInt8.ofNat (48 + m % 10) :: ds) = Lib.decDigits n) := by
        have h := HD.out
        rw [dec_step h9, List.append_assoc] at h
        exact h
      go_wp2
      go_roundw
      case rel => exact ⟨m / 10, UInt8.ofNat (48 + m % 10) :: ds, by simp, by omega, by rw [Value.string.injEq]; apply ByteArray.ext; simp, HD2.out, balloc HB.out _⟩
      case measure => simp [intOf]; omega
    · have HD2 : Hid (UInt8.ofNat (48 + m) :: ds = Lib.decDigits n) := by
        have h := HD.out
        rw [dec_last (by omega)] at h
        exact h
      go_wp2
      go_ret
      refine ⟨?_, balloc HB.out _⟩
      rw [← HD2.out]
      refine congrArg (fun x => Ending.returned (Value.string x)) (?_ : ({ data := #[48 + UInt8.ofNat m] } ++ { data := ds.toArray } : ByteArray) = _)
      apply ByteArray.ext
      simp
/-! ### An event's line -/
def nameL (k : Int) : List UInt8 := if k = 1 then [115, 116, 97, 114, 116] else if k = 2 then [115, 99, 97, 110] else if k = 3 then [119, 111, 114, 107] else if k = 4 then [102, 105, 110, 105, 115, 104] else if k = 5 then [115, 119, 101, 101, 112] else [114, 117, 110]
def headL (e : Ev) : List UInt8 := if e.thr = true then 116 :: Lib.decDigits e.who.toNat else if e.kind = 2 ∨ e.kind = 3 then nameL e.kind ++ [32] ++ Lib.decDigits e.tw.toNat else nameL e.kind
def lineL (e : Ev) : List UInt8 := headL e ++ if e.times = 1 then [] else [32, 42, 32] ++ Lib.decDigits e.times.toNat
/-- What of the library's variables is read. -/
structure Env (w : World) : Prop where
  cut : ∃ m, w.cell? ⟨0, 0, none⟩ = some (.int .i64 m)
  syn : ∃ te pe, w.cell? ⟨3, 0, none⟩ = some (.iface te pe)
  rng : ∃ te pe, w.cell? ⟨4, 0, none⟩ = some (.iface te pe)
  tab : Lib.TabIs Tryd.prog w "internal/strconv.uint64pow10" .u64 Lib.pow10Tab
theorem var_later {P : Program} {w w1 : World} {name : String} {cs : Array Value} (h : w.var? P name = some cs) (hb : Below w.heap.size w w1) : w1.var? P name = some cs := by
  unfold World.var? at h ⊢
  cases hg : P.globalNamed name with
  | none => rw [hg] at h; simp at h
  | some g =>
    rw [hg] at h
    simp only [Option.bind_some] at h ⊢
    cases hq : w.heap[g]? with
    | none => rw [hq] at h; simp at h
    | some o =>
      rw [hb.block g (Array.getElem?_eq_some_iff.1 hq).1]
      exact h
theorem Env.below {w w1 : World} (h : Env w) (hb : Below w.heap.size w w1) : Env w1 :=
  ⟨by obtain ⟨m, h⟩ := h.cut; exact ⟨m, cell_later hb h⟩, by obtain ⟨t, p, h⟩ := h.syn; exact ⟨t, p, cell_later hb h⟩, by obtain ⟨t, p, h⟩ := h.rng; exact ⟨t, p, cell_later hb h⟩, var_later h.tab hb⟩
theorem below_grow {w : World} (k : Nat) (os : Array Obj) : Below w.heap.size w (Go.Sort.grow (w.drewN k) os) := by
  refine ⟨rfl, rfl, rfl, by show w.heap.size ≤ (w.heap ++ os).size; simp, fun j hj => ?_⟩
  show (w.heap ++ os)[j]? = w.heap[j]?
  rw [Array.getElem?_append_left hj]
theorem itoa44 (n : Nat) (hn : n ≤ 9223372036854775807) (w : World) (hE : Env w) : Calls Tryd.prog 44 #[.int .i64 n] w (Ret (strV (Lib.decDigits n)) w) := by
  refine (Tryd.strconv_Itoa n (by omega) (by omega) w hE.tab).mono ?_
  rintro e w' ⟨rfl, k, os, rfl⟩
  refine ⟨?_, below_grow k os⟩
  have : Lib.itoa (n : Int) = Lib.decDigits n := by unfold Lib.itoa; rw [if_neg (by omega)]; simp
  rw [this]
  rfl
set_option maxRecDepth 100000 in
set_option maxHeartbeats 32000000 in
theorem line26 (e : Ev) (he : okEv e) (w : World) (hE : Env w) : Calls Tryd.prog 26 #[e.v] w (Ret (strV (lineL e)) w) := by
  have HB0 : Hid (∀ o, Below w.heap.size w (w.alloc o)) := fun o => balloc (Below.refl w.heap.size w) o
  obtain ⟨thr, who, k, tw, n⟩ := e
  obtain ⟨h1, h2, h3⟩ := he
  simp only at h1 h2 h3
  obtain ⟨tn, rfl⟩ := Int.eq_ofNat_of_zero_le (show 0 ≤ n by omega)
  have HTL : Hid ((Lib.decDigits tn).length ≤ 20) := dec_len20 (by omega)
  have CI : Hid (∀ (m : Nat) W, m ≤ 9223372036854775807 → Below w.heap.size w W → Calls Tryd.prog 44 #[.int .i64 m] W (Ret (strV (Lib.decDigits m)) W)) := fun m W hm hW => itoa44 m hm W (hE.below hW)
  have HV := Lib.hid (VarE.made w ⟨thr, who, k, tw, tn⟩)
  simp only at HV
  have hcase : (thr = true ∧ k = 0 ∧ ∃ m : Nat, who = m ∧ m < 4) ∨ (thr = false ∧ (k = 2 ∨ k = 3) ∧ ∃ m : Nat, tw = m ∧ m < 4) ∨ (thr = false ∧ (k = 1 ∨ k = 4 ∨ k = 5 ∨ k = 6)) := by
    cases thr with
    | true => exact .inl ⟨rfl, by simp at h3; omega, who.toNat, by simp at h3; omega, by simp at h3; omega⟩
    | false =>
      simp only [Bool.false_eq_true, if_false] at h3
      by_cases hk : k = 2 ∨ k = 3
      · rw [if_pos hk] at h3
        exact .inr (.inl ⟨rfl, hk, tw.toNat, by omega, by omega⟩)
      · rw [if_neg hk] at h3
        exact .inr (.inr ⟨rfl, h3.2.1⟩)
  unfold strV at CI ⊢
  unfold Ev.v
  simp only
  clear h3
  by_cases ht : tn = 1
  · subst ht
    rcases hcase with ⟨rfl, rfl, m, rfl, hm⟩ | ⟨rfl, rfl | rfl, m, rfl, hm⟩ | ⟨rfl, rfl | rfl | rfl | rfl⟩
    · have hml : (Lib.decDigits m).length ≤ 20 := dec_len20 (by omega)
      go_enter Tryd.func26, Tryd.ntmps26
      go_wp2_with (first | (go_at_call 44; refine (CI.out m _ (by omega) (HB0.out _)).mono ?_) | go_in)
      rintro e w1 ⟨rfl, hb⟩
      have HBw1 := Lib.hid (bthen (HB0.out _) hb)
      have HVw1 := Lib.hid (HV.out.below hb)
      clear hb
      obtain ⟨k0, k1, k2, k3, k4, -⟩ := HVw1.out
      simp only at k0 k1 k2 k3 k4
      have mk := World.block_lt_of_cell? _ _ k0
      go_wp2_with go_in
      go_ret
      refine ⟨?_, HBw1.out⟩
      refine congrArg (fun x => Ending.returned (Value.string x)) (ByteArray.ext ?_)
      simp [lineL, headL, nameL, *]
    · have hml : (Lib.decDigits m).length ≤ 20 := dec_len20 (by omega)
      go_enter Tryd.func26, Tryd.ntmps26
      go_wp2_with (first | (go_at_call 44; refine (CI.out m _ (by omega) (HB0.out _)).mono ?_) | go_in)
      rintro e w1 ⟨rfl, hb⟩
      have HBw1 := Lib.hid (bthen (HB0.out _) hb)
      have HVw1 := Lib.hid (HV.out.below hb)
      clear hb
      obtain ⟨k0, k1, k2, k3, k4, -⟩ := HVw1.out
      simp only at k0 k1 k2 k3 k4
      have mk := World.block_lt_of_cell? _ _ k0
      go_wp2_with go_in
      go_ret
      refine ⟨?_, HBw1.out⟩
      refine congrArg (fun x => Ending.returned (Value.string x)) (ByteArray.ext ?_)
      simp [lineL, headL, nameL, *]
    · have hml : (Lib.decDigits m).length ≤ 20 := dec_len20 (by omega)
      go_enter Tryd.func26, Tryd.ntmps26
      go_wp2_with (first | (go_at_call 44; refine (CI.out m _ (by omega) (HB0.out _)).mono ?_) | go_in)
      rintro e w1 ⟨rfl, hb⟩
      have HBw1 := Lib.hid (bthen (HB0.out _) hb)
      have HVw1 := Lib.hid (HV.out.below hb)
      clear hb
      obtain ⟨k0, k1, k2, k3, k4, -⟩ := HVw1.out
      simp only at k0 k1 k2 k3 k4
      have mk := World.block_lt_of_cell? _ _ k0
      go_wp2_with go_in
      go_ret
      refine ⟨?_, HBw1.out⟩
      refine congrArg (fun x => Ending.returned (Value.string x)) (ByteArray.ext ?_)
      simp [lineL, headL, nameL, *]
    · go_enter Tryd.func26, Tryd.ntmps26
      go_wp2_with go_in
      go_ret
      refine ⟨?_, HB0.out _⟩
      refine congrArg (fun x => Ending.returned (Value.string x)) (ByteArray.ext ?_)
      simp [lineL, headL, nameL, *]
    · go_enter Tryd.func26, Tryd.ntmps26
      go_wp2_with go_in
      go_ret
      refine ⟨?_, HB0.out _⟩
      refine congrArg (fun x => Ending.returned (Value.string x)) (ByteArray.ext ?_)
      simp [lineL, headL, nameL, *]
    · go_enter Tryd.func26, Tryd.ntmps26
      go_wp2_with go_in
      go_ret
      refine ⟨?_, HB0.out _⟩
      refine congrArg (fun x => Ending.returned (Value.string x)) (ByteArray.ext ?_)
      simp [lineL, headL, nameL, *]
    · go_enter Tryd.func26, Tryd.ntmps26
      go_wp2_with go_in
      go_ret
      refine ⟨?_, HB0.out _⟩
      refine congrArg (fun x => Ending.returned (Value.string x)) (ByteArray.ext ?_)
      simp [lineL, headL, nameL, *]
  · have ht1 : ((tn : Int) == 1) = false := by rw [beq_eq_false_iff_ne]; omega
    have ht2 : ¬ (tn : Int) = 1 := by omega
    rcases hcase with ⟨rfl, rfl, m, rfl, hm⟩ | ⟨rfl, rfl | rfl, m, rfl, hm⟩ | ⟨rfl, rfl | rfl | rfl | rfl⟩
    · have hml : (Lib.decDigits m).length ≤ 20 := dec_len20 (by omega)
      have htl := HTL.out
      go_enter Tryd.func26, Tryd.ntmps26
      go_wp2_with (first | (go_at_call 44; refine (CI.out m _ (by omega) (HB0.out _)).mono ?_) | go_in)
      rintro e w1 ⟨rfl, hb⟩
      have HBw1 := Lib.hid (bthen (HB0.out _) hb)
      have HVw1 := Lib.hid (HV.out.below hb)
      clear hb
      obtain ⟨k0, k1, k2, k3, k4, -⟩ := HVw1.out
      simp only at k0 k1 k2 k3 k4
      have mk := World.block_lt_of_cell? _ _ k0
      go_wp2_with (first | (go_at_call 44; refine (CI.out tn _ (by omega) HBw1.out).mono ?_) | go_in)
      rintro e w2 ⟨rfl, hb⟩
      have HBw2 := Lib.hid (bthen HBw1.out hb)
      have HVw2 := Lib.hid (HVw1.out.below hb)
      clear hb
      go_wp2_with go_in
      go_ret
      refine ⟨?_, HBw2.out⟩
      refine congrArg (fun x => Ending.returned (Value.string x)) (ByteArray.ext ?_)
      simp [lineL, headL, nameL, *]
    · have hml : (Lib.decDigits m).length ≤ 20 := dec_len20 (by omega)
      have htl := HTL.out
      go_enter Tryd.func26, Tryd.ntmps26
      go_wp2_with (first | (go_at_call 44; refine (CI.out m _ (by omega) (HB0.out _)).mono ?_) | go_in)
      rintro e w1 ⟨rfl, hb⟩
      have HBw1 := Lib.hid (bthen (HB0.out _) hb)
      have HVw1 := Lib.hid (HV.out.below hb)
      clear hb
      obtain ⟨k0, k1, k2, k3, k4, -⟩ := HVw1.out
      simp only at k0 k1 k2 k3 k4
      have mk := World.block_lt_of_cell? _ _ k0
      go_wp2_with (first | (go_at_call 44; refine (CI.out tn _ (by omega) HBw1.out).mono ?_) | go_in)
      rintro e w2 ⟨rfl, hb⟩
      have HBw2 := Lib.hid (bthen HBw1.out hb)
      have HVw2 := Lib.hid (HVw1.out.below hb)
      clear hb
      go_wp2_with go_in
      go_ret
      refine ⟨?_, HBw2.out⟩
      refine congrArg (fun x => Ending.returned (Value.string x)) (ByteArray.ext ?_)
      simp [lineL, headL, nameL, *]
    · have hml : (Lib.decDigits m).length ≤ 20 := dec_len20 (by omega)
      have htl := HTL.out
      go_enter Tryd.func26, Tryd.ntmps26
      go_wp2_with (first | (go_at_call 44; refine (CI.out m _ (by omega) (HB0.out _)).mono ?_) | go_in)
      rintro e w1 ⟨rfl, hb⟩
      have HBw1 := Lib.hid (bthen (HB0.out _) hb)
      have HVw1 := Lib.hid (HV.out.below hb)
      clear hb
      obtain ⟨k0, k1, k2, k3, k4, -⟩ := HVw1.out
      simp only at k0 k1 k2 k3 k4
      have mk := World.block_lt_of_cell? _ _ k0
      go_wp2_with (first | (go_at_call 44; refine (CI.out tn _ (by omega) HBw1.out).mono ?_) | go_in)
      rintro e w2 ⟨rfl, hb⟩
      have HBw2 := Lib.hid (bthen HBw1.out hb)
      have HVw2 := Lib.hid (HVw1.out.below hb)
      clear hb
      go_wp2_with go_in
      go_ret
      refine ⟨?_, HBw2.out⟩
      refine congrArg (fun x => Ending.returned (Value.string x)) (ByteArray.ext ?_)
      simp [lineL, headL, nameL, *]
    · have htl := HTL.out
      go_enter Tryd.func26, Tryd.ntmps26
      go_wp2_with (first | (go_at_call 44; refine (CI.out tn _ (by omega) (HB0.out _)).mono ?_) | go_in)
      rintro e w2 ⟨rfl, hb⟩
      have HBw2 := Lib.hid (bthen (HB0.out _) hb)
      have HVw2 := Lib.hid (HV.out.below hb)
      clear hb
      go_wp2_with go_in
      go_ret
      refine ⟨?_, HBw2.out⟩
      refine congrArg (fun x => Ending.returned (Value.string x)) (ByteArray.ext ?_)
      simp [lineL, headL, nameL, *]
    · have htl := HTL.out
      go_enter Tryd.func26, Tryd.ntmps26
      go_wp2_with (first | (go_at_call 44; refine (CI.out tn _ (by omega) (HB0.out _)).mono ?_) | go_in)
      rintro e w2 ⟨rfl, hb⟩
      have HBw2 := Lib.hid (bthen (HB0.out _) hb)
      have HVw2 := Lib.hid (HV.out.below hb)
      clear hb
      go_wp2_with go_in
      go_ret
      refine ⟨?_, HBw2.out⟩
      refine congrArg (fun x => Ending.returned (Value.string x)) (ByteArray.ext ?_)
      simp [lineL, headL, nameL, *]
    · have htl := HTL.out
      go_enter Tryd.func26, Tryd.ntmps26
      go_wp2_with (first | (go_at_call 44; refine (CI.out tn _ (by omega) (HB0.out _)).mono ?_) | go_in)
      rintro e w2 ⟨rfl, hb⟩
      have HBw2 := Lib.hid (bthen (HB0.out _) hb)
      have HVw2 := Lib.hid (HV.out.below hb)
      clear hb
      go_wp2_with go_in
      go_ret
      refine ⟨?_, HBw2.out⟩
      refine congrArg (fun x => Ending.returned (Value.string x)) (ByteArray.ext ?_)
      simp [lineL, headL, nameL, *]
    · have htl := HTL.out
      go_enter Tryd.func26, Tryd.ntmps26
      go_wp2_with (first | (go_at_call 44; refine (CI.out tn _ (by omega) (HB0.out _)).mono ?_) | go_in)
      rintro e w2 ⟨rfl, hb⟩
      have HBw2 := Lib.hid (bthen (HB0.out _) hb)
      have HVw2 := Lib.hid (HV.out.below hb)
      clear hb
      go_wp2_with go_in
      go_ret
      refine ⟨?_, HBw2.out⟩
      refine congrArg (fun x => Ending.returned (Value.string x)) (ByteArray.ext ?_)
      simp [lineL, headL, nameL, *]
set_option maxRecDepth 100000 in
set_option maxHeartbeats 32000000 in
theorem line28 (e : Ev) (he : okEv e) (w : World) : Calls Tryd.prog 28 #[e.v] w (Ret (strV (lineL e)) w) := by
  have HB0 : Hid (∀ o, Below w.heap.size w (w.alloc o)) := fun o => balloc (Below.refl w.heap.size w) o
  obtain ⟨thr, who, k, tw, n⟩ := e
  obtain ⟨h1, h2, h3⟩ := he
  simp only at h1 h2 h3
  obtain ⟨tn, rfl⟩ := Int.eq_ofNat_of_zero_le (show 0 ≤ n by omega)
  have HTL : Hid ((Lib.decDigits tn).length ≤ 20) := dec_len20 (by omega)
  have CI : Hid (∀ (m : Nat) W, m ≤ 9223372036854775807 → Below w.heap.size w W → Calls Tryd.prog 46 #[.int .u64 m] W (Ret (strV (Lib.decDigits m)) W)) := fun m W hm hW => digits46 m (by omega) W
  have HV := Lib.hid (VarE.made w ⟨thr, who, k, tw, tn⟩)
  simp only at HV
  have hcase : (thr = true ∧ k = 0 ∧ ∃ m : Nat, who = m ∧ m < 4) ∨ (thr = false ∧ (k = 2 ∨ k = 3) ∧ ∃ m : Nat, tw = m ∧ m < 4) ∨ (thr = false ∧ (k = 1 ∨ k = 4 ∨ k = 5 ∨ k = 6)) := by
    cases thr with
    | true => exact .inl ⟨rfl, by simp at h3; omega, who.toNat, by simp at h3; omega, by simp at h3; omega⟩
    | false =>
      simp only [Bool.false_eq_true, if_false] at h3
      by_cases hk : k = 2 ∨ k = 3
      · rw [if_pos hk] at h3
        exact .inr (.inl ⟨rfl, hk, tw.toNat, by omega, by omega⟩)
      · rw [if_neg hk] at h3
        exact .inr (.inr ⟨rfl, h3.2.1⟩)
  unfold strV at CI ⊢
  unfold Ev.v
  simp only
  clear h3
  by_cases ht : tn = 1
  · subst ht
    rcases hcase with ⟨rfl, rfl, m, rfl, hm⟩ | ⟨rfl, rfl | rfl, m, rfl, hm⟩ | ⟨rfl, rfl | rfl | rfl | rfl⟩
    · have hml : (Lib.decDigits m).length ≤ 20 := dec_len20 (by omega)
      go_enter Tryd.func28, Tryd.ntmps28
      go_wp2_with (first | (go_at_call 46; refine (CI.out m _ (by omega) (HB0.out _)).mono ?_) | go_in)
      rintro e w1 ⟨rfl, hb⟩
      have HBw1 := Lib.hid (bthen (HB0.out _) hb)
      have HVw1 := Lib.hid (HV.out.below hb)
      clear hb
      obtain ⟨k0, k1, k2, k3, k4, -⟩ := HVw1.out
      simp only at k0 k1 k2 k3 k4
      have mk := World.block_lt_of_cell? _ _ k0
      go_wp2_with go_in
      go_ret
      refine ⟨?_, HBw1.out⟩
      refine congrArg (fun x => Ending.returned (Value.string x)) (ByteArray.ext ?_)
      simp [lineL, headL, nameL, *]
    · have hml : (Lib.decDigits m).length ≤ 20 := dec_len20 (by omega)
      go_enter Tryd.func28, Tryd.ntmps28
      go_wp2_with (first | (go_at_call 46; refine (CI.out m _ (by omega) (HB0.out _)).mono ?_) | go_in)
      rintro e w1 ⟨rfl, hb⟩
      have HBw1 := Lib.hid (bthen (HB0.out _) hb)
      have HVw1 := Lib.hid (HV.out.below hb)
      clear hb
      obtain ⟨k0, k1, k2, k3, k4, -⟩ := HVw1.out
      simp only at k0 k1 k2 k3 k4
      have mk := World.block_lt_of_cell? _ _ k0
      go_wp2_with go_in
      go_ret
      refine ⟨?_, HBw1.out⟩
      refine congrArg (fun x => Ending.returned (Value.string x)) (ByteArray.ext ?_)
      simp [lineL, headL, nameL, *]
    · have hml : (Lib.decDigits m).length ≤ 20 := dec_len20 (by omega)
      go_enter Tryd.func28, Tryd.ntmps28
      go_wp2_with (first | (go_at_call 46; refine (CI.out m _ (by omega) (HB0.out _)).mono ?_) | go_in)
      rintro e w1 ⟨rfl, hb⟩
      have HBw1 := Lib.hid (bthen (HB0.out _) hb)
      have HVw1 := Lib.hid (HV.out.below hb)
      clear hb
      obtain ⟨k0, k1, k2, k3, k4, -⟩ := HVw1.out
      simp only at k0 k1 k2 k3 k4
      have mk := World.block_lt_of_cell? _ _ k0
      go_wp2_with go_in
      go_ret
      refine ⟨?_, HBw1.out⟩
      refine congrArg (fun x => Ending.returned (Value.string x)) (ByteArray.ext ?_)
      simp [lineL, headL, nameL, *]
    · go_enter Tryd.func28, Tryd.ntmps28
      go_wp2_with go_in
      go_ret
      refine ⟨?_, HB0.out _⟩
      refine congrArg (fun x => Ending.returned (Value.string x)) (ByteArray.ext ?_)
      simp [lineL, headL, nameL, *]
    · go_enter Tryd.func28, Tryd.ntmps28
      go_wp2_with go_in
      go_ret
      refine ⟨?_, HB0.out _⟩
      refine congrArg (fun x => Ending.returned (Value.string x)) (ByteArray.ext ?_)
      simp [lineL, headL, nameL, *]
    · go_enter Tryd.func28, Tryd.ntmps28
      go_wp2_with go_in
      go_ret
      refine ⟨?_, HB0.out _⟩
      refine congrArg (fun x => Ending.returned (Value.string x)) (ByteArray.ext ?_)
      simp [lineL, headL, nameL, *]
    · go_enter Tryd.func28, Tryd.ntmps28
      go_wp2_with go_in
      go_ret
      refine ⟨?_, HB0.out _⟩
      refine congrArg (fun x => Ending.returned (Value.string x)) (ByteArray.ext ?_)
      simp [lineL, headL, nameL, *]
  · have ht1 : ((tn : Int) == 1) = false := by rw [beq_eq_false_iff_ne]; omega
    have ht2 : ¬ (tn : Int) = 1 := by omega
    rcases hcase with ⟨rfl, rfl, m, rfl, hm⟩ | ⟨rfl, rfl | rfl, m, rfl, hm⟩ | ⟨rfl, rfl | rfl | rfl | rfl⟩
    · have hml : (Lib.decDigits m).length ≤ 20 := dec_len20 (by omega)
      have htl := HTL.out
      go_enter Tryd.func28, Tryd.ntmps28
      go_wp2_with (first | (go_at_call 46; refine (CI.out m _ (by omega) (HB0.out _)).mono ?_) | go_in)
      rintro e w1 ⟨rfl, hb⟩
      have HBw1 := Lib.hid (bthen (HB0.out _) hb)
      have HVw1 := Lib.hid (HV.out.below hb)
      clear hb
      obtain ⟨k0, k1, k2, k3, k4, -⟩ := HVw1.out
      simp only at k0 k1 k2 k3 k4
      have mk := World.block_lt_of_cell? _ _ k0
      go_wp2_with (first | (go_at_call 46; refine (CI.out tn _ (by omega) HBw1.out).mono ?_) | go_in)
      rintro e w2 ⟨rfl, hb⟩
      have HBw2 := Lib.hid (bthen HBw1.out hb)
      have HVw2 := Lib.hid (HVw1.out.below hb)
      clear hb
      go_wp2_with go_in
      go_ret
      refine ⟨?_, HBw2.out⟩
      refine congrArg (fun x => Ending.returned (Value.string x)) (ByteArray.ext ?_)
      simp [lineL, headL, nameL, *]
    · have hml : (Lib.decDigits m).length ≤ 20 := dec_len20 (by omega)
      have htl := HTL.out
      go_enter Tryd.func28, Tryd.ntmps28
      go_wp2_with (first | (go_at_call 46; refine (CI.out m _ (by omega) (HB0.out _)).mono ?_) | go_in)
      rintro e w1 ⟨rfl, hb⟩
      have HBw1 := Lib.hid (bthen (HB0.out _) hb)
      have HVw1 := Lib.hid (HV.out.below hb)
      clear hb
      obtain ⟨k0, k1, k2, k3, k4, -⟩ := HVw1.out
      simp only at k0 k1 k2 k3 k4
      have mk := World.block_lt_of_cell? _ _ k0
      go_wp2_with (first | (go_at_call 46; refine (CI.out tn _ (by omega) HBw1.out).mono ?_) | go_in)
      rintro e w2 ⟨rfl, hb⟩
      have HBw2 := Lib.hid (bthen HBw1.out hb)
      have HVw2 := Lib.hid (HVw1.out.below hb)
      clear hb
      go_wp2_with go_in
      go_ret
      refine ⟨?_, HBw2.out⟩
      refine congrArg (fun x => Ending.returned (Value.string x)) (ByteArray.ext ?_)
      simp [lineL, headL, nameL, *]
    · have hml : (Lib.decDigits m).length ≤ 20 := dec_len20 (by omega)
      have htl := HTL.out
      go_enter Tryd.func28, Tryd.ntmps28
      go_wp2_with (first | (go_at_call 46; refine (CI.out m _ (by omega) (HB0.out _)).mono ?_) | go_in)
      rintro e w1 ⟨rfl, hb⟩
      have HBw1 := Lib.hid (bthen (HB0.out _) hb)
      have HVw1 := Lib.hid (HV.out.below hb)
      clear hb
      obtain ⟨k0, k1, k2, k3, k4, -⟩ := HVw1.out
      simp only at k0 k1 k2 k3 k4
      have mk := World.block_lt_of_cell? _ _ k0
      go_wp2_with (first | (go_at_call 46; refine (CI.out tn _ (by omega) HBw1.out).mono ?_) | go_in)
      rintro e w2 ⟨rfl, hb⟩
      have HBw2 := Lib.hid (bthen HBw1.out hb)
      have HVw2 := Lib.hid (HVw1.out.below hb)
      clear hb
      go_wp2_with go_in
      go_ret
      refine ⟨?_, HBw2.out⟩
      refine congrArg (fun x => Ending.returned (Value.string x)) (ByteArray.ext ?_)
      simp [lineL, headL, nameL, *]
    · have htl := HTL.out
      go_enter Tryd.func28, Tryd.ntmps28
      go_wp2_with (first | (go_at_call 46; refine (CI.out tn _ (by omega) (HB0.out _)).mono ?_) | go_in)
      rintro e w2 ⟨rfl, hb⟩
      have HBw2 := Lib.hid (bthen (HB0.out _) hb)
      have HVw2 := Lib.hid (HV.out.below hb)
      clear hb
      go_wp2_with go_in
      go_ret
      refine ⟨?_, HBw2.out⟩
      refine congrArg (fun x => Ending.returned (Value.string x)) (ByteArray.ext ?_)
      simp [lineL, headL, nameL, *]
    · have htl := HTL.out
      go_enter Tryd.func28, Tryd.ntmps28
      go_wp2_with (first | (go_at_call 46; refine (CI.out tn _ (by omega) (HB0.out _)).mono ?_) | go_in)
      rintro e w2 ⟨rfl, hb⟩
      have HBw2 := Lib.hid (bthen (HB0.out _) hb)
      have HVw2 := Lib.hid (HV.out.below hb)
      clear hb
      go_wp2_with go_in
      go_ret
      refine ⟨?_, HBw2.out⟩
      refine congrArg (fun x => Ending.returned (Value.string x)) (ByteArray.ext ?_)
      simp [lineL, headL, nameL, *]
    · have htl := HTL.out
      go_enter Tryd.func28, Tryd.ntmps28
      go_wp2_with (first | (go_at_call 46; refine (CI.out tn _ (by omega) (HB0.out _)).mono ?_) | go_in)
      rintro e w2 ⟨rfl, hb⟩
      have HBw2 := Lib.hid (bthen (HB0.out _) hb)
      have HVw2 := Lib.hid (HV.out.below hb)
      clear hb
      go_wp2_with go_in
      go_ret
      refine ⟨?_, HBw2.out⟩
      refine congrArg (fun x => Ending.returned (Value.string x)) (ByteArray.ext ?_)
      simp [lineL, headL, nameL, *]
    · have htl := HTL.out
      go_enter Tryd.func28, Tryd.ntmps28
      go_wp2_with (first | (go_at_call 46; refine (CI.out tn _ (by omega) (HB0.out _)).mono ?_) | go_in)
      rintro e w2 ⟨rfl, hb⟩
      have HBw2 := Lib.hid (bthen (HB0.out _) hb)
      have HVw2 := Lib.hid (HV.out.below hb)
      clear hb
      go_wp2_with go_in
      go_ret
      refine ⟨?_, HBw2.out⟩
      refine congrArg (fun x => Ending.returned (Value.string x)) (ByteArray.ext ?_)
      simp [lineL, headL, nameL, *]
end Go.Proofs.YtfgeomdfgjefdaaDoor
