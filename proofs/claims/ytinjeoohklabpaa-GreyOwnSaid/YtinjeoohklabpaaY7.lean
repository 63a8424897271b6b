/- The walk of slices.Sort on words. -/
import Derived.Test.YtinjeoohklabpaaY6
namespace Go.Proofs.Ytinjeoohklabpaa
open Go.RowKit Go.Sort
set_option linter.unusedVariables false
set_option linter.unusedSimpArgs false

set_option maxRecDepth 100000 in
theorem ins_empty (A : Option Addr) (c : Nat) (w : World) : Calls Try.prog 42 #[.slice A 0 c, .int .i64 0, .int .i64 0] w (RowKit.Below w.heap.size w |> fun B e w' => e = .returned (.tuple #[]) ∧ B w') := by
  go_enter Try.func42, Try.ntmps42
  go_wp2
  go_loopw [6] (fun i wr => i = .int .i64 1 ∧ Hid (RowKit.Below w.heap.size w wr)) (fun i _ => 0)
  case atStart => exact ⟨rfl, RowKit.Below.refl _ _⟩
  case round =>
    obtain ⟨rfl, HB⟩ := hrel
    go_wp2
    go_end0
    exact ⟨rfl, HB.out⟩
set_option maxRecDepth 100000 in
theorem pdq_empty (A : Option Addr) (c l : Nat) (w : World) (hl : l ≤ 1000) : Calls Try.prog 38 #[.slice A 0 c, .int .i64 0, .int .i64 0, .int .i64 l] w (fun e w' => e = .returned (.tuple #[]) ∧ RowKit.Below w.heap.size w w') := by
  have CI : Hid (∀ W, Calls Try.prog 42 #[.slice A 0 c, .int .i64 0, .int .i64 0] W (fun e w' => e = .returned (.tuple #[]) ∧ RowKit.Below W.heap.size W w')) := fun W => ins_empty A c W
  go_enter Try.func38, Try.ntmps38
  go_wp2
  go_loopw [1, 2, 3, 8, 9] (fun va vb vl v8 v9 wr => va = .int .i64 0 ∧ vb = .int .i64 0 ∧ Hid (RowKit.Below w.heap.size w wr)) (fun va vb vl v8 v9 _ => 0)
  case atStart => exact ⟨rfl, rfl, RowKit.Below.refl _ _⟩
  case round =>
    obtain ⟨rfl, rfl, HB⟩ := hrel
    go_wp2_with (go_at_call 42; refine (CI.out _).mono ?_)
    rintro e w2 ⟨rfl, hb2⟩
    have HB2 := Lib.hid (bthen HB.out hb2)
    clear hb2
    go_wp2
    refine bodyPost_ret (results_none rfl _ _ _) rfl ?_
    exact ⟨rfl, HB2.out⟩
/-- What Sort leaves. -/
def SortP (A : Option Addr) (l : List Int) (v : Value) (w : World) (e : Ending) (w' : World) : Prop := ∃ l' : List Int, e = .returned (.tuple #[]) ∧ l'.length = l.length ∧ RdU w' A l' ∧ w.grownBy w' v.ownBlock ∧ l'.Perm l ∧ l'.Pairwise (· ≤ ·)
theorem hu_of {w : World} {base g cap : Nat} {l : List Int} (h : OwU w base (.slice (some ⟨g, 0, none⟩) l.length cap) l) : HU w g l.toArray := fun j hj => by
  have hj' : j < l.length := by simpa using hj
  have hu : (us l)[j]? = some (.int .u64 l.toArray[j]!) := by
    rw [us_get l j l[j] (List.getElem?_eq_getElem hj')]
    simp [hj']
  exact own_cell h hu
theorem rd_of {w : World} {g : Nat} {d : Array Int} (h : HU w g d) (hs : d.size ≤ 1000000) : RdU w (some ⟨g, 0, none⟩) d.toList := by
  refine ⟨by simp [us], by simp; omega, fun hn => ⟨g, 0, rfl, h.lt (by simpa using hn), fun j v hv => ?_⟩⟩
  have hj : j < d.size := by
    have := (List.getElem?_eq_some_iff.1 hv).1
    simpa [us] using this
  have h1 := (h j hj).1
  rw [Nat.zero_add, h1]
  have h2 := us_get d.toList j d[j] (by simp [hj])
  rw [h2] at hv
  rw [← hv]
  simp [hj]
theorem sorted_pair {d : Array Int} (h : SortedIn ltInt 0 d.size d) : d.toList.Pairwise (· ≤ ·) := by
  rw [List.pairwise_iff_getElem]
  intro i j hi hj hij
  have hi' : i < d.size := by simpa using hi
  have hj' : j < d.size := by simpa using hj
  have := h i j (Nat.zero_le _) hij hj'
  simp only [ltInt, decide_eq_false_iff_not] at this
  rw [getElem!_pos d i hi', getElem!_pos d j hj'] at this
  simp only [Array.getElem_toList]
  omega
theorem perm_list {d d' : Array Int} (h : PermIn 0 d.size d d') : d'.toList.Perm d.toList := by
  obtain ⟨h1, _, h3⟩ := h
  rw [show d'.extract 0 d.size = d' from by rw [← h1]; simp, show d.extract 0 d.size = d from by simp] at h3
  exact h3
set_option maxRecDepth 100000 in
set_option maxHeartbeats 8000000 in
theorem sortU (l : List Int) (v : Value) (base : Nat) (w : World) (ho : OwU w base v l) (hlen : l.length ≤ 100000) : ∃ A c, v = .slice A l.length c ∧ Calls Try.prog 30 #[.slice A l.length c] w (SortP A l v w) := by
  obtain ⟨A, c, rfl, hlc, hr⟩ := ho.shape
  refine ⟨A, c, rfl, ?_⟩
  have CL : Hid (∀ (x : Nat) (W : World), x ≤ 1000000 → Calls Try.prog 39 #[.int .u64 x] W fun e w' => e = .returned (.int .i64 (bitsLen x : Nat)) ∧ w' = W) := fun x W h => len_u x W h
  have hbl : ∀ x : Nat, x ≤ 1000000 → bitsLen x ≤ 1000 := fun x hx => by
    unfold bitsLen
    split
    · omega
    · have : Nat.log2 x < 20 := (Nat.log2_lt (by omega)).2 (by omega)
      omega
  rcases Nat.eq_zero_or_pos l.length with h0 | h0
  · obtain rfl := List.eq_nil_of_length_eq_zero h0
    have CP : Hid (∀ (x : Nat) W, x ≤ 1000 → Calls Try.prog 38 #[.slice A 0 c, .int .i64 0, .int .i64 0, .int .i64 x] W (fun e w' => e = .returned (.tuple #[]) ∧ RowKit.Below W.heap.size W w')) := fun x W h => pdq_empty A c x W h
    have HBL := Lib.hid hbl
    simp only [List.length_nil]
    clear ho hr hbl
    go_enter Try.func30, Try.ntmps30
    go_wp2_with (go_at_call 39; refine (CL.out 0 _ (by omega)).mono ?_)
    rintro e w1 ⟨rfl, rfl⟩
    go_wp2_with (go_at_call 38; refine (CP.out (bitsLen 0) _ (HBL.out 0 (by omega))).mono ?_)
    rintro e w2 ⟨rfl, hb2⟩
    have HB2 := Lib.hid hb2
    clear hb2
    go_wp2
    go_end0
    exact ⟨[], rfl, rfl, RdU.nil_ _ _, gbelow HB2.out _, List.Perm.refl _, List.Pairwise.nil⟩
  · obtain ⟨g, rfl⟩ := own_form ho h0
    have CP : Hid (∀ (x : Nat), x ≤ 1000 → Calls Try.prog 38 #[.slice (some ⟨g, 0, none⟩) l.length c, .int .i64 0, .int .i64 l.length, .int .i64 x] w (Srt (fun R => PS 0 l.length l.toArray R) (.tuple #[]) g w)) := fun x hx =>
      pdq_u64 g c l.length (by omega) l.length 0 l.length x l.toArray w (by omega) (by simp) (hu_of ho) (Nat.zero_le _) (Nat.le_refl _) hx (.inl rfl)
    have HBL := Lib.hid hbl
    have hlb : l.length ≤ 1000000 := by omega
    clear ho hr hbl
    go_enter Try.func30, Try.ntmps30
    go_wp2_with (go_at_call 39; refine (CL.out l.length _ hlb).mono ?_)
    rintro e w1 ⟨rfl, rfl⟩
    go_wp2_with (go_at_call 38; refine (CP.out (bitsLen l.length) (HBL.out l.length hlb)).mono ?_)
    rintro e w2 ⟨d', hps, rfl, hh2, hg2⟩
    have HP := Lib.hid hps
    have HH2 := Lib.hid hh2
    have HG2 := Lib.hid hg2
    clear hps hh2 hg2
    go_wp2
    go_end0
    have hsz : d'.size = l.length := by have := HP.out.1.1; simpa using this
    have hpm : d'.toList.Perm l := by
      have h1 := HP.out.1
      have := perm_list (d := l.toArray) (d' := d') (by simpa using h1)
      simpa using this
    exact ⟨d'.toList, rfl, by simpa using hsz, rd_of HH2.out (by omega), HG2.out, hpm, sorted_pair (by rw [hsz]; exact HP.out.2)⟩
end Go.Proofs.Ytinjeoohklabpaa
