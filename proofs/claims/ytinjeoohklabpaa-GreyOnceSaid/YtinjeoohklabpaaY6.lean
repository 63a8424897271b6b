/- The walk of slices.Compact at numbers: those that are as the one ahead of them go, in place. -/
import Derived.Test.YtinjeoohklabpaaY5
import Derived.StillTactics
namespace Go.Proofs.Ytinjeoohklabpaa
open Go.RowKit
set_option linter.unusedVariables false
set_option linter.unusedSimpArgs false

/-! ### Without those that are as the one ahead -/
def ddGo (p : Int) : List Int → List Int
  | [] => []
  | y :: r => if y = p then ddGo p r else y :: ddGo y r
def ddP : List Int → List Int
  | [] => []
  | x :: r => x :: ddGo x r
theorem ddGo_snoc : ∀ (l : List Int) (p y q : Int), (p :: l).getLast? = some q → ddGo p (l ++ [y]) = if y = q then ddGo p l else ddGo p l ++ [y]
  | [], p, y, q, h => by
    simp at h
    subst h
    simp [ddGo]
  | x :: l, p, y, q, h => by
    simp only [List.cons_append, ddGo]
    have h' : (x :: l).getLast? = some q := by simpa using h
    by_cases hx : x = p
    · subst hx
      simp only [if_true]
      exact ddGo_snoc l x y q h'
    · simp only [if_neg hx]
      rw [ddGo_snoc l x y q h']
      split <;> simp
theorem ddP_snoc {l : List Int} {y q : Int} (h : l.getLast? = some q) : ddP (l ++ [y]) = if y = q then ddP l else ddP l ++ [y] := by
  cases l with
  | nil => simp at h
  | cons x r =>
    simp only [List.cons_append, ddP]
    rw [ddGo_snoc r x y q h]
    split <;> simp
theorem take_last {l : List Int} {j : Nat} (h1 : 0 < j) (h2 : j ≤ l.length) : (l.take j).getLast? = l[j - 1]? := by
  rw [List.getLast?_eq_getElem?, List.length_take, Nat.min_eq_left h2, List.getElem?_take, if_pos (by omega)]
theorem dd_step {l : List Int} {j : Nat} (h1 : 0 < j) (h2 : j < l.length) {y q : Int} (hy : l[j]? = some y) (hq : l[j - 1]? = some q) : ddP (l.take (j + 1)) = if y = q then ddP (l.take j) else ddP (l.take j) ++ [y] := by
  have e : l.take (j + 1) = l.take j ++ [y] := by
    rw [List.take_add_one, hy]
    rfl
  rw [e]
  exact ddP_snoc (by rw [take_last h1 (by omega)]; exact hq)
theorem dd_one {l : List Int} (h : 0 < l.length) : ddP (l.take 1) = l.take 1 := by
  cases l with
  | nil => simp at h
  | cons x r => simp [ddP, ddGo]
theorem dd_short {l : List Int} (h : l.length < 2) : ddP l = l := by
  match l, h with
  | [], _ => rfl
  | [x], _ => rfl

def RetC (base : Nat) (u : Value) (l : List Int) (w : World) (e : Ending) (w' : World) : Prop := ∃ v, e = .returned v ∧ OwU w' base v l ∧ w.grownBy w' u.ownBlock

/-- How far the writing has come: j are read, i are written. -/
structure Cmp (l l' : List Int) (i j : Nat) : Prop where
  len : l'.length = l.length
  ij : i < j
  jn : j ≤ l.length
  front : l'.take i = ddP (l.take j)
  back : ∀ m, j - 1 ≤ m → l'[m]? = l[m]?

theorem us_set (l : List Int) (i : Nat) (hi : i < l.length) (y : Int) : (us l).take i ++ [.int .u64 y] ++ (us l).drop (i + 1) = us (l.set i y) := by
  unfold us
  rw [List.map_set, List.set_eq_take_append_cons_drop, if_pos (by simpa using hi)]
  simp
theorem Cmp.start {l : List Int} {k : Nat} (h : k < l.length) (h2 : ddP (l.take (k + 1)) = ddP (l.take k)) (h3 : ddP (l.take k) = l.take k) : Cmp l l k (k + 1) :=
  ⟨rfl, by omega, by omega, by rw [h2, h3], fun _ _ => rfl⟩
theorem Cmp.same {l l' : List Int} {i j : Nat} (h : Cmp l l' i j) (hj : j < l.length) {y q : Int} (h0 : 0 < j) (hy : l[j]? = some y) (hq : l[j - 1]? = some q) (e : y = q) : Cmp l l' i (j + 1) :=
  ⟨h.len, by have := h.ij; omega, by omega, by rw [h.front, dd_step h0 hj hy hq, if_pos e], fun m hm => h.back m (by omega)⟩
theorem Cmp.put {l l' : List Int} {i j : Nat} (h : Cmp l l' i j) (hj : j < l.length) {y q : Int} (h0 : 0 < j) (hy : l[j]? = some y) (hq : l[j - 1]? = some q) (e : ¬ y = q) : Cmp l (l'.set i y) (i + 1) (j + 1) := by
  have hij := h.ij
  have hlen := h.len
  refine ⟨by rw [List.length_set]; exact h.len, by omega, by omega, ?_, fun m hm => ?_⟩
  · rw [dd_step h0 hj hy hq, if_neg e, ← h.front, List.take_succ_eq_append_getElem (by rw [List.length_set]; omega), List.take_set_of_le (by omega)]
    simp
  · rw [List.getElem?_set_ne (by omega)]
    exact h.back m (by omega)

set_option maxHeartbeats 4000000 in
theorem compact29 (l : List Int) (v : Value) (base : Nat) (w : World) (ho : OwU w base v l) (hbase : base ≤ w.heap.size) (hlen : l.length ≤ 1000000000) :
    Calls Try.prog 31 #[v] w (RetC base v (ddP l) w) := by
  obtain ⟨A, c, rfl, hlc, hr⟩ := ho.shape
  have HO := Lib.hid ho
  by_cases hsh : l.length < 2
  · have E := Lib.hid (dd_short hsh)
    rw [E.out]
    clear ho hr
    go_enter Try.func31, Try.ntmps31
    go_wp2
    go_ret
    exact ⟨_, rfl, HO.out, World.grownBy.refl w _⟩
  · rcases ho.2 with ⟨_, h0⟩ | ⟨g, c', cur, hv, hbg, hgh, hnc, hcm, _, _⟩
    · omega
    simp only [Value.slice.injEq, true_and] at hv
    obtain ⟨rfl, rfl⟩ := hv
    clear ho hr hgh
    have hcm' : c ≤ 9223372036854775807 := by simp only [maxLen] at hcm; omega
    go_enter Try.func31, Try.ntmps31
    go_wp2
    go_loopw [3] (fun i wr => ∃ k : Nat, 1 ≤ k ∧ k ≤ l.length ∧ i = .int .i64 k ∧ Hid (ddP (l.take k) = l.take k) ∧ ∃ n, Hid (wr = w.drewN n)) (fun i _ => l.length - (intOf i).toNat)
    case atStart => exact ⟨1, by omega, by omega, rfl, dd_one (by omega), 0, rfl⟩
    case round =>
      obtain ⟨k, hk1, hk, rfl, HD, nd, HW⟩ := hrel
      by_cases hlt : k < l.length
      · obtain ⟨n, HE⟩ : ∃ n : Nat, Hid (k = n + 1) := ⟨k - 1, by show _ = _; omega⟩
        have hn : n < l.length := by have := HE.out; omega
        have hw1 : IntKind.i64.wrap ((k : Int) - 1) = (n : Int) := by rw [IntKind.wrap_i64]; have := HE.out; omega
        have hi2 : (n : Int) < (l.length : Int) := by omega
        have hi1 : (k : Int) < (l.length : Int) := by omega
        have hOW : Hid (OwU wr base (.slice (some ⟨g, 0, none⟩) l.length c) l) := by show OwU _ _ _ _; rw [HW.out]; exact own_below HO.out (bdrewN (Below.refl _ _) _)
        have hRD : RdU wr (some ⟨g, 0, none⟩) l := own_rd hOW.out
        obtain ⟨b1, o1, e1, _, c1⟩ := hRD.at_ (List.getElem?_eq_getElem hlt)
        obtain ⟨b2, o2, e2, _, c2⟩ := hRD.at_ (List.getElem?_eq_getElem hn)
        simp only [Option.some.injEq, Addr.mk.injEq, and_true] at e1 e2
        obtain ⟨rfl, rfl⟩ := e1
        obtain ⟨rfl, rfl⟩ := e2
        simp only [Nat.zero_add] at c1 c2
        have STEP : Hid (ddP (l.take (k + 1)) = if l[k] = l[n] then ddP (l.take k) else ddP (l.take k) ++ [l[k]]) :=
          dd_step (by omega) hlt (List.getElem?_eq_getElem hlt) (by have := HE.out; subst this; exact List.getElem?_eq_getElem hn)
        have TK : Hid (l.take (k + 1) = l.take k ++ [l[k]]) := List.take_succ_eq_append_getElem hlt
        clear hRD
        cases hq : l[k] == l[n] with
        | false =>
          have NX : Hid (ddP (l.take (k + 1)) = l.take (k + 1)) := by
            show _ = _
            rw [STEP.out, if_neg (by simpa using hq), HD.out, TK.out]
          clear STEP TK
          generalize l[k] = y at *
          generalize l[n] = q at *
          go_wp2
          go_still (by kernel_rfl)
          clear hw1
          go_wp2
          go_roundw
          case rel => exact ⟨k + 1, by omega, by omega, by go_num, NX.out, nd + 1, by show _ = _; rw [HW.out]; rfl⟩
          case measure => simp [intOf]; omega
        | true =>
          have HC0 : Hid (Cmp l l k (k + 1)) := Cmp.start hlt (by rw [STEP.out, if_pos (by simpa using hq)]) HD.out
          have HGW : Hid (w.grownBy wr (some g)) := by show World.grownBy _ _ _; rw [HW.out]; exact gbelow (bdrewN (Below.refl _ _) _) _
          clear STEP TK HD
          generalize l[k] = y at *
          generalize l[n] = q at *
          have hck : ¬ c = k := by omega
          have hkc : k ≤ c := by omega
          go_wp2
          go_still (by kernel_rfl)
          clear hw1 hq c1 c2 hi1 hi2 HE
          obtain ⟨wo, rfl⟩ : ∃ wo : World, wo = wr := ⟨_, rfl⟩
          go_wp2
          go_loopw [3, 5] (fun i j wi => ∃ (a b : Nat) (l' : List Int), i = .int .i64 a ∧ j = .int .i64 b ∧ 1 ≤ b ∧ a < k + b ∧ k + b ≤ l.length ∧ Hid (Cmp l l' a (k + b)) ∧ Hid (OwU wi base (.slice (some ⟨g, 0, none⟩) l.length c) l') ∧ Hid (w.grownBy wi (some g))) (fun _ j _ => l.length - (intOf j).toNat)
          case atStart => exact ⟨k, 1, l, rfl, rfl, by omega, by omega, by omega, HC0.out, World.ownsRow.drew hOW.out, gdrew HGW.out⟩
          case round =>
            obtain ⟨a, b, l', rfl, rfl, hb1, hab, hkb, HC, HO2, HG2⟩ := hrel
            clear HC0 HGW hOW HW HO
            have HOR : Hid (wr.ownsRow base 30 1 (.slice (some ⟨g, 0, none⟩) l.length c) l.length (us l')) := by
              show World.ownsRow _ _ _ _ _ _ _
              have h := HO2.out
              unfold OwU at h
              rw [HC.out.len] at h
              exact h
            by_cases hlb : b < l.length - k
            · obtain ⟨n1, HE⟩ : ∃ n1 : Nat, Hid (b = n1 + 1) := ⟨b - 1, by show _ = _; omega⟩
              have hkl : k + b < l.length := by omega
              have hn1 : k + n1 < l.length := by have := HE.out; omega
              have hy : l[k + b]? = some l[k + b] := List.getElem?_eq_getElem hkl
              have hq : l[k + b - 1]? = some l[k + n1] := by have := HE.out; subst this; exact List.getElem?_eq_getElem hn1
              have c1 : wr.cell? ⟨g, k + b, none⟩ = some (.int .u64 l[k + b]) := by
                rw [HOR.out.cellAt (k + b) (by omega)]
                exact us_get _ _ _ ((HC.out.back _ (by omega)).trans hy)
              have c2 : wr.cell? ⟨g, k + n1, none⟩ = some (.int .u64 l[k + n1]) := by
                rw [HOR.out.cellAt (k + n1) (by omega)]
                exact us_get _ _ _ ((HC.out.back _ (by have := HE.out; omega)).trans (List.getElem?_eq_getElem hn1))
              have SAME := Lib.hid (fun e => HC.out.same hkl (by omega) hy hq e)
              have PUT := Lib.hid (fun e => HC.out.put hkl (by omega) hy hq e)
              clear hy hq
              have hw1 : IntKind.i64.wrap ((b : Int) - 1) = (n1 : Int) := by rw [IntKind.wrap_i64]; have := HE.out; omega
              have hi1 : (b : Int) < ((l.length - k : Nat) : Int) := by omega
              have hi2 : (n1 : Int) < ((l.length - k : Nat) : Int) := by have := HE.out; omega
              have hi3 : n1 < l.length - k := by have := HE.out; omega
              generalize l[k + b] = y' at *
              generalize l[k + n1] = q' at *
              cases hyq : y' == q' with
              | true =>
                have S := Lib.hid (SAME.out (by simpa using hyq))
                clear SAME PUT
                go_wp2
                go_still (by kernel_rfl)
                clear hw1 hi1 hi2 hi3 hn1
                go_wp2
                go_roundw
                case rel => exact ⟨a, b + 1, l', rfl, by go_num, by omega, by omega, by omega, S.out, World.ownsRow.drew HO2.out, gdrew HG2.out⟩
                case measure => simp [intOf]; omega
              | false =>
                have S := Lib.hid (PUT.out (by simpa using hyq))
                clear SAME PUT
                have hal : a < l.length := by omega
                obtain ⟨i23, hi23, _, hs23, _⟩ := info_parts infoU
                have HI := Lib.hid hi23
                have HS := Lib.hid hs23
                clear hi23 hs23
                go_wp2
                go_still (by kernel_rfl)
                clear hw1 hi2 hi3 hn1
                go_wp2_with (refine wpl_store_own rfl 30 (.tmp 51) (.tmp 50) rfl base 30 1 i23 HI.out HS.out g l.length c (us l') HOR.out.drew a rfl (.int .u64 y') rfl rfl ?h1 ?h2 ?_)
                case h1 => omega
                case h2 => exact us_one [y']
                intro w2 ho2 hg2
                have hal' : a < l'.length := by rw [HC.out.len]; exact hal
                have O2 : Hid (OwU w2 base (.slice (some ⟨g, 0, none⟩) l.length c) (l'.set a y')) := by
                  show World.ownsRow _ _ _ _ _ _ _
                  rw [List.length_set, HC.out.len, ← us_set l' a hal' y']
                  simpa using ho2
                have G2 := Lib.hid (gtrans (gdrew HG2.out) hg2)
                clear ho2 hg2 hal'
                go_wp2
                go_roundw
                case rel => exact ⟨a + 1, b + 1, l'.set a y', by go_num, by go_num, by omega, by omega, by omega, S.out, O2.out, G2.out⟩
                case measure => simp [intOf]; omega
            · have hac : ¬ c = a := by omega
              have hal : a ≤ l.length := by omega
              have hbn : k + b = l.length := by omega
              have HBN := Lib.hid hbn
              clear hbn
              go_wp2_with (refine wpl_clear_own rfl (.tmp 56) 25 rfl base 30 1 _ Try.underlying25 Try.zeroValue30 rfl (us_one [0]) g l.length c (us l') HOR.out _ a (l.length - a) _ rfl ?h1 ?h2 ?_)
              case h1 => simp
              case h2 => omega
              intro w2 zs hz ho2 hg2
              have E : Hid (l'.take a = ddP l) := by
                show _ = _
                have h := HC.out.front
                rw [HBN.out, List.take_length] at h
                exact h
              have O2 : Hid (OwU w2 base (.slice (some ⟨g, 0, none⟩) a c) (ddP l)) := by
                have h := own_cut ho2 a hal
                show w2.ownsRow base 30 1 _ (ddP l).length _
                have hl' := HC.out.len
                have hL : (ddP l).length = a := by rw [← E.out, List.length_take]; omega
                have hX : (us l').length = l.length := by rw [us_len, hl']
                have hfl : us (ddP l) = (us l').take a := by rw [← E.out]; simp [us, List.map_take]
                have e : ∀ R, List.take a (List.take a (us l') ++ R) = us (ddP l) := fun R => by
                  rw [hfl, List.take_append_of_le_length (by rw [List.length_take, hX]; omega), List.take_take, Nat.min_self]
                rw [hL]
                simp only [Nat.mul_one] at h
                rw [e] at h
                exact h
              have G2 := Lib.hid (gtrans HG2.out hg2)
              have hac2 : a ≤ c := by omega
              clear ho2 hg2 hz
              go_wp2
              go_ret
              exact ⟨_, rfl, O2.out, G2.out⟩
      · have E : Hid (ddP l = l) := by
          show _ = _
          have h := HD.out
          rw [List.take_of_length_le (by omega)] at h
          exact h
        have HOW := HW.out
        clear HD
        go_wp2
        go_ret
        subst HOW
        exact ⟨.slice (some ⟨g, 0, none⟩) l.length c, rfl, by rw [E.out]; exact OwU.below HO.out (bdrewN (Below.refl _ _) _), gbelow (bdrewN (Below.refl _ _) _) _⟩
end Go.Proofs.Ytinjeoohklabpaa
