/- The walks of Addrs, the program's and the reference's, of the reference's Of and Take, and of Same. -/
import Derived.Test.YtiapiajldchnmaaWD
namespace Go.Proofs.Ytiapiajldchnmaa
open Go.RowKit
set_option linter.unusedVariables false
set_option linter.unusedSimpArgs false

theorem wpl_appU {ops : Array Oper} {rest : List Oper} {o : Oper} {a : Act} {w : World} {Q : Exit → Act → World → Prop} (hgd : o.guard = none) (s x : Operand)
    (ho : o.op = .call { callee := .builtin .append, args := #[s, x], argTypes := #[35, 35] })
    (base : Nat) (v : Value) (l0 l1 : List Int) (hs : a.eval s = v) (hown : OwU w base v l0) (A : Option Addr) (c : Nat) (hx : a.eval x = .slice A l1.length c) (hr : RdU w A l1)
    (hbytes : (l0.length + l1.length) * 8 ≤ 140737488355328) (hbase : base ≤ w.heap.size)
    (h : ∀ v' w', OwU w' base v' (l0 ++ l1) → w.grownBy w' v.ownBlock → wpList Try.prog ops Q rest (a.put o.dst v') w') : wpList Try.prog ops Q (o :: rest) a w :=
  wpl_append_rd hgd s x 35 ho base 23 _ 1 8 Try.underlying35 info23 rfl (by omega) v l0.length (us l0) hs hown A l1.length c (us l1) hx hr (us_one l1) hbytes (by omega) hbase
    (fun v' w' h1 h2 => h v' w' (by unfold OwU; rw [List.length_append]; unfold us; rw [List.map_append]; exact h1) h2)
theorem bownU {w W W' : World} {v : Value} {l : List Int} (h : Below w.heap.size w W) (hg : W.grownBy W' v.ownBlock) (ho : OwU W w.heap.size v l) : Below w.heap.size w W' :=
  bgrown h hg (fun k hk => (ho.lt k hk).1)
theorem rdU_new (W : World) (x : Int) : RdU (W.alloc (.cells #[.int .u64 x] 23)) (some ⟨W.heap.size, 0, none⟩) [x] :=
  ⟨rfl, by simp, fun _ => ⟨W.heap.size, 0, rfl, by simp, fun j u hu => by
    rw [cell_of_row _ _ _ _ 23 (0, 0) (heap_alloc_new W _), Nat.zero_add]
    simpa [us] using hu⟩⟩
theorem rdS_new (W : World) (s : Sp) : RdS (W.alloc (.cells #[.int .u64 s.a, .int .u8 s.k, .int .u64 s.t] 41)) (some ⟨W.heap.size, 0, none⟩) [s] :=
  ⟨rfl, by simp, fun _ => ⟨W.heap.size, 0, rfl, by simp, fun j u hu => by
    rw [cell_of_row _ _ _ _ 41 (0, 0) (heap_alloc_new W _), Nat.zero_add]
    simpa [fl, Sp.cs] using hu⟩⟩

def RetU2 (l : List Int) (n : Int) (w : World) (e : Ending) (w' : World) : Prop := ∃ v, e = .returned (.tuple #[v, .int .i64 n]) ∧ OwU w' w.heap.size v l ∧ Below w.heap.size w w'
def kA (l : List Sp) (k : Int) : List Int := (l.filter (fun s => s.k == k)).map Sp.a
def addrsP (l : List Sp) (k : Int) : List Int := if goodP l then ddP (kA l k) else []
theorem kA_le (l : List Sp) (k : Int) : (kA l k).length ≤ l.length := by unfold kA; rw [List.length_map]; exact List.length_filter_le _ _
theorem kA_snoc {l : List Sp} {j : Nat} (hj : j < l.length) (k : Int) : kA (l.take (j + 1)) k = if l[j].k == k then kA (l.take j) k ++ [l[j].a] else kA (l.take j) k := by
  unfold kA
  rw [List.take_succ_eq_append_getElem hj, List.filter_append]
  cases h : l[j].k == k <;> simp [h]

set_option maxHeartbeats 2000000 in
theorem addrs18 (l : List Sp) (A : Option Addr) (c : Nat) (q : Int) (w : World) (hr : RdS w A l) (hc : l.length ≤ c) :
    Calls Try.prog 18 #[.slice A l.length c, .int .u8 q] w (RetU2 (addrsP l q) (checkP l) w) := by
  have hl := hr.len
  have C20 := Lib.hid (check20 l A c w hr hc)
  have HR := Lib.hid hr
  clear hr
  cases hg : goodP l with
  | false =>
    have E : Hid (addrsP l q = []) := by show _ = _; simp [addrsP, hg]
    rw [checkP_no hg] at C20 ⊢
    rw [E.out]
    clear hg
    go_enter Try.func18, Try.ntmps18
    go_wp2_with (go_at_call 20; refine C20.out.mono ?_; rintro e w1 ⟨rfl, hb1⟩)
    go_ret2
    exact ⟨_, rfl, OwU.nil_ _ _, hb1⟩
  | true =>
    have hlen := good_len hg
    have E : Hid (addrsP l q = ddP (kA l q)) := by show _ = _; simp [addrsP, hg]
    rw [checkP_ok hg] at C20 ⊢
    clear hg
    go_enter Try.func18, Try.ntmps18
    go_wp2_with (go_at_call 20; refine C20.out.mono ?_; rintro e w1 ⟨rfl, hb1⟩)
    go_loopw [7, 17] (fun v i wr => ∃ k : Nat, k ≤ l.length ∧ i = .int .i64 k ∧ Hid (OwU wr w.heap.size v (kA (l.take k) q)) ∧ Hid (Below w.heap.size w wr)) (fun _ i _ => l.length - (intOf i).toNat)
    case atStart => exact ⟨0, Nat.zero_le _, rfl, OwU.nil_ _ _, hb1⟩
    case round =>
      obtain ⟨k, hk, rfl, HO, HB⟩ := hrel
      obtain ⟨wo, rfl⟩ : ∃ wo : World, wo = wr := ⟨_, rfl⟩
      clear hb1 C20
      obtain ⟨vA, vc, hv, _, _⟩ := HO.out.shape
      subst hv
      by_cases hlt : k < l.length
      · have hs : l[k]? = some l[k] := List.getElem?_eq_getElem hlt
        obtain ⟨b, o, rfl, hB, c1, c2, c3⟩ := (HR.out.below HB.out).at_ hs
        have STEP := Lib.hid (kA_snoc hlt q)
        have hkl := kA_le (l.take k) q
        rw [List.length_take] at hkl
        generalize l[k] = s at *
        clear hs
        generalize kA (l.take k) q = out at *
        have HOA : Hid (OwU (wo.alloc (.cells #[.int .u64 s.a, .int .u8 s.k, .int .u64 s.t] 41)) w.heap.size (.slice vA out.length vc) out) := World.ownsRow.alloc HO.out _
        have HBA : Hid (Below w.heap.size w (wo.alloc (.cells #[.int .u64 s.a, .int .u8 s.k, .int .u64 s.t] 41))) := balloc HB.out _
        cases hq : s.k == q with
        | false =>
          have S : Hid (kA (l.take (k + 1)) q = out) := by show _ = _; rw [STEP.out, hq]; rfl
          clear STEP
          go_wp2
          go_roundw
          case rel => exact ⟨k + 1, by omega, by go_num, by rw [S.out]; exact HOA.out, HBA.out⟩
          case measure => simp [intOf]; omega
        | true =>
          have S : Hid (kA (l.take (k + 1)) q = out ++ [s.a]) := by show _ = _; rw [STEP.out, hq]; rfl
          clear STEP
          have HOB : Hid (OwU ((wo.alloc (.cells #[.int .u64 s.a, .int .u8 s.k, .int .u64 s.t] 41)).alloc (.cells #[.int .u64 s.a] 23)) w.heap.size (.slice vA out.length vc) out) := World.ownsRow.alloc HOA.out _
          have HBB : Hid (Below w.heap.size w ((wo.alloc (.cells #[.int .u64 s.a, .int .u8 s.k, .int .u64 s.t] 41)).alloc (.cells #[.int .u64 s.a] 23))) := balloc HBA.out _
          have HRX : Hid (RdU ((wo.alloc (.cells #[.int .u64 s.a, .int .u8 s.k, .int .u64 s.t] 41)).alloc (.cells #[.int .u64 s.a] 23)) (some ⟨wo.heap.size + 1, 0, none⟩) [s.a]) := by
            show RdU _ _ _
            have h := rdU_new (wo.alloc (.cells #[.int .u64 s.a, .int .u8 s.k, .int .u64 s.t] 41)) s.a
            simpa using h
          go_wp2_with (at_builtin; refine wpl_appU rfl (.tmp 25) (.tmp 28) rfl w.heap.size _ out [s.a] rfl HOB.out (some ⟨wo.heap.size + 1, 0, none⟩) 1 rfl HRX.out ?h1 HBB.out.size ?_)
          case h1 => show (out.length + 1) * 8 ≤ _; omega
          intro v' w' ho' hg'
          have HO' : Hid (OwU w' w.heap.size v' (kA (l.take (k + 1)) q)) := by show OwU _ _ _ _; rw [S.out]; exact ho'
          have HB' := Lib.hid (bownU HBB.out hg' HOB.out)
          clear ho' hg'
          go_wp2
          go_roundw
          case rel => exact ⟨k + 1, by omega, by go_num, HO'.out, HB'.out⟩
          case measure => simp [intOf]; omega
      · have hkl := kA_le l q
        have HO2 : Hid (OwU wo w.heap.size (.slice vA (kA (l.take k) q).length vc) (kA l q)) := by
          show OwU _ _ _ _
          have h := HO.out
          rw [List.take_of_length_le (by omega)] at h ⊢
          exact h
        have C29 := Lib.hid (compact29 (kA l q) _ w.heap.size wo HO2.out HB.out.size (by omega))
        go_wp2_with (go_at_call 29; refine C29.out.mono ?_; rintro e w4 ⟨v4, rfl, ho4, hg4⟩; have HO4 := Lib.hid ho4; have HB4 := Lib.hid (bownU HB.out hg4 HO2.out); clear ho4 hg4)
        go_ret2
        rw [E.out]
        exact ⟨_, rfl, HO4.out, HB4.out⟩
end Go.Proofs.Ytiapiajldchnmaa
