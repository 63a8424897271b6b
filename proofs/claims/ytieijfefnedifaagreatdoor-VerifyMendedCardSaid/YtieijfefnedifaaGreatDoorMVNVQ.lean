/- The walks of look, Faults, Count, Worst. -/
import Derived.Test.YtieijfefnedifaaGreatDoorMVK
import Derived.Test.YtieijfefnedifaaGreatDoorMVPVM
import Derived.Test.YtieijfefnedifaaGreatDoorMVF0VJ
import Derived.Deep.RegionHeld3
namespace Go.Proofs.YtieijfefnedifaaGreatDoor
open Go.RowKit
set_option linter.unusedVariables false
set_option linter.unusedSimpArgs false

theorem sgt_made {w W : World} (v : HeapV) (hb : Below w.heap.size w W) : Sgt w (W.alloc (.cells #[.slice v.aA v.aN v.aC, .int .i64 v.us.n, .slice v.us.A v.us.m v.us.c, .slice v.sA v.sN v.sC, .slice none 0 0, .slice none 0 0] 59)) W.heap.size v [] none 0 [] none 0 := by
  refine ⟨⟨?_, ?_, ?_, ?_, ?_, ?_⟩, OwF.nil_ _ _, OwQ.nil_ _ _, ?_, balloc hb _, ?_, hb.size⟩
  case refine_7 => intro j; go_simp
  case refine_8 => simp
  all_goals (show _ = _; go_simp)
def founds (h : HeapB) : List VObj := if frameOk h = true ∧ spanF h = [] then vobjs h else []
def SightP (v : HeapV) (h : HeapB) (w : World) (e : Ending) (w' : World) : Prop :=
  ∃ b FA fc OA oc, e = .returned (.pointer (some ⟨b, 0, none⟩)) ∧ Sgt w w' b v (faultsP h) FA fc (founds h) OA oc
theorem pageF_len (h : HeapB) : (pageF h).length ≤ h.us.n.toNat := pgTo_len _ _ _
theorem headF_len {h : HeapB} (hg : GeoP h) : (headF h).length ≤ 2048 := by
  have h1 := headTo_len h.ar (cands h.sp)
  have h2 := (fitQ_of hg).few
  unfold vobjs at h2
  rw [List.length_map] at h2
  unfold headF
  omega
theorem refF_len {h : HeapB} (hg : GeoP h) : (refF h).length ≤ 48 * 2048 := by
  have hf := fitQ_of hg
  have h1 := refsTo_len (ar := h.ar) hf (vobjs h) (fun o ho => ho)
  have h2 := hf.few
  unfold refF
  omega
set_option maxRecDepth 100000 in
set_option maxHeartbeats 8000000 in
theorem look17 (v : HeapV) (h : HeapB) (w : World) (hr : RdH w v h) : Calls Tryz.prog 17 #[v.v] w (SightP v h w) := by
  have HR := Lib.hid hr
  have HS0 : Hid (Sgt w ((w.alloc (.cells #[.slice v.aA v.aN v.aC, .int .i64 v.us.n, .slice v.us.A v.us.m v.us.c, .slice v.sA v.sN v.sC] 31)).alloc (.cells #[.slice v.aA v.aN v.aC, .int .i64 v.us.n, .slice v.us.A v.us.m v.us.c, .slice v.sA v.sN v.sC, .slice none 0 0, .slice none 0 0] 59)) (w.alloc (.cells #[.slice v.aA v.aN v.aC, .int .i64 v.us.n, .slice v.us.A v.us.m v.us.c, .slice v.sA v.sN v.sC] 31)).heap.size v [] none 0 [] none 0) := sgt_made v (balloc (Below.refl _ _) _)
  have hz : (w.alloc (.cells #[.slice v.aA v.aN v.aC, .int .i64 v.us.n, .slice v.us.A v.us.m v.us.c, .slice v.sA v.sN v.sC] 31)).heap.size = w.heap.size + 1 := by simp
  rw [hz] at HS0
  have CF := Lib.hid (frame37 w _ (w.heap.size + 1) 0 0 v h none none [] HS0.out hr)
  clear hr hz HS0
  unfold HeapV.v
  by_cases hf : frameOk h = true
  · have hun : 0 ≤ h.us.n ∧ h.us.n ≤ 4096 := by have h1 := frameOk_iff.1 hf; have h2 := okB_parts h1.2.1; omega
    have HF := Lib.hid hf
    by_cases hs : spanF h = []
    · have hg := geo_iff.2 ⟨hf, hs⟩
      have EF : Hid (faultsP h = [] ++ pageF h ++ headF h ++ refF h ++ dirtF h) := by show _ = _; unfold faultsP restF; rw [if_pos hf, if_pos hs, List.nil_append]
      have EO : Hid (founds h = vobjs h) := by show _ = _; unfold founds; rw [if_pos ⟨hf, hs⟩]
      have HG := Lib.hid hg
      have HUN := Lib.hid hun
      have HSN := Lib.hid hs
      have HL1 : Hid ((pageF h).length ≤ 4096 ∧ (headF h).length ≤ 2048 ∧ (refF h).length ≤ 100000) := ⟨by have := pageF_len h; omega, headF_len hg, by have := refF_len hg; omega⟩
      clear hf hun hs hg
      go_enter Tryz.func17, Tryz.ntmps17
      go_wp2_with (go_at_call 37; refine CF.out.mono ?_)
      rintro e w1 ⟨rfl, h1, -, -⟩
      have HS1 := Lib.hid (h1 HF.out)
      rw [HF.out]
      clear h1 CF
      have CS := Lib.hid (spans38 w w1 _ _ _ v h _ _ [] HS1.out HR.out HUN.out)
      go_wp2_with (go_at_call 38; refine CS.out.mono ?_)
      rintro e w2 ⟨rfl, ⟨FA, fc, h2⟩, -⟩
      have e0 : spansF h.us.n h.sp = [] := HSN.out
      rw [e0] at h2 ⊢
      have HS2 := Lib.hid h2
      clear h2 CS HS1 e0
      simp only [List.length_nil, BEq.rfl]
      have CP := Lib.hid (paging39 w w2 _ _ _ v h [] FA _ [] HS2.out HR.out HG.out.2.1 (by simp))
      go_wp2_with (go_at_call 39; refine CP.out.mono ?_)
      rintro e w3 ⟨rfl, ⟨FA3, fc3, h3⟩, -⟩
      have HS3 : Hid (Sgt w w3 _ v ([] ++ pageF h) FA3 fc3 [] none 0) := h3
      clear h3 CP HS2
      have CC := Lib.hid (collect40 w w3 _ _ v h ([] ++ pageF h) FA3 HS3.out HR.out HG.out (by have := HL1.out; simp; omega))
      go_wp2_with (go_at_call 40; refine CC.out.mono ?_)
      rintro e w4 ⟨rfl, ⟨FA4, fc4, OA4, oc4, h4⟩, -⟩
      have HS4 := Lib.hid h4
      clear h4 CC HS3
      have CR := Lib.hid (refs41 w w4 _ _ _ v h ([] ++ pageF h ++ headF h) FA4 OA4 (vobjs h) HS4.out HR.out (fitQ_of HG.out) HG.out.1 (by have := HL1.out; simp; omega))
      go_wp2_with (go_at_call 41; refine CR.out.mono ?_)
      rintro e w5 ⟨rfl, ⟨FA5, fc5, h5⟩, -⟩
      have HS5 : Hid (Sgt w w5 _ v ([] ++ pageF h ++ headF h ++ refF h) FA5 fc5 (vobjs h) OA4 oc4) := h5
      clear h5 CR HS4
      have CD := Lib.hid (dirt42 w w5 _ _ _ v h ([] ++ pageF h ++ headF h ++ refF h) FA5 OA4 (vobjs h) HS5.out HR.out (fitQ_of HG.out) HG.out.1 (by have := HL1.out; simp; omega))
      go_wp2_with (go_at_call 42; refine CD.out.mono ?_)
      rintro e w6 ⟨rfl, ⟨FA6, fc6, h6⟩, -⟩
      have HS6 : Hid (Sgt w w6 _ v ([] ++ pageF h ++ headF h ++ refF h ++ dirtF h) FA6 fc6 (vobjs h) OA4 oc4) := h6
      clear h6 CD HS5
      go_wp2
      go_ret
      exact ⟨_, FA6, fc6, OA4, oc4, rfl, by rw [EF.out, EO.out]; exact HS6.out⟩
    · have EF : Hid (faultsP h = spansF h.us.n h.sp) := by show _ = _; unfold faultsP; rw [if_pos hf, if_neg hs]; rfl
      have EO : Hid (founds h = []) := by show _ = _; unfold founds; rw [if_neg (fun hc => hs hc.2)]
      have hne : ((spansF h.us.n h.sp).length == 0) = false := by
        rw [beq_eq_false_iff_ne]
        intro e
        exact hs (List.eq_nil_of_length_eq_zero e)
      have HNE := Lib.hid hne
      have HUN := Lib.hid hun
      clear hf hun hs hne
      go_enter Tryz.func17, Tryz.ntmps17
      go_wp2_with (go_at_call 37; refine CF.out.mono ?_)
      rintro e w1 ⟨rfl, h1, -, -⟩
      have HS1 := Lib.hid (h1 HF.out)
      rw [HF.out]
      clear h1 CF
      have CS := Lib.hid (spans38 w w1 _ _ _ v h _ _ [] HS1.out HR.out HUN.out)
      go_wp2_with (go_at_call 38; refine CS.out.mono ?_)
      rintro e w2 ⟨rfl, ⟨FA, fc, h2⟩, -⟩
      rw [HNE.out]
      have HS2 := Lib.hid h2
      clear h2 CS HS1
      go_wp2
      go_ret
      exact ⟨_, FA, fc, none, 0, rfl, by rw [EF.out, EO.out]; exact HS2.out⟩
  · have EF : Hid (faultsP h = [⟨1, 0⟩]) := by show _ = _; unfold faultsP; rw [if_neg hf]
    have EO : Hid (founds h = []) := by show _ = _; unfold founds; rw [if_neg (fun hc => hf hc.1)]
    have HF : Hid (frameOk h = false) := by show _ = _; simpa using hf
    clear hf
    go_enter Tryz.func17, Tryz.ntmps17
    go_wp2_with (go_at_call 37; refine CF.out.mono ?_)
    rintro e w1 ⟨rfl, -, h1, -⟩
    obtain ⟨FA, fc, h1⟩ := h1 HF.out
    have HS1 := Lib.hid h1
    rw [HF.out]
    clear h1 CF
    go_wp2
    go_ret
    exact ⟨_, FA, fc, none, 0, rfl, by rw [EF.out, EO.out]; exact HS1.out⟩
def RetFs (l : List Flt) (w : World) (e : Ending) (w' : World) : Prop := ∃ A c, e = .returned (.slice A l.length c) ∧ OwF w' w.heap.size (.slice A l.length c) l ∧ Below w.heap.size w w'
set_option maxRecDepth 100000 in
theorem faults8 (v : HeapV) (h : HeapB) (w : World) (hr : RdH w v h) : Calls Tryz.prog 8 #[v.v] w (RetFs (faultsP h) w) := by
  have hba := balloc (Below.refl w.heap.size w) (.cells #[.slice v.aA v.aN v.aC, .int .i64 v.us.n, .slice v.us.A v.us.m v.us.c, .slice v.sA v.sN v.sC] 31)
  have HBA := Lib.hid hba
  obtain ⟨l, hl⟩ : ∃ l, l = faultsP h := ⟨_, rfl⟩
  have CK : Hid (Calls Tryz.prog 17 #[v.v] (w.alloc (.cells #[.slice v.aA v.aN v.aC, .int .i64 v.us.n, .slice v.us.A v.us.m v.us.c, .slice v.sA v.sN v.sC] 31)) (fun e w' => ∃ b FA fc OA oc, e = .returned (.pointer (some ⟨b, 0, none⟩)) ∧ Sgt (w.alloc (.cells #[.slice v.aA v.aN v.aC, .int .i64 v.us.n, .slice v.us.A v.us.m v.us.c, .slice v.sA v.sN v.sC] 31)) w' b v l FA fc (founds h) OA oc)) := by
    rw [hl]
    exact look17 v h _ (hr.below hba)
  rw [← hl]
  clear hr hba hl
  unfold HeapV.v at CK ⊢
  go_enter Tryz.func8, Tryz.ntmps8
  go_wp2_with (go_at_call 17; refine CK.out.mono ?_)
  rintro e w1 ⟨b, FA, fc, OA, oc, rfl, hs⟩
  have HS := Lib.hid hs
  have s4 := hs.st.c4
  clear hs CK
  go_wp2
  go_ret
  have h1 := HS.out.hb
  have h2 := HBA.out.size
  exact ⟨FA, fc, rfl, own_mono HS.out.fo (by omega), bthen HBA.out HS.out.lo⟩
def worstP (l : List Flt) : Nat := match l with | [] => 0 | f :: _ => f.k
def cntP (ks : List Nat) (l : List Flt) : Nat := l.countP (fun f => ks.contains f.k)
set_option maxRecDepth 100000 in
theorem worst10 (v : HeapV) (h : HeapB) (w : World) (hr : RdH w v h) : Calls Tryz.prog 10 #[v.v] w (Ret (.int .u8 (worstP (faultsP h))) w) := by
  have hba := balloc (Below.refl w.heap.size w) (.cells #[.slice v.aA v.aN v.aC, .int .i64 v.us.n, .slice v.us.A v.us.m v.us.c, .slice v.sA v.sN v.sC] 31)
  have HBA := Lib.hid hba
  have CK := Lib.hid (faults8 v h _ (hr.below hba))
  clear hr hba
  unfold HeapV.v at CK ⊢
  generalize hfl : faultsP h = l at *
  clear hfl
  rcases l with _ | ⟨f, t⟩
  · go_enter Tryz.func10, Tryz.ntmps10
    go_wp2_with (go_at_call 8; refine CK.out.mono ?_)
    rintro e w1 ⟨A, c, rfl, ho, hb1⟩
    have HB1 := Lib.hid (bthen HBA.out hb1)
    clear ho hb1 CK
    simp only [List.length_nil]
    go_wp2
    obtain ⟨wo, hwo⟩ : ∃ wo : World, wo = w1 := ⟨_, rfl⟩
    go_loopw [8] (fun i wr => i = .int .i64 0 ∧ wr = wo) (fun _ _ => 0)
    case atStart => exact ⟨rfl, hwo.symm⟩
    case round =>
      obtain ⟨rfl, rfl⟩ := hrel
      subst hwo
      go_wp2
      go_ret
      exact ⟨rfl, HB1.out⟩
  · have HN : Hid (0 < (f :: t).length) := by show _ < _; simp
    generalize hln : (f :: t).length = n at *
    go_enter Tryz.func10, Tryz.ntmps10
    go_wp2_with (go_at_call 8; refine CK.out.mono ?_)
    rintro e w1 ⟨A, c, rfl, ho, hb1⟩
    have HB1 := Lib.hid (bthen HBA.out hb1)
    obtain ⟨bk, oo, hA, hbk, c0, c1⟩ := (ho.rd rfl).at_ (show (f :: t)[0]? = some f from rfl)
    subst hA
    rw [hln]
    have hn0 : 0 < n := HN.out
    clear ho hb1 CK hbk
    simp only [Nat.zero_mul, Nat.add_zero] at c0 c1
    go_wp2
    obtain ⟨wo, hwo⟩ : ∃ wo : World, wo = w1 := ⟨_, rfl⟩
    go_loopw [8] (fun i wr => i = .int .i64 0 ∧ wr = wo) (fun _ _ => 0)
    case atStart => exact ⟨rfl, hwo.symm⟩
    case round =>
      obtain ⟨rfl, rfl⟩ := hrel
      subst hwo
      go_wp2
      go_ret
      exact ⟨rfl, balloc HB1.out _⟩
set_option maxRecDepth 100000 in
theorem count13 (v : HeapV) (h : HeapB) (ks : List Nat) (KA : Option Addr) (kc : Nat) (w : World) (hr : RdH w v h) (hk : RdK w KA ks) : Calls Tryz.prog 13 #[v.v, .slice KA ks.length kc] w (Ret (.int .i64 (cntP ks (faultsP h))) w) := by
  have hba := balloc (Below.refl w.heap.size w) (.cells #[.slice v.aA v.aN v.aC, .int .i64 v.us.n, .slice v.us.A v.us.m v.us.c, .slice v.sA v.sN v.sC] 31)
  have HBA := Lib.hid hba
  have CK := Lib.hid (faults8 v h _ (hr.below hba))
  have HRK := Lib.hid hk
  clear hr hba hk
  unfold HeapV.v at CK ⊢
  generalize hfl : faultsP h = l at *
  clear hfl
  generalize hkn : ks.length = kn at *
  have HKN := Lib.hid hkn
  clear hkn
  go_enter Tryz.func13, Tryz.ntmps13
  go_wp2_with (go_at_call 8; refine CK.out.mono ?_)
  rintro e w1 ⟨A, c, rfl, ho, hb1⟩
  have HB1 := Lib.hid (bthen HBA.out hb1)
  have HRF := Lib.hid (ho.rd rfl)
  have hmax := (ho.rd rfl).2.1
  clear ho hb1 CK
  go_wp2
  obtain ⟨wo, hwo⟩ : ∃ wo : World, wo = w1 := ⟨_, rfl⟩
  go_loopw [11, 5] (fun i n wr => ∃ k : Nat, k ≤ l.length ∧ i = .int .i64 k ∧ n = .int .i64 (cntP ks (l.take k)) ∧ Hid (Below w.heap.size w wr) ∧ Hid (Below w1.heap.size w1 wr)) (fun i _ _ => l.length - (intOf i).toNat)
  case atStart => exact ⟨0, Nat.zero_le _, rfl, by simp [cntP], HB1.out, Below.refl _ _⟩
  case round =>
    obtain ⟨k, hk, rfl, rfl, HBr, HBq⟩ := hrel
    clear hwo
    by_cases hlt : k < l.length
    · have hs : l[k]? = some l[k] := List.getElem?_eq_getElem hlt
      generalize l[k] = f at hs
      have HNX : Hid (cntP ks (l.take (k + 1)) = cntP ks (l.take k) + (if ks.contains f.k then 1 else 0)) := by
        show _ = _
        unfold cntP
        rw [List.take_add_one, hs, List.countP_append]
        simp
      have HCB : Hid (cntP ks (l.take k) ≤ k) := by
        show _ ≤ _
        unfold cntP
        have h1 := List.countP_le_length (p := fun f : Flt => ks.contains f.k) (l := l.take k)
        rw [List.length_take] at h1
        omega
      obtain ⟨bk, oo, hA, hbk, c0, c1⟩ := (HRF.out.below HBq.out).at_ hs
      subst hA
      have hba := balloc (Below.refl wr.heap.size wr) (.cells #[.int .u8 (f.k : Int), .int .u64 (f.a : Int)] 48)
      have HBR := Lib.hid (bthen HBr.out hba)
      have HBQ := Lib.hid (bthen HBq.out hba)
      have HC := Lib.hid (contains24 ks KA kc f.k _ (HRK.out.below HBR.out))
      rw [HKN.out] at HC
      obtain ⟨m, hm⟩ : ∃ m, m = cntP ks (l.take k) := ⟨_, rfl⟩
      rw [← hm] at HNX HCB ⊢
      have hmk : m ≤ k := HCB.out
      generalize ks.contains f.k = cc at *
      clear hs hbk hba hm HBr HBq
      cases cc
      · go_wp2_with (go_at_call 24; refine HC.out.mono ?_)
        rintro e w3 ⟨rfl, hb3⟩
        have HB3 := Lib.hid (bthen HBR.out hb3)
        have HQ3 := Lib.hid (bthen HBQ.out hb3)
        clear hb3 HC c0 c1
        go_wp2
        go_roundw
        case rel => exact ⟨k + 1, by omega, by go_num, by rw [HNX.out]; simp, HB3.out, HQ3.out⟩
        case measure => simp [intOf]; omega
      · go_wp2_with (go_at_call 24; refine HC.out.mono ?_)
        rintro e w3 ⟨rfl, hb3⟩
        have HB3 := Lib.hid (bthen HBR.out hb3)
        have HQ3 := Lib.hid (bthen HBQ.out hb3)
        clear hb3 HC c0 c1
        go_wp2
        go_roundw
        case rel => exact ⟨k + 1, by omega, by go_num, by rw [HNX.out]; simp, HB3.out, HQ3.out⟩
        case measure => simp [intOf]; omega
    · obtain rfl : k = l.length := by omega
      rw [List.take_length]
      go_wp2
      go_ret
      exact ⟨rfl, HBr.out⟩
end Go.Proofs.YtieijfefnedifaaGreatDoor

/- A sight of a heap of one's own: what is stored into its rows. Plain, and small. -/
namespace Go.Proofs.YtieijfefnedifaaGreatDoor
open Go.RowKit
set_option linter.unusedVariables false
set_option linter.unusedSimpArgs false

section
variable {P : Program} {w : World} {base : Nat} {e : TypeId} {size g n cap : Nat} {xs : List Value}
/-- 'clear(s[k:k+m])', and what it leaves. -/
theorem run_clear_zero (t ty : TypeId) (z : Value) (ht : P.underlying t = some (.slice e)) (hz : ∀ w, (zeroValue e).run P w = .ok z w) (hzs : z.cells.size = size) (hz1 : ∀ u ∈ z.cells.toList, u.oneCell' = true)
    (h : w.ownsRow base e size (.slice (some ⟨g, 0, none⟩) n cap) n xs) (A : Option Addr) (k m c : Nat) (hA : 0 < m → A = some ⟨g, k * size, none⟩) (hk : k + m ≤ n) :
    ∃ w', (Builtin.clear_ #[t] ty #[.slice A m c]).run P w = .ok (.tuple #[]) w' ∧
      w'.ownsRow base e size (.slice (some ⟨g, 0, none⟩) n cap) n (xs.take (k * size) ++ (Builtin.zeroCells z.cells m).toList ++ xs.drop ((k + m) * size)) ∧ w.grownBy w' (some g) := by
  rcases Nat.eq_zero_or_pos m with rfl | hm
  · refine ⟨w, ?_, by simpa [Builtin.zeroCells] using h, World.grownBy.refl w _⟩
    cases A <;> simp [Builtin.clear_, run_underlying ht]
  · obtain rfl := hA hm
    have hzl : (Builtin.zeroCells z.cells m).toList.length = m * size := by rw [Array.length_toList, size_zeroCells, hzs]
    have hin : k * size + m * size ≤ n * size := by rw [← Nat.add_mul]; exact Nat.mul_le_mul_right _ hk
    obtain ⟨w', h2, h3, h4⟩ := own_put (P := P) h (k * size) (Builtin.zeroCells z.cells m).toList (by omega) (fun u hu => by
      have hu' : u ∈ Builtin.zeroCells z.cells m := by simpa using hu
      unfold Builtin.zeroCells at hu'
      rw [Array.mem_map] at hu'
      obtain ⟨j, hj, rfl⟩ := hu'
      have hpos : 0 < z.cells.size := by
        rcases Nat.eq_zero_or_pos z.cells.size with h0 | h0
        · rw [h0] at hj; simp at hj
        · exact h0
      have hlt : j % z.cells.size < z.cells.size := Nat.mod_lt _ hpos
      rw [getElem!_pos z.cells _ hlt]
      exact hz1 _ (by simp))
    rw [hzl, ← Nat.add_mul] at h3
    refine ⟨w', ?_, h3, h4⟩
    obtain ⟨m', rfl⟩ : ∃ m', m = m' + 1 := ⟨m - 1, by omega⟩
    simp [Builtin.clear_, run_underlying ht, hz, h2]
end
def clearL (l : List Int) (k m : Nat) : List Int := l.take k ++ List.replicate m 0 ++ l.drop (k + m)
theorem clearL_len {l : List Int} {k m : Nat} (h : k + m ≤ l.length) : (clearL l k m).length = l.length := by
  unfold clearL
  simp only [List.length_append, List.length_take, List.length_drop, List.length_replicate]
  omega
theorem clearL_at {l : List Int} {k m : Nat} (h : k + m ≤ l.length) (i : Nat) : wd (clearL l k m) i = if k ≤ i ∧ i < k + m then 0 else wd l i := by
  have e : (clearL l k m)[i]? = if k ≤ i ∧ i < k + m then some 0 else l[i]? := by
    unfold clearL
    rw [List.append_assoc, List.getElem?_append, List.length_take, Nat.min_eq_left (by omega)]
    by_cases h1 : i < k
    · rw [if_pos h1, if_neg (by omega), List.getElem?_take_of_lt h1]
    · rw [if_neg h1, List.getElem?_append, List.length_replicate]
      by_cases h2 : i - k < m
      · rw [if_pos h2, if_pos (by omega), List.getElem?_replicate, if_pos h2]
      · rw [if_neg h2, if_neg (by omega), List.getElem?_drop]
        congr 1
        omega
  unfold wd
  rw [e]
  by_cases hc : k ≤ i ∧ i < k + m
  · rw [if_pos hc, if_pos hc]
  · rw [if_neg hc, if_neg hc]
theorem zero_us (m : Nat) : (Builtin.zeroCells (Value.cells (.int .u64 0)) m).toList = us (List.replicate m 0) := by
  apply List.ext_getElem
  · simp [Builtin.zeroCells, us, Value.cells]
  · intro i h1 h2
    simp [Builtin.zeroCells, us, Value.cells, Nat.mod_one]
theorem us_clear (l : List Int) (k m : Nat) : us (clearL l k m) = (us l).take k ++ us (List.replicate m 0) ++ (us l).drop (k + m) := by
  simp [clearL, us, List.map_take, List.map_drop]
theorem wpl_clearU {w : World} {ops : Array Oper} {rest : List Oper} {o : Oper} {a : Act} {Q : Exit → Act → World → Prop} (hgd : o.guard = none) (x : Operand)
    (ho : o.op = .call { callee := .builtin .clear, args := #[x], argTypes := #[22] })
    (base g n cap : Nat) (l : List Int) (hl : l.length = n) (h : OwU w base (.slice (some ⟨g, 0, none⟩) n cap) l) (A : Option Addr) (k m c : Nat) (hx : a.eval x = .slice A m c) (hA : 0 < m → A = some ⟨g, k, none⟩) (hk : k + m ≤ n)
    (hK : ∀ w', OwU w' base (.slice (some ⟨g, 0, none⟩) n cap) (clearL l k m) → w.grownBy w' (some g) → wpList Tryz.prog ops Q rest (a.put o.dst (.tuple #[])) w') :
    wpList Tryz.prog ops Q (o :: rest) a w := by
  refine wpList_plain hgd fun K hK' => ?_
  subst hl
  obtain ⟨w', hr, h2, h3⟩ := run_clear_zero (P := Tryz.prog) 22 o.type (.int .u64 0) Tryz.underlying22 Tryz.zeroValue46 (size := 1) rfl (us_one [0]) h A k m c (by simpa using hA) hk
  unfold Oper.wp execOp
  simp only [ho, resolve, invoke, builtin, Sem.run_bind, Sem.run_pure, Result.andThen_ok, List.map_toArray, List.map_cons, List.map_nil, hx, hr]
  refine hK' _ _ (hK w' ?_ h3)
  unfold OwU
  rw [clearL_len hk, us_clear, ← zero_us]
  simpa only [Nat.mul_one] using h2
/-! ### A heap's own rows -/
structure RowsNe (v : HeapV) (b : Nat) : Prop where
  ar : (Value.slice v.aA v.aN v.aC).ownBlock ≠ some b
  us : (Value.slice v.us.A v.us.m v.us.c).ownBlock ≠ some b
  sp : (Value.slice v.sA v.sN v.sC).ownBlock ≠ some b
  al : ∀ x ∈ v.vs, (Value.slice x.al.A x.al.m x.al.c).ownBlock ≠ some b ∧ (Value.slice x.ma.A x.ma.m x.ma.c).ownBlock ≠ some b
theorem OwnH.rowsNe {w : World} {base b : Nat} {v : HeapV} {h : HeapB} (o : OwnH w base v h) (hb : w.heap.size ≤ b) : RowsNe v b := by
  refine ⟨fun e => ?_, fun e => ?_, fun e => ?_, fun x hx => ?_⟩
  · have := (World.ownsRow.lt o.ar b e).2; omega
  · have := (World.ownsRow.lt o.us b e).2; omega
  · have := (World.ownsRow.lt o.sp b e).2; omega
  · obtain ⟨i, hi, rfl⟩ := List.getElem_of_mem hx
    have hl : i < h.sp.length := by rw [← o.al.1]; exact hi
    have n := o.al.2 i _ _ (List.getElem?_eq_getElem hi) (List.getElem?_eq_getElem hl)
    exact ⟨fun e => by have := (World.ownsRow.lt n.al b e).2; omega, fun e => by have := (World.ownsRow.lt n.ma b e).2; omega⟩
theorem OwnH.set_ne {w : World} {base b : Nat} {v : HeapV} {h : HeapB} (o : OwnH w base v h) (n : RowsNe v b) (k : Nat) (u : Value) : OwnH (w.setCell ⟨b, k, none⟩ u) base v h := by
  refine ⟨o.n, o.c, ownsRow_setCell_other o.ar n.ar u, o.un, o.um, o.uc, ownsRow_setCell_other o.us n.us u, o.sn, o.sc, ownsRow_setCell_other o.sp n.sp u, ⟨o.al.1, fun i x s hx hs => ?_⟩, o.ap⟩
  have m := o.al.2 i x s hx hs
  have h2 := n.al x (List.mem_of_getElem? hx)
  exact ⟨m.first, m.pages, m.size, m.sw, m.an, m.am, m.ac, ownsRow_setCell_other m.al h2.1 u, m.mn, m.mm, m.mc, ownsRow_setCell_other m.ma h2.2 u⟩
/-- The arena's row is written: all else is as it was. -/
theorem OwnH.arena {w w1 : World} {base g : Nat} {v : HeapV} {h : HeapB} {l : List Int} (o : OwnH w base v h) (hg : v.aA = some ⟨g, 0, none⟩) (hw : w.grownBy w1 (some g)) (hl : l.length = h.ar.length) (ho : OwU w1 base (.slice v.aA v.aN v.aC) l) : OwnH w1 base v { h with ar := l } := by
  have hap := o.ap g (by rw [hg]; rfl)
  have oth : ∀ {n size : Nat} {e : TypeId} {v' : Value} {xs : List Value}, w.ownsRow base e size v' n xs → v'.ownBlock ≠ some g → w1.ownsRow base e size v' n xs := fun h' hne => own_grown h' hw (fun k hk e => hne (by rw [hk, e]))
  refine ⟨by rw [o.n, hl], o.c, ho, o.un, o.um, o.uc, oth o.us hap.1, o.sn, o.sc, oth o.sp ?_, ⟨o.al.1, fun i x s hx hs => ?_⟩, o.ap⟩
  · have := o.ar
    rw [hg] at this
    exact own_tag this o.sp (by decide) (k := g) rfl
  · have m := o.al.2 i x s hx hs
    have h2 := hap.2 x (List.mem_of_getElem? hx)
    exact ⟨m.first, m.pages, m.size, m.sw, m.an, m.am, m.ac, oth m.al h2.1, m.mn, m.mm, m.mc, oth m.ma h2.2⟩
/-- The i-th span has other bits: they were stored in its row. -/
theorem OwnH.bits {w w1 : World} {base g i j : Nat} {v : HeapV} {h : HeapB} {x y : SpanV} {s t : SpanB} {a d : Value} (m : OwnH w base v h) (hb : Below w.heap.size w w1)
    (hg : v.sA = some ⟨g, 0, none⟩) (hx : v.vs[i]? = some x) (hs : h.sp[i]? = some s) (hj : j + 1 < 8) (hy : y.cs = (x.cs.set j a).set (j + 1) d) (hN : OwN w1 base y t)
    (hal : ∀ k, (Value.slice v.aA v.aN v.aC).ownBlock = some k → (Value.slice y.al.A y.al.m y.al.c).ownBlock ≠ some k ∧ (Value.slice y.ma.A y.ma.m y.ma.c).ownBlock ≠ some k) :
    OwnH ((w1.setCell ⟨g, i * 8 + j, none⟩ a).setCell ⟨g, i * 8 + j + 1, none⟩ d) base { v with vs := v.vs.set i y } { h with sp := h.sp.set i t } := by
  have m1 := m.below hb
  have ho : OwS w1 base (.slice (some ⟨g, 0, none⟩) v.sN v.sC) v.vs := by rw [← hg]; exact m1.sp
  have hlen : v.vs.length = v.sN := by rw [m1.al.1, m1.sn]
  have tagU : ∀ {l : List Int} {v' : Value}, OwU w1 base v' l → OwU ((w1.setCell ⟨g, i * 8 + j, none⟩ a).setCell ⟨g, i * 8 + j + 1, none⟩ d) base v' l := fun h' => by
    have hne : _ ≠ some g := own_tag ho h' (by decide) (k := g) rfl
    exact ownsRow_setCell_other (ownsRow_setCell_other h' hne _) hne _
  have tagN : ∀ {x' : SpanV} {s' : SpanB}, OwN w1 base x' s' → OwN ((w1.setCell ⟨g, i * 8 + j, none⟩ a).setCell ⟨g, i * 8 + j + 1, none⟩ d) base x' s' := fun n =>
    ⟨n.first, n.pages, n.size, n.sw, n.an, n.am, n.ac, tagU n.al, n.mn, n.mm, n.mc, tagU n.ma⟩
  refine ⟨m1.n, m1.c, tagU m1.ar, m1.un, m1.um, m1.uc, tagU m1.us, ?_, m1.sc, ?_, ?_, ?_⟩
  · rw [List.length_set]; exact m1.sn
  · show OwS _ _ (.slice v.sA v.sN v.sC) _
    rw [hg]
    exact ho.set2 hlen hx hj hy
  · refine ⟨by rw [List.length_set, List.length_set]; exact m1.al.1, fun q x' s' hx' hs' => ?_⟩
    by_cases e : q = i
    · subst e
      rw [List.getElem?_set_self (List.getElem?_eq_some_iff.1 hx).1] at hx'
      rw [List.getElem?_set_self (List.getElem?_eq_some_iff.1 hs).1] at hs'
      cases hx'
      cases hs'
      exact tagN hN
    · rw [List.getElem?_set_ne (by omega)] at hx'
      rw [List.getElem?_set_ne (by omega)] at hs'
      exact tagN (m1.al.2 q x' s' hx' hs')
  · intro k hk
    obtain ⟨h1, h2⟩ := m1.ap k hk
    refine ⟨h1, fun z hz => ?_⟩
    rcases List.mem_or_eq_of_mem_set hz with hz | rfl
    · exact h2 z hz
    · exact hal k hk
/-! ### The sight of a heap of one's own -/
structure MS (w0 w : World) (b : Nat) (v : HeapV) (h : HeapB) (fs : List Flt) (FA : Option Addr) (fc : Nat) (os : List VObj) (OA : Option Addr) (oc : Nat) : Prop where
  s : Sgt w0 w b v fs FA fc os OA oc
  own : OwnH w w0.heap.size v h
  nb : RowsNe v b
theorem MS.later {w0 w w1 : World} {b fc oc : Nat} {v : HeapV} {h : HeapB} {fs : List Flt} {FA OA : Option Addr} {os : List VObj} (m : MS w0 w b v h fs FA fc os OA oc) (hb : Below w.heap.size w w1) : MS w0 w1 b v h fs FA fc os OA oc :=
  ⟨m.s.later hb, m.own.below hb, m.nb⟩
theorem Sgt.gro {w0 w w1 : World} {b fc oc g : Nat} {v : HeapV} {fs : List Flt} {FA OA : Option Addr} {os : List VObj} (s : Sgt w0 w b v fs FA fc os OA oc) (hw : w.grownBy w1 (some g)) (hb : g ≠ b) (hlo : w0.heap.size ≤ g) (hf : (Value.slice FA fs.length fc).ownBlock ≠ some g) (ho : (Value.slice OA os.length oc).ownBlock ≠ some g) : Sgt w0 w1 b v fs FA fc os OA oc := by
  have hne : some b ≠ some g := fun e => hb (Option.some.inj e).symm
  have c := fun o (u : Value) (hc : w.cell? ⟨b, o, none⟩ = some u) => hw.cell hc hne
  refine ⟨⟨c _ _ s.st.c0, c _ _ s.st.c1, c _ _ s.st.c2, c _ _ s.st.c3, c _ _ s.st.c4, c _ _ s.st.c5⟩, own_grown s.fo hw (fun k hk e => hf (by rw [hk, e])), own_grown s.oo hw (fun k hk e => ho (by rw [hk, e])), fun j => (gfrozen hw (a := ⟨b, j, none⟩) s.lt hne).trans (s.fr j), s.lo.grown hw s.lo.size (fun r hr => by cases hr; exact hlo), Nat.lt_of_lt_of_le s.lt hw.size, s.hb⟩
theorem gset {w w' : World} {g : Nat} (h : w.grownBy w' (some g)) (o : Nat) (u : Value) : w.grownBy (w'.setCell ⟨g, o, none⟩ u) (some g) :=
  ⟨h.os, h.tape, h.output, by simpa using h.size, fun k hk hr => (Below.heap_setCell w' ⟨g, o, none⟩ u k (fun e => hr (by rw [e]))).trans (h.block k hk hr)⟩
theorem MS.arena {w0 w w1 : World} {b fc oc g : Nat} {v : HeapV} {h : HeapB} {fs : List Flt} {FA OA : Option Addr} {os : List VObj} {l : List Int} (m : MS w0 w b v h fs FA fc os OA oc) (hg : v.aA = some ⟨g, 0, none⟩) (hw : w.grownBy w1 (some g)) (hl : l.length = h.ar.length) (ho : OwU w1 w0.heap.size (.slice v.aA v.aN v.aC) l) : MS w0 w1 b v { h with ar := l } fs FA fc os OA oc := by
  have h0 := m.own.ar
  rw [hg] at h0
  refine ⟨m.s.gro hw (fun e => m.nb.ar (by rw [hg, e]; rfl)) (World.ownsRow.lt h0 g rfl).1 (own_tag h0 m.s.fo (by decide) (k := g) rfl) (own_tag h0 m.s.oo (by decide) (k := g) rfl), m.own.arena hg hw hl ho, m.nb⟩
end Go.Proofs.YtieijfefnedifaaGreatDoor

/- The walks of IndexFunc on verify's objects, and of drop. -/
namespace Go.Proofs.YtieijfefnedifaaGreatDoor
open Go.RowKit
set_option linter.unusedVariables false
set_option linter.unusedSimpArgs false

def idxA (l : List VObj) (t : Nat) : Int := match l.findIdx? (fun o => o.a == t) with | some i => (i : Int) | none => -1
theorem idxA_some {l : List VObj} {k t : Nat} {s : VObj} (hs : l[k]? = some s) (hp : s.a = t) (hno : ∀ j, j < k → ∀ s, l[j]? = some s → s.a ≠ t) : idxA l t = (k : Int) := by
  obtain ⟨h1, h2⟩ := List.getElem?_eq_some_iff.1 hs
  have e : l.findIdx? (fun o => o.a == t) = some k := by
    rw [List.findIdx?_eq_some_iff_getElem]
    refine ⟨h1, by rw [h2]; simpa using hp, fun j hj => ?_⟩
    have := hno j hj _ (List.getElem?_eq_getElem (by omega))
    simpa using this
  unfold idxA
  rw [e]
theorem idxA_none {l : List VObj} {t : Nat} (hno : ∀ j, j < l.length → ∀ s, l[j]? = some s → s.a ≠ t) : idxA l t = -1 := by
  have e : l.findIdx? (fun o => o.a == t) = none := by
    rw [List.findIdx?_eq_none_iff]
    intro x hx
    obtain ⟨i, hi, rfl⟩ := List.getElem_of_mem hx
    have := hno i hi _ (List.getElem?_eq_getElem hi)
    simpa using this
  unfold idxA
  rw [e]
theorem drop94 (o : VObj) (q t : Nat) (w : World) (hq : w.cell? ⟨q, 0, none⟩ = some (.int .u64 (t : Int))) : Calls Tryz.prog 94 #[o.v, .pointer (some ⟨q, 0, none⟩)] w (Ret (.bool ((o.a : Int) == (t : Int))) w) := by
  have HQ := Lib.hid hq
  have hql := World.block_lt_of_cell? _ _ hq
  have q1 := cell_later (balloc (Below.refl w.heap.size w) (.cells #[.int .i64 o.i, .int .i64 o.k, .int .u64 o.a, .int .u64 o.r, .int .i64 o.n, .int .u64 o.m, .bool o.cur, .bool o.ok] 124)) hq
  clear hq
  unfold VObj.v
  generalize hcc : ((o.a : Int) == (t : Int)) = cc
  go_enter Tryz.func94, Tryz.ntmps94
  go_wp2
  try rw [hcc]
  go_ret
  exact ⟨rfl, balloc (Below.refl _ _) _⟩
set_option maxRecDepth 100000 in
set_option maxHeartbeats 8000000 in
theorem index93 (l : List VObj) (A : Option Addr) (c q t : Nat) (w : World) (h : RdQ w A l) (hq : w.cell? ⟨q, 0, none⟩ = some (.int .u64 (t : Int))) (hl : l.length ≤ 100000) :
    Calls Tryz.prog 93 #[.slice A l.length c, .func (.func 94) #[] #[.pointer (some ⟨q, 0, none⟩)]] w (Ret (.int .i64 (idxA l t)) w) := by
  have H := Lib.hid h
  have HQ := Lib.hid hq
  clear h hq
  go_enter Tryz.func93, Tryz.ntmps93
  go_wp2
  obtain ⟨wo, hwo⟩ : ∃ wo : World, wo = w := ⟨w, rfl⟩
  go_loopw [8] (fun i wr => ∃ k : Nat, k ≤ l.length ∧ i = .int .i64 k ∧ Hid (∀ j, j < k → ∀ s, l[j]? = some s → s.a ≠ t) ∧ Hid (Below w.heap.size w wr)) (fun i _ => l.length - (intOf i).toNat)
  case atStart => exact ⟨0, Nat.zero_le _, rfl, fun j hj => by omega, Below.refl _ _⟩
  case round =>
    obtain ⟨k, hk, rfl, HNO, HBr⟩ := hrel
    by_cases hlt : k < l.length
    · have hs : l[k]? = some l[k] := List.getElem?_eq_getElem hlt
      generalize l[k] = s at hs
      obtain ⟨bk, o, hA, hb, c0, c1, c2, c3, c4, c5, c6, c7⟩ := (H.out.below HBr.out).at_ hs
      subst hA
      have HSS := Lib.hid hs
      have CN := Lib.hid (drop94 s q t wr (cell_later HBr.out HQ.out))
      unfold VObj.v at CN
      clear hs hb
      by_cases hz : s.a = t
      · have E : Hid (idxA l t = (k : Int)) := idxA_some HSS.out hz HNO.out
        rw [show ((s.a : Int) == (t : Int)) = true by simp [hz]] at CN
        clear hz
        go_wp2_with fail
        refine CN.out.mono ?_
        rintro e w1 ⟨rfl, hb1⟩
        have HB1 := Lib.hid (bthen HBr.out hb1)
        clear hb1
        go_wp2
        go_ret
        rw [E.out]
        exact ⟨rfl, HB1.out⟩
      · have HN1 : Hid (∀ j, j < k + 1 → ∀ s, l[j]? = some s → s.a ≠ t) := by
          intro j hj x hx
          by_cases e : j = k
          · subst e
            rw [HSS.out] at hx
            cases hx
            exact hz
          · exact HNO.out j (by omega) x hx
        rw [show ((s.a : Int) == (t : Int)) = false by simp; omega] at CN
        clear hz
        go_wp2_with fail
        refine CN.out.mono ?_
        rintro e w1 ⟨rfl, hb1⟩
        have HB1 := Lib.hid (bthen HBr.out hb1)
        clear hb1
        go_wp2
        go_roundw
        case rel => exact ⟨k + 1, by omega, by go_num, HN1.out, HB1.out⟩
        case measure => simp [intOf]; omega
    · obtain rfl : k = l.length := by omega
      have E : Hid (idxA l t = -1) := idxA_none HNO.out
      go_wp2
      go_ret
      rw [E.out]
      exact ⟨rfl, HBr.out⟩
/-! ### What drop stores -/
theorem step_clearU {ops : Array Oper} {o : Oper} {act : Act} {w : World} {K : Act → World → Prop} {Q : Exit → Act → World → Prop} {E : Prop} (hgd : o.guard = none) (x : Operand)
    (ho : o.op = .call { callee := .builtin .clear, args := #[x], argTypes := #[22] })
    (base g n cap : Nat) (l : List Int) (hl : l.length = n) (h : OwU w base (.slice (some ⟨g, 0, none⟩) n cap) l) (A : Option Addr) (k m c : Nat) (hx : act.eval x = .slice A m c) (hA : 0 < m → A = some ⟨g, k, none⟩) (hk : k + m ≤ n)
    (hK : ∀ w', OwU w' base (.slice (some ⟨g, 0, none⟩) n cap) (clearL l k m) → w.grownBy w' (some g) → K (act.put o.dst (.tuple #[])) w') :
    if Region.wanted o (yielded ops act.tmps) = true then Oper.wp Tryz.prog o act w K Q else E := by
  have hw : Region.wanted o (yielded ops act.tmps) = true := by simp [Region.wanted, hgd]
  rw [if_pos hw]
  subst hl
  obtain ⟨w', hr, h2, h3⟩ := run_clear_zero (P := Tryz.prog) 22 o.type (.int .u64 0) Tryz.underlying22 Tryz.zeroValue46 (size := 1) rfl (us_one [0]) h A k m c (by simpa using hA) hk
  unfold Oper.wp execOp
  simp only [ho, resolve, invoke, builtin, Sem.run_bind, Sem.run_pure, Result.andThen_ok, List.map_toArray, List.map_cons, List.map_nil, hx, hr]
  refine hK w' ?_ h3
  unfold OwU
  rw [clearL_len hk, us_clear, ← zero_us]
  simpa only [Nat.mul_one] using h2
theorem OwnH.cells {w : World} {base g i : Nat} {v : HeapV} {h : HeapB} {x : SpanV} (o : OwnH w base v h) (hg : v.sA = some ⟨g, 0, none⟩) (hx : v.vs[i]? = some x) : ∀ j u, x.cs[j]? = some u → w.cell? ⟨g, i * 8 + j, none⟩ = some u ∧ w.frozen? ⟨g, i * 8 + j, none⟩ = false := by
  intro j u hu
  have hj : j < 8 := (List.getElem?_eq_some_iff.1 hu).1
  have ho := o.sp
  rw [hg] at ho
  unfold OwS at ho
  have hlen : v.vs.length = v.sN := by rw [o.al.1, o.sn]
  rw [hlen] at ho
  exact own_cell ho (by rw [fl_get v.vs i j hj, hx]; exact hu)
theorem Sgt.vs {w0 w : World} {b fc oc : Nat} {v : HeapV} {fs : List Flt} {FA OA : Option Addr} {os : List VObj} (s : Sgt w0 w b v fs FA fc os OA oc) (l : List SpanV) : Sgt w0 w b { v with vs := l } fs FA fc os OA oc :=
  ⟨⟨s.st.c0, s.st.c1, s.st.c2, s.st.c3, s.st.c4, s.st.c5⟩, s.fo, s.oo, s.fr, s.lo, s.lt, s.hb⟩
theorem MS.bits {w0 w w1 : World} {b fc oc g i j : Nat} {v : HeapV} {h : HeapB} {fs : List Flt} {FA OA : Option Addr} {os : List VObj} {x y : SpanV} {s t : SpanB} {a d : Value} (m : MS w0 w b v h fs FA fc os OA oc) (hb : Below w.heap.size w w1)
    (hg : v.sA = some ⟨g, 0, none⟩) (hx : v.vs[i]? = some x) (hs : h.sp[i]? = some s) (hj : j + 1 < 8) (hy : y.cs = (x.cs.set j a).set (j + 1) d) (hN : OwN w1 w0.heap.size y t)
    (hal : ∀ k, (k = b ∨ (Value.slice v.aA v.aN v.aC).ownBlock = some k) → (Value.slice y.al.A y.al.m y.al.c).ownBlock ≠ some k ∧ (Value.slice y.ma.A y.ma.m y.ma.c).ownBlock ≠ some k) :
    MS w0 ((w1.setCell ⟨g, i * 8 + j, none⟩ a).setCell ⟨g, i * 8 + j + 1, none⟩ d) b { v with vs := v.vs.set i y } { h with sp := h.sp.set i t } fs FA fc os OA oc := by
  have m1 := m.later hb
  have ho := m1.own.sp
  rw [hg] at ho
  refine ⟨?_, m.own.bits hb hg hx hs hj hy hN (fun k hk => hal k (Or.inr hk)), ⟨m.nb.ar, m.nb.us, m.nb.sp, fun z hz => ?_⟩⟩
  · exact Sgt.vs (m1.s.gro (gset (gset (World.grownBy.refl _ _) _ _) _ _) (fun e => m.nb.sp (by rw [hg, e]; rfl)) (World.ownsRow.lt ho g rfl).1 (own_tag ho m1.s.fo (by decide) (k := g) rfl) (own_tag ho m1.s.oo (by decide) (k := g) rfl)) _
  · rcases List.mem_or_eq_of_mem_set hz with hz | rfl
    · exact m.nb.al z hz
    · exact hal b (Or.inl rfl)
theorem MS.putAl {w0 w w1 : World} {b fc oc g i : Nat} {v : HeapV} {h : HeapB} {fs : List Flt} {FA OA : Option Addr} {os : List VObj} {x : SpanV} {s : SpanB} {bv : BitV} {bb : BitB} (m : MS w0 w b v h fs FA fc os OA oc) (hb : Below w.heap.size w w1)
    (hg : v.sA = some ⟨g, 0, none⟩) (hx : v.vs[i]? = some x) (hs : h.sp[i]? = some s) (hn : bv.n = bb.n) (hm : bv.m = bb.w.length) (hc : bv.m ≤ bv.c) (ho : OwU w1 w.heap.size (.slice bv.A bv.m bv.c) bb.w) :
    MS w0 ((w1.setCell ⟨g, i * 8 + 3, none⟩ (.int .i64 bv.n)).setCell ⟨g, i * 8 + 4, none⟩ (.slice bv.A bv.m bv.c)) b { v with vs := v.vs.set i { x with al := bv } } { h with sp := h.sp.set i { s with al := bb } } fs FA fc os OA oc := by
  have n := (m.own.al.2 i x s hx hs)
  have n1 := n.below hb
  have hlo := m.s.lo.size
  refine m.bits (j := 3) (a := .int .i64 bv.n) (d := .slice bv.A bv.m bv.c) (y := { x with al := bv }) (t := { s with al := bb }) hb hg hx hs (by omega) rfl ⟨n1.first, n1.pages, n1.size, n1.sw, hn, hm, hc, ho.mono hlo, n1.mn, n1.mm, n1.mc, n1.ma⟩ (fun k hk => ?_)
  have hkl : k < w.heap.size := by
    rcases hk with rfl | hk
    · exact m.s.lt
    · exact (World.ownsRow.lt m.own.ar k hk).2
  refine ⟨fun e => by have := (World.ownsRow.lt ho k e).1; omega, ?_⟩
  rcases hk with rfl | hk
  · exact (m.nb.al x (List.mem_of_getElem? hx)).2
  · exact ((m.own.ap k hk).2 x (List.mem_of_getElem? hx)).2
theorem MS.putMa {w0 w w1 : World} {b fc oc g i : Nat} {v : HeapV} {h : HeapB} {fs : List Flt} {FA OA : Option Addr} {os : List VObj} {x : SpanV} {s : SpanB} {bv : BitV} {bb : BitB} (m : MS w0 w b v h fs FA fc os OA oc) (hb : Below w.heap.size w w1)
    (hg : v.sA = some ⟨g, 0, none⟩) (hx : v.vs[i]? = some x) (hs : h.sp[i]? = some s) (hn : bv.n = bb.n) (hm : bv.m = bb.w.length) (hc : bv.m ≤ bv.c) (ho : OwU w1 w.heap.size (.slice bv.A bv.m bv.c) bb.w) :
    MS w0 ((w1.setCell ⟨g, i * 8 + 5, none⟩ (.int .i64 bv.n)).setCell ⟨g, i * 8 + 6, none⟩ (.slice bv.A bv.m bv.c)) b { v with vs := v.vs.set i { x with ma := bv } } { h with sp := h.sp.set i { s with ma := bb } } fs FA fc os OA oc := by
  have n := (m.own.al.2 i x s hx hs)
  have n1 := n.below hb
  have hlo := m.s.lo.size
  refine m.bits (j := 5) (a := .int .i64 bv.n) (d := .slice bv.A bv.m bv.c) (y := { x with ma := bv }) (t := { s with ma := bb }) hb hg hx hs (by omega) rfl ⟨n1.first, n1.pages, n1.size, n1.sw, n1.an, n1.am, n1.ac, n1.al, hn, hm, hc, ho.mono hlo⟩ (fun k hk => ?_)
  have hkl : k < w.heap.size := by
    rcases hk with rfl | hk
    · exact m.s.lt
    · exact (World.ownsRow.lt m.own.ar k hk).2
  refine ⟨?_, fun e => by have := (World.ownsRow.lt ho k e).1; omega⟩
  rcases hk with rfl | hk
  · exact (m.nb.al x (List.mem_of_getElem? hx)).1
  · exact ((m.own.ap k hk).2 x (List.mem_of_getElem? hx)).1
end Go.Proofs.YtieijfefnedifaaGreatDoor
