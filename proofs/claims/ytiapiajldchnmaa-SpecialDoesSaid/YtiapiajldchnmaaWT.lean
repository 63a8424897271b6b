/- The walks of the reference's add and Add. -/
import Derived.Test.YtiapiajldchnmaaWS
import Derived.Deep.RegionLaw
namespace Go.Proofs.Ytiapiajldchnmaa
open Go.RowKit
set_option linter.unusedVariables false
set_option linter.unusedSimpArgs false

theorem fin_none {l : List Sp} {s : Sp} (h : ∀ m r, m < l.length → l[m]? = some r → fin2 s r = false) : (s.k == 1 && finalP l s.a) = false := by
  cases hk : s.k == 1 with
  | false => rfl
  | true =>
    simp only [Bool.true_and, finalP]
    rw [List.any_eq_false]
    intro r hr
    obtain ⟨m, hm, rfl⟩ := List.getElem_of_mem hr
    have := h m _ hm (List.getElem?_eq_getElem hm)
    simp only [fin2, hk, Bool.true_and] at this
    simp only [isP]
    intro e
    simp only [Bool.and_eq_true, beq_iff_eq] at e
    simp [e.1, e.2] at this
theorem fin_some {l : List Sp} {s r : Sp} (hr : r ∈ l) (h1 : (s.k == 1) = true) (h2 : (r.k == 1) = true) (h3 : (s.a == r.a) = true) : (s.k == 1 && finalP l s.a) = true := by
  rw [h1, Bool.true_and, finalP, List.any_eq_true]
  refine ⟨r, hr, ?_⟩
  simp only [beq_iff_eq] at h2 h3
  simp [isP, h2, h3]
theorem idx_lt {l : List Sp} {s : Sp} (h : Good l) {k : Nat} (hk : k < l.length) : (l[k].a ≤ s.a ∧ k < idxE l s) ∨ (¬ l[k].a ≤ s.a ∧ idxE l s ≤ k) := by
  by_cases hi : k < idxE l s
  · exact .inl ⟨idxE_lo l[k] (List.mem_of_getElem? (i := k) (by rw [List.getElem?_take, if_pos hi, List.getElem?_eq_getElem hk])), hi⟩
  · refine .inr ⟨?_, by omega⟩
    have := idxE_hi h.asc l[k] (List.mem_of_getElem? (i := k - idxE l s) (by rw [List.getElem?_drop, show idxE l s + (k - idxE l s) = k from by omega, List.getElem?_eq_getElem hk]))
    omega

theorem step_appN {ops : Array Oper} {o : Oper} {a : Act} {w : World} {K : Act → World → Prop} {Q : Exit → Act → World → Prop} {E : Prop}
    (hg : o.guard = none) (s x : Operand) (hop : o.op = Op.call { callee := Callee.builtin Builtin.append, args := #[s, x], argTypes := #[22, 22] })
    (base : Nat) (v : Value) (l0 l1 : List Sp) (m c : Nat) (hm : l1.length = m) (A : Option Addr) (hs : a.eval s = v) (hx : a.eval x = .slice A m c)
    (hown : OwS w base v l0) (hr : RdS w A l1) (hbytes : (l0.length + l1.length) * 24 ≤ 140737488355328) (hbase : base ≤ w.heap.size)
    (h : ∀ v' w', OwS w' base v' (l0 ++ l1) → w.grownBy w' v.ownBlock → K (a.put o.dst v') w') :
    if Region.wanted o (yielded ops a.tmps) = true then Oper.wp Try.prog o a w K Q else E := by
  have hw : Region.wanted o (yielded ops a.tmps) = true := by simp [Region.wanted, hg]
  rw [if_pos hw]
  subst hm
  obtain ⟨v', w', hr', h2, h3⟩ := run_append_rd (P := Try.prog) w base 22 o.type 41 _ 3 24 Try.underlying22 info41 rfl (by omega) v l0.length (fl l0) hown A l1.length c (fl l1) hr (fl_one l1) hbytes (by omega) hbase
  unfold Oper.wp execOp
  simp only [hop, resolve, invoke, builtin, Sem.run_bind, Sem.run_pure, Result.andThen_ok, List.map_toArray, List.map_cons, List.map_nil, hs, hx, hr']
  exact h _ _ (by unfold OwS; rw [List.length_append, fl_append]; exact h2) h3
theorem RdS.drop_ {w : World} {g : Nat} {l : List Sp} (h : RdS w (some ⟨g, 0, none⟩) l) (k : Nat) : RdS w (some ⟨g, k * 3, none⟩) (l.drop k) := by
  refine ⟨fl_len _, Nat.le_trans (by simp) h.len, fun hn => ?_⟩
  have hkl : k < l.length := by rw [List.length_drop] at hn; omega
  obtain ⟨b, o, e, hb, hc⟩ := h.2.2 (by omega)
  simp only [Option.some.injEq, Addr.mk.injEq, and_true] at e
  obtain ⟨rfl, rfl⟩ := e
  refine ⟨g, k * 3, rfl, hb, fun j v hv => ?_⟩
  have := hc (k * 3 + j) v (by
    have e2 : fl (l.drop k) = (fl l).drop (k * 3) := flat_drop Sp.cs 3 Sp.cs_len l k
    rw [e2, List.getElem?_drop] at hv
    exact hv)
  rw [Nat.zero_add] at this
  exact this

theorem RdS.grown {W W' : World} {r : Option Nat} {b o : Nat} {l : List Sp} (h : RdS W (some ⟨b, o, none⟩) l) (hg : W.grownBy W' r) (hne : some b ≠ r) : RdS W' (some ⟨b, o, none⟩) l :=
  ⟨h.1, h.2.1, fun hn => by
    obtain ⟨b', o', e, hb, hc⟩ := h.2.2 hn
    simp only [Option.some.injEq, Addr.mk.injEq, and_true] at e
    obtain ⟨rfl, rfl⟩ := e
    exact ⟨b, o, rfl, Nat.lt_of_lt_of_le hb hg.size, fun j v hv => gcell hg (hc j v hv) hne⟩⟩

def RetA (l : List Sp) (s : Sp) (w : World) (e : Ending) (w' : World) : Prop := ∃ v, e = .returned (.tuple #[v, .int .i64 (putE l s)]) ∧ (putE l s = 0 → OwS w' w.heap.size v (putL l s)) ∧ Below w.heap.size w w'

set_option maxRecDepth 100000 in
set_option maxHeartbeats 8000000 in
theorem add24 (l : List Sp) (A : Option Addr) (c : Nat) (s : Sp) (w : World) (hr : RdS w A l) (hc : l.length ≤ c) (hG : Good l) (hA : (A = none ∧ c = 0 ∧ l = []) ∨ ∃ g, A = some ⟨g, 0, none⟩) : Calls Try.prog 24 #[.slice A l.length c, s.v] w (RetA l s w) := by
  have hl := hr.len
  have hlen := hG.len
  have HR := Lib.hid hr
  have HG := Lib.hid hG
  clear hr hG
  have HS := Lib.hid (rfl : s = s)
  have hb0 : Below w.heap.size w (w.alloc (.cells #[.int .u64 s.a, .int .u8 s.k, .int .u64 s.t] 41)) := balloc (Below.refl _ _) _
  have F1 : Hid ((w.alloc (.cells #[.int .u64 s.a, .int .u8 s.k, .int .u64 s.t] 41)).cell? ⟨w.heap.size, 0, none⟩ = some (.int .u64 s.a)) := by show _ = _; go_simp
  have F2 : Hid ((w.alloc (.cells #[.int .u64 s.a, .int .u8 s.k, .int .u64 s.t] 41)).cell? ⟨w.heap.size, 1, none⟩ = some (.int .u8 s.k)) := by show _ = _; go_simp
  have F3 : Hid ((w.alloc (.cells #[.int .u64 s.a, .int .u8 s.k, .int .u64 s.t] 41)).cell? ⟨w.heap.size, 2, none⟩ = some (.int .u64 s.t)) := by show _ = _; go_simp
  have C35 := Lib.hid (fun W => one35 s W)
  unfold Sp.v at *
  cases h1 : oneP s with
  | false =>
    have E : Hid (putE l s = 2) := by show _ = _; simp [putE, h1]
    rw [h1] at C35
    clear h1
    go_enter Try.func24, Try.ntmps24
    go_wp2_with fail
    refine (C35.out _).mono ?_
    rintro e w1 ⟨rfl, hb1⟩
    go_wp2
    go_ret2
    exact ⟨_, by rw [E.out]; rfl, fun h => by { rw [E.out] at h; cases h }, bthen hb0 hb1⟩
  | true =>
    have E := Lib.hid h1
    rw [h1] at C35
    clear h1
    go_enter Try.func24, Try.ntmps24
    go_wp2_with fail
    refine (C35.out _).mono ?_
    rintro e w1 ⟨rfl, hb1⟩
    have HB1 := Lib.hid (bthen hb0 hb1)
    have F1 := Lib.hid (cell_later hb1 F1.out)
    have F2 := Lib.hid (cell_later hb1 F2.out)
    have F3 := Lib.hid (cell_later hb1 F3.out)
    have HLT0 : Hid (w.heap.size < w1.heap.size) := by
      have := hb1.size
      simp at this
      show _ < _
      omega
    clear hb1 hb0 C35
    go_wp2_with fail
    go_loopw [6, 15] (fun v i wr => ∃ k a : Nat, k ≤ l.length ∧ i = .int .i64 k ∧ v = .int .i64 a ∧ a = min k (idxE l s) ∧ Hid (∀ m r, m < k → l[m]? = some r → fin2 s r = false) ∧ Hid (Below w1.heap.size w1 wr)) (fun _ i _ => l.length - (intOf i).toNat)
    case atStart => exact ⟨0, 0, Nat.zero_le _, rfl, rfl, by simp, fun m r h => by omega, Below.refl _ _⟩
    case round =>
      obtain ⟨k, a, hk, rfl, rfl, ha, HN, HB⟩ := hrel
      obtain ⟨wo, rfl⟩ : ∃ wo : World, wo = wr := ⟨_, rfl⟩
      have hil := idxE_le l s
      by_cases hlt : k < l.length
      · have hs : l[k]? = some l[k] := List.getElem?_eq_getElem hlt
        obtain ⟨b, o, rfl, hB, c1, c2, c3⟩ := (HR.out.below (bthen HB1.out HB.out)).at_ hs
        have LT := idx_lt (s := s) HG.out hlt
        have FS := Lib.hid (fin_some (s := s) (List.getElem_mem hlt))
        have FM := Lib.hid (fun (h : fin2 s l[k] = false) => fin_more HN.out hs h)
        generalize l[k] = r at *
        clear hs
        have g1 := cell_later (balloc HB.out (Obj.cells #[.int .u64 r.a, .int .u8 r.k, .int .u64 r.t] 41)) F1.out
        have g2 := cell_later (balloc HB.out (Obj.cells #[.int .u64 r.a, .int .u8 r.k, .int .u64 r.t] 41)) F2.out
        have hf : fin2 s r = false ∨ ((s.k == 1) = true ∧ (r.k == 1) = true ∧ (s.a == r.a) = true) := by
          unfold fin2
          cases (s.k == 1) <;> cases (r.k == 1) <;> cases (s.a == r.a) <;> simp
        rcases hf with hf | ⟨q1, q2, q3⟩
        · have MORE := Lib.hid (FM.out hf)
          have hq : (s.k == 1) = false ∨ ((s.k == 1) = true ∧ (r.k == 1) = false) ∨ ((s.k == 1) = true ∧ (r.k == 1) = true ∧ (s.a == r.a) = false) := by
            revert hf
            unfold fin2
            cases (s.k == 1) <;> cases (r.k == 1) <;> cases (s.a == r.a) <;> simp
          clear FS FM hf
          rcases LT with ⟨t1, t2⟩ | ⟨t1, t2⟩
          · rcases hq with q1 | ⟨q1, q2⟩ | ⟨q1, q2, q3⟩ <;>
            · go_wp2
              go_roundw
              case rel => exact ⟨k + 1, k + 1, by omega, by go_num, by go_num, by omega, MORE.out, balloc HB.out _⟩
              case measure => simp [intOf]; omega
          · rcases hq with q1 | ⟨q1, q2⟩ | ⟨q1, q2, q3⟩ <;>
            · go_wp2
              go_roundw
              case rel => exact ⟨k + 1, a, by omega, by go_num, by go_num, by omega, MORE.out, balloc HB.out _⟩
              case measure => simp [intOf]; omega
        · have PE : Hid (putE l s = 4) := by show _ = _; unfold putE; rw [if_neg (by rw [E.out]; simp), if_pos (FS.out q1 q2 q3)]
          clear FS FM LT
          go_wp2
          go_ret2
          exact ⟨_, by rw [PE.out]; rfl, fun h => by { rw [PE.out] at h; cases h }, bthen HB1.out (balloc HB.out _)⟩
      · have hkl : k = l.length := by omega
        subst hkl
        have ha' : a = idxE l s := by omega
        have NO := Lib.hid (fin_none HN.out)
        clear hlt hk HN
        by_cases h64 : l.length = 64
        · have PE : Hid (putE l s = 6) := by show _ = _; unfold putE; rw [if_neg (by rw [E.out]; simp), if_neg (by rw [NO.out]; simp), if_pos h64]
          have h64' : ((l.length : Int) == 64) = true := by rw [h64]; rfl
          clear h64
          go_wp2
          go_ret2
          exact ⟨_, by rw [PE.out]; rfl, fun h => by { rw [PE.out] at h; cases h }, bthen HB1.out HB.out⟩
        · have PE : Hid (putE l s = 0 ∧ putL l s = l.take a ++ [s] ++ l.drop a) := by
            show _ ∧ _
            unfold putE putL
            rw [if_neg (by rw [E.out]; simp), if_neg (by rw [NO.out]; simp), if_neg h64, if_neg (by rw [E.out]; simp), if_neg (by rw [NO.out]; simp), if_neg h64, ha']
            exact ⟨rfl, by simp [insP]⟩
          have h64' : ((l.length : Int) == 64) = false := by rw [beq_eq_false_iff_ne]; omega
          have g1 := cell_later HB.out F1.out
          have g2 := cell_later HB.out F2.out
          have g3 := cell_later HB.out F3.out
          have hal : a ≤ l.length := by omega
          clear ha ha' F1 F2 F3 E NO hil
          go_wp2
          have HBo := bthen HB1.out HB.out
          have hsz := HB.out.size
          have hlt0 := HLT0.out
          have HBa : Hid (Below w.heap.size w (wo.alloc (Obj.cells #[] 41)).drew) := (balloc HBo _).drew
          have HBb : Hid (Below w.heap.size w ((wo.alloc (Obj.cells #[] 41)).alloc (Obj.cells #[.int .u64 s.a, .int .u8 s.k, .int .u64 s.t] 41)).drew) := (balloc (balloc HBo _) _).drew
          have HBc : Hid (Below w.heap.size w ((wo.alloc (Obj.cells #[.int .u64 s.a, .int .u8 s.k, .int .u64 s.t] 41)).alloc (Obj.cells #[] 41)).drew) := (balloc (balloc HBo _) _).drew
          have HOa : Hid (OwS (wo.alloc (Obj.cells #[] 41)).drew w.heap.size (.slice (some ⟨wo.heap.size, 0, none⟩) 0 0) []) := ((made_empty wo).mono HBo.size).below (Below.refl _ _).drew
          have HOb : Hid (OwS ((wo.alloc (Obj.cells #[] 41)).alloc (Obj.cells #[.int .u64 s.a, .int .u8 s.k, .int .u64 s.t] 41)).drew w.heap.size (.slice (some ⟨wo.heap.size, 0, none⟩) 0 0) []) := OwS.below (World.ownsRow.alloc ((made_empty wo).mono HBo.size) _) (Below.refl _ _).drew
          have HOc : Hid (OwS ((wo.alloc (Obj.cells #[.int .u64 s.a, .int .u8 s.k, .int .u64 s.t] 41)).alloc (Obj.cells #[] 41)).drew w.heap.size (.slice (some ⟨wo.heap.size + 1, 0, none⟩) 0 0) []) := by
            have h := ((made_empty (wo.alloc (Obj.cells #[.int .u64 s.a, .int .u8 s.k, .int .u64 s.t] 41))).mono (balloc HBo _).size).below (Below.refl _ _).drew
            rw [show (wo.alloc (Obj.cells #[.int .u64 s.a, .int .u8 s.k, .int .u64 s.t] 41)).heap.size = wo.heap.size + 1 from by simp] at h
            exact h
          have HSb : Hid (RdS ((wo.alloc (Obj.cells #[] 41)).alloc (Obj.cells #[.int .u64 s.a, .int .u8 s.k, .int .u64 s.t] 41)).drew (some ⟨wo.heap.size + 1, 0, none⟩) [s]) := by
            have h := (rdS_new (wo.alloc (Obj.cells #[] 41)) s).below (Below.refl _ _).drew
            rw [show (wo.alloc (Obj.cells #[] 41)).heap.size = wo.heap.size + 1 from by simp] at h
            exact h
          have HSc : Hid (RdS ((wo.alloc (Obj.cells #[.int .u64 s.a, .int .u8 s.k, .int .u64 s.t] 41)).alloc (Obj.cells #[] 41)).drew (some ⟨wo.heap.size, 0, none⟩) [s]) := ((rdS_new wo s).below (balloc (Below.refl _ _) _)).below (Below.refl _ _).drew
          have HN0 : Hid (some w.heap.size ≠ some wo.heap.size) := by intro e; simp at e; omega
          have HN1 : Hid (some w.heap.size ≠ some (wo.heap.size + 1)) := by intro e; simp at e; omega
          have HN2 : Hid (some (wo.heap.size + 1) ≠ some wo.heap.size) := by intro e; simp at e
          have HN3 : Hid (some wo.heap.size ≠ some (wo.heap.size + 1)) := by intro e; simp at e
          have ga1 := cell_later (balloc (Below.refl _ wo) (Obj.cells #[] 41)) g1
          have ga2 := cell_later (balloc (Below.refl _ wo) (Obj.cells #[] 41)) g2
          have ga3 := cell_later (balloc (Below.refl _ wo) (Obj.cells #[] 41)) g3
          rcases hA with ⟨rfl, rfl, rfl⟩ | ⟨g, rfl⟩
          · obtain rfl : a = 0 := by simpa using hal
            have PE : Hid (putE [] s = 0 ∧ putL [] s = [s]) := by show _ ∧ _; exact PE.out
            clear hsz hlt0 HBo hal
            go_region_law (first
              | (refine step_appN rfl (.tmp 48) (.tmp 51) rfl w.heap.size (.slice (some ⟨wo.heap.size, 0, none⟩) 0 0) [] [] 0 0 rfl none rfl rfl HOa.out (RdS.nil_ _ _) (by decide) HBa.out.size ?_; intro v1 w2 ho1 hg1; have HB2 := Lib.hid (bown HBa.out hg1 HOa.out); have HO1 : Hid (OwS w2 w.heap.size v1 []) := ho1; have q1 := gcell hg1 ga1 HN0.out; have q2 := gcell hg1 ga2 HN0.out; have q3 := gcell hg1 ga3 HN0.out; clear ho1 hg1 g1 g2 g3 ga1 ga2 ga3)
              | (refine step_appN rfl (.tmp 48) (.tmp 51) rfl w.heap.size (.slice (some ⟨wo.heap.size, 0, none⟩) 0 0) [] [] 0 0 rfl none rfl rfl HOb.out (RdS.nil_ _ _) (by decide) HBb.out.size ?_; intro v1 w2 ho1 hg1; have HB2 := Lib.hid (bown HBb.out hg1 HOb.out); have HO1 : Hid (OwS w2 w.heap.size v1 []) := ho1; have HS2 := Lib.hid (HSb.out.grown hg1 HN2.out); clear ho1 hg1 g1 g2 g3 ga1 ga2 ga3)
              | (refine step_appN rfl (.tmp 48) (.tmp 51) rfl w.heap.size (.slice (some ⟨wo.heap.size + 1, 0, none⟩) 0 0) [] [] 0 0 rfl none rfl rfl HOc.out (RdS.nil_ _ _) (by decide) HBc.out.size ?_; intro v1 w2 ho1 hg1; have HB2 := Lib.hid (bown HBc.out hg1 HOc.out); have HO1 : Hid (OwS w2 w.heap.size v1 []) := ho1; have HS2 := Lib.hid (HSc.out.grown hg1 HN3.out); clear ho1 hg1 g1 g2 g3 ga1 ga2 ga3)
              | (refine step_appN rfl (.tmp 52) (.tmp 54) rfl w.heap.size v1 [] [s] 1 1 rfl (some ⟨w2.heap.size, 0, none⟩) rfl rfl (World.ownsRow.alloc HO1.out _) (rdS_new w2 s) (by simp) (balloc HB2.out _).size ?_; intro v2 w3 ho2 hg2; have HB3 := Lib.hid (bown (balloc HB2.out _) hg2 (World.ownsRow.alloc HO1.out _)); have HO2 : Hid (OwS w3 w.heap.size v2 [s]) := ho2; clear ho2 hg2)
              | (refine step_appN rfl (.tmp 52) (.tmp 54) rfl w.heap.size v1 [] [s] 1 1 rfl _ rfl rfl HO1.out HS2.out (by simp) HB2.out.size ?_; intro v2 w3 ho2 hg2; have HB3 := Lib.hid (bown HB2.out hg2 HO1.out); have HO2 : Hid (OwS w3 w.heap.size v2 [s]) := ho2; clear ho2 hg2)
              | (refine step_appN rfl (.tmp 55) (.tmp 58) rfl w.heap.size v2 [s] [] 0 0 rfl none rfl rfl HO2.out (RdS.nil_ _ _) (by simp) HB3.out.size ?_; intro v3 w4 ho3 hg3; have HB4 := Lib.hid (bown HB3.out hg3 HO2.out); have HO3 : Hid (OwS w4 w.heap.size v3 [s]) := ho3; clear ho3 hg3))
            all_goals
              go_wp2
              all_goals
                go_ret2
                exact ⟨_, by rw [PE.out.1]; rfl, fun _ => by { rw [PE.out.2]; exact HO3.out }, HB4.out⟩
          · have n1 : (a : Int) ≤ (c : Int) := by omega
            have n2 : (a : Int) ≤ (l.length : Int) := by omega
            have n3 : (l.length : Int) ≤ (c : Int) := by omega
            have n4 : ¬ (c : Int) < (a : Int) := by omega
            have n5 : ¬ (a : Int) < 0 := by omega
            have n6 : a ≤ c := by omega
            have HLTK : Hid ((l.take a).length = a) := by show _ = _; rw [List.length_take]; omega
            have HLDR : Hid ((l.drop a).length = l.length - a) := by show _ = _; rw [List.length_drop]
            have HY1 : Hid ((([] : List Sp).length + (l.take a).length) * 24 ≤ 140737488355328) := by show _ ≤ _; rw [HLTK.out]; simp; omega
            have HY2 : Hid (((l.take a).length + [s].length) * 24 ≤ 140737488355328) := by show _ ≤ _; rw [HLTK.out]; simp; omega
            have HY3 : Hid (((l.take a ++ [s]).length + (l.drop a).length) * 24 ≤ 140737488355328) := by show _ ≤ _; rw [List.length_append, HLTK.out, HLDR.out]; simp; omega
            have HRa := Lib.hid ((HR.out.below HBa.out).take_ a hal)
            have HRb := Lib.hid ((HR.out.below HBb.out).take_ a hal)
            have HRc := Lib.hid ((HR.out.below HBc.out).take_ a hal)
            have HRD : Hid (∀ W, Below w.heap.size w W → RdS W (if c = a then some ⟨g, 0, none⟩ else some ⟨g, a * 3, none⟩) (l.drop a)) := by
              intro W hW
              split
              · rw [List.drop_of_length_le (by omega)]
                exact RdS.nil_ _ _
              · exact (HR.out.below hW).drop_ a
            clear hal hsz hlt0 HBo
            go_region_law (first
              | (refine step_appN rfl (.tmp 48) (.tmp 51) rfl w.heap.size (.slice (some ⟨wo.heap.size, 0, none⟩) 0 0) [] (l.take a) a c HLTK.out (some ⟨g, 0, none⟩) rfl rfl HOa.out HRa.out HY1.out HBa.out.size ?_; intro v1 w2 ho1 hg1; have HB2 := Lib.hid (bown HBa.out hg1 HOa.out); have HO1 : Hid (OwS w2 w.heap.size v1 (l.take a)) := ho1; have q1 := gcell hg1 ga1 HN0.out; have q2 := gcell hg1 ga2 HN0.out; have q3 := gcell hg1 ga3 HN0.out; clear ho1 hg1 g1 g2 g3 ga1 ga2 ga3)
              | (refine step_appN rfl (.tmp 48) (.tmp 51) rfl w.heap.size (.slice (some ⟨wo.heap.size, 0, none⟩) 0 0) [] (l.take a) a c HLTK.out (some ⟨g, 0, none⟩) rfl rfl HOb.out HRb.out HY1.out HBb.out.size ?_; intro v1 w2 ho1 hg1; have HB2 := Lib.hid (bown HBb.out hg1 HOb.out); have HO1 : Hid (OwS w2 w.heap.size v1 (l.take a)) := ho1; have HS2 := Lib.hid (HSb.out.grown hg1 HN2.out); clear ho1 hg1 g1 g2 g3 ga1 ga2 ga3)
              | (refine step_appN rfl (.tmp 48) (.tmp 51) rfl w.heap.size (.slice (some ⟨wo.heap.size + 1, 0, none⟩) 0 0) [] (l.take a) a c HLTK.out (some ⟨g, 0, none⟩) rfl rfl HOc.out HRc.out HY1.out HBc.out.size ?_; intro v1 w2 ho1 hg1; have HB2 := Lib.hid (bown HBc.out hg1 HOc.out); have HO1 : Hid (OwS w2 w.heap.size v1 (l.take a)) := ho1; have HS2 := Lib.hid (HSc.out.grown hg1 HN3.out); clear ho1 hg1 g1 g2 g3 ga1 ga2 ga3)
              | (refine step_appN rfl (.tmp 52) (.tmp 54) rfl w.heap.size v1 (l.take a) [s] 1 1 rfl (some ⟨w2.heap.size, 0, none⟩) rfl rfl (World.ownsRow.alloc HO1.out _) (rdS_new w2 s) HY2.out (balloc HB2.out _).size ?_; intro v2 w3 ho2 hg2; have HB3 := Lib.hid (bown (balloc HB2.out _) hg2 (World.ownsRow.alloc HO1.out _)); have HO2 := Lib.hid ho2; clear ho2 hg2)
              | (refine step_appN rfl (.tmp 52) (.tmp 54) rfl w.heap.size v1 (l.take a) [s] 1 1 rfl _ rfl rfl HO1.out HS2.out HY2.out HB2.out.size ?_; intro v2 w3 ho2 hg2; have HB3 := Lib.hid (bown HB2.out hg2 HO1.out); have HO2 := Lib.hid ho2; clear ho2 hg2)
              | (refine step_appN rfl (.tmp 55) (.tmp 58) rfl w.heap.size v2 (l.take a ++ [s]) (l.drop a) (l.length - a) _ HLDR.out _ rfl rfl HO2.out (HRD.out _ HB3.out) HY3.out HB3.out.size ?_; intro v3 w4 ho3 hg3; have HB4 := Lib.hid (bown HB3.out hg3 HO2.out); have HO3 := Lib.hid ho3; clear ho3 hg3))
            all_goals
              go_wp2
              all_goals
                go_ret2
                exact ⟨_, by rw [PE.out.1]; rfl, fun _ => by { rw [PE.out.2]; exact HO3.out }, HB4.out⟩
end Go.Proofs.Ytiapiajldchnmaa
