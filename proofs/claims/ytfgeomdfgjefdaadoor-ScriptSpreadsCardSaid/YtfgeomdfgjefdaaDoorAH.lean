/- The walk of Parse. -/
import Derived.Test.YtfgeomdfgjefdaaDoorAG
import Derived.Lib.SplitLaws
namespace Go.Proofs.YtfgeomdfgjefdaaDoor
open Go.RowKit
set_option linter.unusedVariables false
set_option linter.unusedSimpArgs false

def piecesL (l : List UInt8) : List (List UInt8) := Lib.splitK [10] 0 (Lib.countB ⟨l.toArray⟩ ⟨#[10]⟩) l
theorem splitK_len : ∀ (k : Nat) (l : List UInt8), ∀ p ∈ Lib.splitK [10] 0 k l, p.length ≤ l.length := by
  intro k
  induction k with
  | zero => intro l p hp; simp [Lib.splitK] at hp; rw [hp]; exact Nat.le_refl _
  | succ k ih =>
    intro l p hp
    unfold Lib.splitK at hp
    split at hp
    · simp at hp; rw [hp]; exact Nat.le_refl _
    · rcases List.mem_cons.1 hp with rfl | hp
      · rw [List.length_take]; omega
      · have := ih _ p hp
        rw [List.length_drop] at this
        omega
theorem pieces_enc (l : List UInt8) : (Lib.splitB ⟨#[10]⟩ 0 (Lib.countB ⟨l.toArray⟩ ⟨#[10]⟩) ⟨l.toArray⟩).map Value.string = (piecesL l).map strV := by
  have h := Lib.splitB_data ⟨#[10]⟩ 0 (Lib.countB ⟨l.toArray⟩ ⟨#[10]⟩) ⟨l.toArray⟩
  have e : piecesL l = (Lib.splitB ⟨#[10]⟩ 0 (Lib.countB ⟨l.toArray⟩ ⟨#[10]⟩) ⟨l.toArray⟩).map (·.data.toList) := by rw [h]; rfl
  rw [e, List.map_map]
  apply List.map_congr_left
  intro s _
  simp [strV]
theorem pieces_length (l : List UInt8) : (piecesL l).length = Lib.countB ⟨l.toArray⟩ ⟨#[10]⟩ + 1 := by
  have h := congrArg List.length (pieces_enc l)
  rw [List.length_map, List.length_map, Lib.splitB_all ⟨#[10]⟩ (by decide) 0 _ _ rfl] at h
  exact h.symm
theorem count_le (l : List UInt8) : Lib.countB ⟨l.toArray⟩ ⟨#[10]⟩ ≤ l.length := by
  have h := Lib.countB_le ⟨#[10]⟩ (by decide) _ ⟨l.toArray⟩ (Nat.le_refl _)
  have e : (⟨l.toArray⟩ : ByteArray).size = l.length := by simp [ByteArray.size]
  omega
def parseGo (rd : List UInt8 → Ev × Bool) : List (List UInt8) → Nat → List Ev → List Ev × Int × Int
  | [], _, out => (out, 0, 0)
  | p :: r, i, out => if p = [] then parseGo rd r (i + 1) out else if (rd p).2 = false then ([], ((i + 1 : Nat) : Int), 2) else if out.length = 4096 then ([], ((i + 1 : Nat) : Int), 6) else parseGo rd r (i + 1) (out ++ [(rd p).1])
def parseP (rd : List UInt8 → Ev × Bool) (l : List UInt8) : List Ev × Int × Int := if 65536 < l.length then ([], 0, 1) else parseGo rd (piecesL l) 0 []
def RetPa (x : List Ev × Int × Int) (w : World) (e : Ending) (w' : World) : Prop := ∃ v, e = .returned (.tuple #[v, .int .i64 x.2.1, .int .i64 x.2.2]) ∧ OwS w' w.heap.size v x.1 ∧ Below w.heap.size w w'
set_option maxRecDepth 100000 in
set_option maxHeartbeats 32000000 in
theorem parse8 (l : List UInt8) (hl : l.length ≤ 9223372036854775807) (w : World) (hE : Env w) : Calls Tryd.prog 8 #[strV l] w (RetPa (parseP readP l) w) := by
  by_cases hbig : 65536 < l.length
  · have HP : Hid (parseP readP l = ([], 0, 1)) := if_pos hbig
    have h1 : (65536 : Int) < (l.length : Int) := by omega
    unfold strV
    clear hE hbig
    go_enter Tryd.func8, Tryd.ntmps8
    go_wp2
    refine bodyPost_ret (v := .tuple #[.slice none 0 0, .int .i64 0, .int .i64 1]) (by simp [results, Tryd.results8, go_sem]) rfl ?_
    rw [HP.out]
    exact ⟨_, rfl, OwS.nil_ _ _, Below.refl _ _⟩
  · have HP : Hid (parseP readP l = parseGo readP (piecesL l) 0 []) := if_neg hbig
    have h1 : ¬ (65536 : Int) < (l.length : Int) := by omega
    have hl6 : l.length ≤ 65536 := by omega
    have hcl := count_le l
    have HPL := Lib.hid (pieces_length l)
    have HPS : Hid (∀ p ∈ piecesL l, p.length ≤ 65536) := fun p hp => by have := splitK_len _ _ p hp; omega
    have HEN := Lib.hid hE
    have HSP : Hid (Calls Tryd.prog 22 #[.string ⟨l.toArray⟩, .string ⟨#[10]⟩] w (fun e w' => e = .returned (.slice (some ⟨w.heap.size, 0, none⟩) (Lib.countB ⟨l.toArray⟩ ⟨#[10]⟩ + 1) (Lib.countB ⟨l.toArray⟩ ⟨#[10]⟩ + 1)) ∧ Below w.heap.size w w' ∧ w'.heap[w.heap.size]? = some (.cells ((piecesL l).map strV).toArray 9 (0, 0)))) := by
      obtain ⟨m, hm⟩ := hE.cut
      refine (Tryd.strings_Split ⟨l.toArray⟩ ⟨#[10]⟩ m w (by simp [ByteArray.size]; omega) hm (by decide)).mono ?_
      rintro e w' ⟨rfl, rfl⟩
      rw [pieces_enc]
      exact ⟨rfl, balloc (Below.refl _ _) _, heap_alloc_new w _⟩
    clear hE hbig h1
    have h2 : ¬ (65536 : Int) < (l.length : Int) := by omega
    rw [← HPL.out] at HSP
    generalize Lib.countB ⟨l.toArray⟩ ⟨#[10]⟩ = cn at *
    have hpl : (piecesL l).length ≤ 65537 := by rw [HPL.out]; omega
    generalize piecesL l = ps at *
    clear HPL hcl
    unfold strV
    unfold strV at HSP
    go_enter Tryd.func8, Tryd.ntmps8
    go_wp2_with (go_at_call 22; refine HSP.out.mono ?_)
    rintro e w1 rfl hb1 hblk
    have HB1 := Lib.hid hb1
    have HBK := Lib.hid hblk
    clear HSP hb1 hblk
    go_wp2
    go_loopw [5, 16] (fun p i wr => ∃ (k : Nat) (out : List Ev), i = .int .i64 k ∧ k ≤ ps.length ∧ out.length ≤ 4096 ∧ Hid (OwS wr w1.heap.size p out) ∧ Hid (parseGo readP (ps.drop k) k out = parseGo readP ps 0 []) ∧ Hid (Below w1.heap.size w1 wr)) (fun _ i _ => ps.length - (intOf i).toNat)
    case atStart => exact ⟨0, [], rfl, Nat.zero_le _, by simp, OwS.nil_ _ _, rfl, Below.refl _ _⟩
    case round =>
      obtain ⟨k, out, rfl, hk, hol, HO, HG, HB⟩ := hrel
      have HBW := Lib.hid (bthen HB1.out HB.out)
      obtain ⟨P, cp, rfl, hcp, hrp⟩ := HO.out.shape
      have hbs := HB.out.size
      clear hrp
      by_cases hlt : k < ps.length
      · have hlt1 : (k : Int) < (ps.length : Int) := by omega
        have hx : ps[k]? = some ps[k] := List.getElem?_eq_getElem hlt
        have HD : Hid (ps.drop k = ps[k] :: ps.drop (k + 1)) := List.drop_eq_getElem_cons hlt
        have hmem := List.getElem_mem hlt
        generalize ps[k] = s at hx HD hmem
        have hsl := HPS.out s hmem
        have hgl : w.heap.size < w1.heap.size := (Array.getElem?_eq_some_iff.1 HBK.out).1
        have hc : wr.cell? ⟨w.heap.size, k, none⟩ = some (.string ⟨s.toArray⟩) := by
          have h1 := cell_of_row wr w.heap.size k (ps.map strV).toArray 9 (0, 0) ((HB.out.block w.heap.size hgl).trans HBK.out)
          rw [h1]
          simp [strV, hx]
        have HGO : Hid (parseGo readP (ps.drop k) k out = if s = [] then parseGo readP (ps.drop (k + 1)) (k + 1) out else if (readP s).2 = false then ([], ((k + 1 : Nat) : Int), 2) else if out.length = 4096 then ([], ((k + 1 : Nat) : Int), 6) else parseGo readP (ps.drop (k + 1)) (k + 1) (out ++ [(readP s).1])) := by show _ = _; rw [HD.out, parseGo]
        have HRX := Lib.hid (read23 s (by omega) wr (HEN.out.below HBW.out))
        unfold RetEB strV at HRX
        clear hx HD hmem
        by_cases hz : s = []
        · rw [if_pos hz] at HGO
          have HG2 := Lib.hid (HGO.out.symm.trans HG.out)
          subst hz
          clear HGO HG HRX
          go_wp2
          go_roundw
          case rel => exact ⟨k + 1, out, by go_num, by omega, hol, HO.out, HG2.out, HB.out⟩
          case measure => simp [intOf]; omega
        · have z1 : s.isEmpty = false := by cases s with | nil => exact absurd rfl hz | cons => rfl
          obtain ⟨z2, z3, z4, z5⟩ := str_ne hz
          rw [if_neg hz] at HGO
          have hcx := World.block_lt_of_cell? _ _ hc
          generalize readP s = rd at *
          obtain ⟨e0, ok0⟩ := rd
          obtain ⟨t0, wh0, k0, tw0, n0⟩ := e0
          unfold Ev.v at HRX
          simp only at HRX HGO
          clear hz
          go_wp2_with (go_at_call 23; refine HRX.out.mono ?_)
          rintro e w3 rfl hb3
          have HB3 := Lib.hid (bthen HB.out hb3)
          have HO3 := Lib.hid (HO.out.below hb3)
          have HVE := Lib.hid (VarE.made w3 ⟨t0, wh0, k0, tw0, n0⟩)
          have HBA : Hid (Below w3.heap.size w3 (w3.alloc (.cells #[.bool t0, .int .i64 wh0, .int .u8 k0, .int .i64 tw0, .int .i64 n0] 41))) := balloc (Below.refl _ _) _
          have HB4 := Lib.hid (bthen HB3.out HBA.out)
          have HO4 := Lib.hid (HO3.out.below HBA.out)
          have HBW4 := Lib.hid (bthen HB1.out HB4.out)
          clear hb3 hc hcx HRX
          cases ok0 with
          | false =>
            rw [if_pos rfl] at HGO
            have HFIN := Lib.hid (HP.out.trans (HG.out.symm.trans HGO.out))
            go_wp2
            refine bodyPost_ret (v := .tuple #[.slice none 0 0, .int .i64 ((k : Int) + 1), .int .i64 2]) (by simp [results, Tryd.results8, go_sem]) rfl ?_
            rw [HFIN.out]
            exact ⟨_, rfl, OwS.nil_ _ _, HBW4.out⟩
          | true =>
            rw [if_neg (by simp)] at HGO
            by_cases hfull : out.length = 4096
            · rw [if_pos hfull] at HGO
              have HFIN := Lib.hid (HP.out.trans (HG.out.symm.trans HGO.out))
              have hf1 : ((out.length : Int) == 4096) = true := by rw [hfull]; rfl
              clear hfull
              go_wp2
              refine bodyPost_ret (v := .tuple #[.slice none 0 0, .int .i64 ((k : Int) + 1), .int .i64 6]) (by simp [results, Tryd.results8, go_sem]) rfl ?_
              rw [HFIN.out]
              exact ⟨_, rfl, OwS.nil_ _ _, HBW4.out⟩
            · rw [if_neg hfull] at HGO
              have HG2 := Lib.hid (HGO.out.symm.trans HG.out)
              have hf1 : ((out.length : Int) == 4096) = false := by rw [beq_eq_false_iff_ne]; omega
              have hf2 : (out.length == 4096) = false := by rw [beq_eq_false_iff_ne]; exact hfull
              clear HGO HG
              go_upto_region 13 with fail
              generalize hW : w3.alloc (.cells #[.bool t0, .int .i64 wh0, .int .u8 k0, .int .i64 tw0, .int .i64 n0] 41) = w4 at *
              generalize w3.heap.size = b4 at *
              clear hW
              obtain ⟨j0, j1, j2, j3, j4, -⟩ := HVE.out
              simp only at j0 j1 j2 j3 j4
              have mj := World.block_lt_of_cell? _ _ j0
              have HX := Lib.hid (rd_ev w4 ⟨t0, wh0, k0, tw0, n0⟩)
              have HBX : Hid (Below w4.heap.size w4 (w4.alloc (.cells #[.bool t0, .int .i64 wh0, .int .u8 k0, .int .i64 tw0, .int .i64 n0] 41))) := balloc (Below.refl _ _) _
              have HO5 := Lib.hid (HO4.out.below HBX.out)
              have HB5 := Lib.hid (bthen HB4.out HBX.out)
              have HZ5 := Lib.hid HB5.out.size
              have HY : Hid ((out.length + ([⟨t0, wh0, k0, tw0, n0⟩] : List Ev).length) * 40 ≤ 140737488355328) := by show _ ≤ _; simp; omega
              go_wp2_with (at_builtin; refine wpl_appS rfl (.tmp 39) (.tmp 41) rfl w1.heap.size _ out [⟨t0, wh0, k0, tw0, n0⟩] rfl HO5.out (some ⟨w4.heap.size, 0, none⟩) 1 rfl HX.out HY.out HZ5.out ?_)
              intro v' w9 ho hg
              have HB9 := Lib.hid (bownS HB5.out hg HO5.out)
              have HO9 := Lib.hid ho
              clear ho hg
              go_wp2
              go_roundw
              case rel => exact ⟨k + 1, out ++ [(⟨t0, wh0, k0, tw0, n0⟩ : Ev)], by go_num, by omega, by rw [List.length_append]; simp; omega, HO9.out, HG2.out, HB9.out⟩
              case measure => simp [intOf]; omega
      · have hk' : k = ps.length := by omega
        subst hk'
        have HFIN : Hid (parseP readP l = (out, 0, 0)) := by
          show _ = _
          rw [HP.out, ← HG.out, List.drop_length, parseGo]
        go_wp2
        refine bodyPost_ret (v := .tuple #[.slice P out.length cp, .int .i64 0, .int .i64 0]) (by simp [results, Tryd.results8, go_sem]) rfl ?_
        rw [HFIN.out]
        exact ⟨_, rfl, HO.out.mono (by have := HB1.out.size; omega), HBW.out⟩
end Go.Proofs.YtfgeomdfgjefdaaDoor
