/- The walk of span.right. -/
import Derived.Test.YtchbbldanmmpjaaDoorSB
namespace Go.Proofs.YtchbbldanmmpjaaDoor
open Go.RowKit
set_option linter.unusedVariables false
set_option linter.unusedSimpArgs false

def rightP (s : SpanB) : Bool := shapedP s.pages s.size && (decide (0 ≤ s.first) && (decide (s.first ≤ 1024 - s.pages) && (decide (bothOk s.al s.ma) && ((s.al.n == manyP s.size) && decide (andL s.al.w s.ma.w = s.ma.w)))))
theorem shapedP_pages {p z : Int} (h : shapedP p z = true) : 1 ≤ p ∧ p ≤ 4 := by
  unfold shapedP at h
  by_cases hz : z = 0
  · simp [hz] at h; omega
  · by_cases h2 : z = 2 ∨ z = 4 ∨ z = 8 ∨ z = 16
    · simp [hz, h2] at h; omega
    · simp [hz, h2] at h
theorem shapedP_size {p z : Int} (h : shapedP p z = true) : z = 0 ∨ z = 2 ∨ z = 4 ∨ z = 8 ∨ z = 16 := by
  unfold shapedP at h
  by_cases hz : z = 0
  · exact .inl hz
  · by_cases h2 : z = 2 ∨ z = 4 ∨ z = 8 ∨ z = 16
    · exact .inr h2
    · simp [hz, h2] at h
theorem manyP_of {p z : Int} (h : shapedP p z = true) : 1 ≤ manyP z ∧ manyP z ≤ 8 := by
  rcases shapedP_size h with rfl | rfl | rfl | rfl | rfl <;> decide +kernel

set_option maxRecDepth 100000 in
set_option maxHeartbeats 8000000 in
theorem right38 (v : SpanV) (s : SpanB) (w : World) (h : RdN w v s) : Calls Tryd.prog 38 #[v.v] w (Ret (.bool (rightP s)) w) := by
  have CB : Hid (∀ W, Below w.heap.size w W → Calls Tryd.prog 65 #[v.al.v, v.ma.v] W (RetBE (bothB s.al s.ma) (bothE s.al s.ma) W)) := fun W hW => both65 v.al v.ma s.al s.ma W (h.al.below hW) (h.ma.below hW)
  have CE : Hid (∀ W, Below w.heap.size w W → ∀ A c l, RdU W A l → Calls Tryd.prog 66 #[.slice A l.length c, .slice v.ma.A v.ma.m v.ma.c] W (Ret (.bool (decide (l = s.ma.w))) W)) :=
    fun W hW A c l hl => equal66 l s.ma.w A v.ma.A c v.ma.c v.ma.m W hl (h.ma.row.below hW) h.ma.m.symm
  have HAN := Lib.hid h.al.n
  have HMN := Lib.hid h.ma.n
  obtain ⟨f, p, z, ⟨n, A, m, ca⟩, ⟨n', B, m', cb⟩, sw⟩ := v
  obtain ⟨rfl, rfl, rfl, rfl, _, _, hf1, hp1, hz1⟩ := h
  simp only at HAN HMN
  unfold SpanV.v
  unfold BitV.v at CB
  simp only at CB CE ⊢
  have HW0 : Hid (Below w.heap.size w (w.alloc (.cells #[.int .i64 s.first, .int .i64 s.pages, .int .i64 s.size, .int .i64 n, .slice A m ca, .int .i64 n', .slice B m' cb, .bool s.sw] 26))) := balloc (Below.refl _ _) _
  by_cases hsh : shapedP s.pages s.size = true
  · have hpp := shapedP_pages hsh
    have hmm := manyP_of hsh
    by_cases h0 : 0 ≤ s.first
    · by_cases h1 : s.first ≤ 1024 - s.pages
      · have E : Hid (rightP s = (decide (bothOk s.al s.ma) && ((s.al.n == manyP s.size) && decide (andL s.al.w s.ma.w = s.ma.w)))) := by
          show _ = _
          unfold rightP
          rw [hsh, decide_eq_true h0, decide_eq_true h1]
          rfl
        have HSH := Lib.hid hsh
        have HMM := Lib.hid hmm
        clear hsh hmm
        go_enter Tryd.func38, Tryd.ntmps38
        go_wp2_with fail
        refine (shaped34 _ _ _).mono ?_
        rintro e w1 ⟨rfl, hb1⟩
        rw [HSH.out]
        have HB1 := Lib.hid (bthen HW0.out hb1)
        obtain ⟨hc1, hf1, hs1⟩ := bcellB (B := w.heap.size + 1) hb1 (by simp)
        clear hb1
        go_wp2_with fail
        refine (slots36 _ _).mono ?_
        rintro e w2 ⟨rfl, hb2⟩
        have HB2 := Lib.hid (bthen HB1.out hb2)
        obtain ⟨hc2, hf2, hs2⟩ := bcellB hb2 hs1
        clear hb2
        go_wp2_with fail
        refine (CB.out _ HB2.out).mono ?_
        rintro e w3 ⟨⟨n3, A3, m3, c3⟩, rfl, hn3, hm3, hcap, ho, hb3⟩
        simp only at hcap ho hn3 hm3
        have HB3 := Lib.hid (bthen HB2.out hb3)
        have HR3 : Hid (RdU w3 A3 (bothB s.al s.ma).w) := ho.rd hm3.symm
        obtain ⟨hc3, hf3, hs3⟩ := bcellB hb3 hs2
        have z0 : w.heap.size < w3.heap.size := hs3
        clear hb3 CB ho hcap hn3
        unfold BitV.v
        simp only
        by_cases hok : bothOk s.al s.ma
        · have EE : Hid (bothE s.al s.ma = 0) := by show _ = _; simp [bothE, hok]
          rw [EE.out]
          by_cases hmn : s.al.n = manyP s.size
          · have en : n = manyP s.size := by rw [HAN.out, hmn]
            have en' : n' = manyP s.size := by rw [HMN.out, ← hok.2.2, hmn]
            have E' : Hid (rightP s = decide ((bothB s.al s.ma).w = s.ma.w)) := by
              show _ = _
              rw [E.out, decide_eq_true hok, hmn]
              simp [bothB, hok]
            have HB4 := Lib.hid (balloc HB3.out (.cells #[.int .i64 n3, .slice A3 m3 c3] 24))
            have CE' := Lib.hid (CE.out _ HB4.out _ c3 _ (HR3.out.below (balloc (Below.refl _ _) _)))
            rw [← hm3] at CE'
            clear hok hmn E CE hm3
            subst en
            subst en'
            go_wp2_with fail
            refine CE'.out.mono ?_
            rintro e w5 ⟨rfl, hb5⟩
            have HB5 := Lib.hid (bthen HB4.out hb5)
            clear hb5
            go_wp2
            go_ret
            rw [E'.out]
            exact ⟨rfl, HB5.out⟩
          · have E' : Hid (rightP s = false) := by
              show _ = _
              rw [E.out, beq_eq_false_iff_ne.2 hmn]
              simp
            have e1 : (n == manyP s.size) = false := by rw [HAN.out]; simpa using hmn
            clear hok hmn E CE hm3
            go_wp2
            go_ret
            rw [E'.out]
            exact ⟨rfl, balloc HB3.out _⟩
        · have E' : Hid (rightP s = false) := by
            show _ = _
            rw [E.out, decide_eq_false hok]
            rfl
          have EE : Hid (bothE s.al s.ma = 2) := by show _ = _; simp [bothE, hok]
          rw [EE.out]
          clear hok E CE hm3
          go_wp2
          go_ret
          rw [E'.out]
          exact ⟨rfl, balloc HB3.out _⟩
      · have E : Hid (rightP s = false) := by
          show _ = _
          unfold rightP
          rw [decide_eq_false h1]
          simp
        have HSH := Lib.hid hsh
        have q1 : ¬ s.first < 0 := by omega
        have q2 : 1024 - s.pages < s.first := by omega
        clear hsh hmm CB CE h1
        go_enter Tryd.func38, Tryd.ntmps38
        go_wp2_with fail
        refine (shaped34 _ _ _).mono ?_
        rintro e w1 ⟨rfl, hb1⟩
        rw [HSH.out]
        have HB1 := Lib.hid (bthen HW0.out hb1)
        obtain ⟨hc1, hf1, hs1⟩ := bcellB (B := w.heap.size + 1) hb1 (by simp)
        clear hb1
        go_wp2
        go_ret
        rw [E.out]
        exact ⟨rfl, HB1.out⟩
    · have E : Hid (rightP s = false) := by
        show _ = _
        unfold rightP
        rw [decide_eq_false h0]
        simp
      have HSH := Lib.hid hsh
      have q1 : s.first < 0 := by omega
      clear hsh hmm CB CE h0
      go_enter Tryd.func38, Tryd.ntmps38
      go_wp2_with fail
      refine (shaped34 _ _ _).mono ?_
      rintro e w1 ⟨rfl, hb1⟩
      rw [HSH.out]
      have HB1 := Lib.hid (bthen HW0.out hb1)
      obtain ⟨hc1, hf1, hs1⟩ := bcellB (B := w.heap.size + 1) hb1 (by simp)
      clear hb1
      go_wp2
      go_ret
      rw [E.out]
      exact ⟨rfl, HB1.out⟩
  · have hsh : shapedP s.pages s.size = false := by simpa using hsh
    have E : Hid (rightP s = false) := by
      show _ = _
      unfold rightP
      rw [hsh]
      rfl
    have HSH := Lib.hid hsh
    clear hsh CB CE
    go_enter Tryd.func38, Tryd.ntmps38
    go_wp2_with fail
    refine (shaped34 _ _ _).mono ?_
    rintro e w1 ⟨rfl, hb1⟩
    rw [HSH.out]
    have HB1 := Lib.hid (bthen HW0.out hb1)
    obtain ⟨hc1, hf1, hs1⟩ := bcellB (B := w.heap.size + 1) hb1 (by simp)
    clear hb1
    go_wp2
    go_ret
    rw [E.out]
    exact ⟨rfl, HB1.out⟩
end Go.Proofs.YtchbbldanmmpjaaDoor
