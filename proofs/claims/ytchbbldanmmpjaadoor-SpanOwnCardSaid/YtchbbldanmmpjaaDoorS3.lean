/- The walks of bits.Check and of the reference's. -/
import Derived.Test.YtchbbldanmmpjaaDoorS2
namespace Go.Proofs.YtchbbldanmmpjaaDoor
open Go.RowKit
set_option linter.unusedVariables false
set_option linter.unusedSimpArgs false

def okE (b : BitB) : Int := if okB b then 0 else 2
theorem okE_neg {b : BitB} (h : ¬ 0 ≤ b.n) : okE b = 2 := by simp [okE, okB, h]
theorem okE_big {b : BitB} (h : ¬ b.n ≤ 4096) : okE b = 2 := by simp [okE, okB, h]
theorem okE_len {b : BitB} (h : ¬ (b.w.length : Int) = (b.n + 63) / 64) : okE b = 2 := by simp [okE, okB, h]

set_option maxRecDepth 100000 in
set_option maxHeartbeats 8000000 in
theorem check62 (v : BitV) (b : BitB) (w : World) (h : RdB w v b) : Calls Tryd.prog 62 #[v.v] w (Ret (.int .i64 (okE b)) w) := by
  have hn := h.n
  have hm := h.m
  have hlo := h.lo
  have hhi := h.hi
  have hl := h.row.len
  have H := Lib.hid h
  have hb : Below w.heap.size w (w.alloc (Obj.cells #[.int .i64 v.n, .slice v.A v.m v.c] 24)) := balloc (Below.refl _ _) _
  have HB := Lib.hid hb
  clear h
  obtain ⟨n, A, m, c⟩ := v
  simp only at hn hm hb HB
  subst hn
  subst hm
  unfold BitV.v
  by_cases h0 : 0 ≤ b.n
  · by_cases h1 : b.n ≤ 4096
    · by_cases h2 : (b.w.length : Int) = (b.n + 63) / 64
      · by_cases h3 : b.n % 64 = 0
        · have E : Hid (okE b = 0) := by show _ = _; simp [okE, okB_whole h0 h1 h2 h3]
          clear H hb
          generalize b.w.length = m at *
          generalize b.n = n at *
          obtain ⟨k, rfl⟩ := Int.eq_ofNat_of_zero_le h0
          have q1 : ((m : Int) != ((k : Int) + 64 - 1) / 64) = false := by rw [bne_eq_false_iff_eq]; omega
          have q2 : ¬ (k : Int) < 0 := by omega
          have q3 : ¬ 4096 < (k : Int) := by omega
          clear h2
          go_enter Tryd.func62, Tryd.ntmps62
          go_wp2
          go_ret
          rw [E.out]
          exact ⟨rfl, HB.out⟩
        · obtain ⟨x, hx, hok⟩ := okB_part h0 h1 h2 (by omega) H.out.words
          have hx0 := H.out.words x (List.mem_of_getElem? hx)
          obtain ⟨bk, o, hA, hB, hc⟩ := H.out.row.at_ hx
          simp only at hA
          subst hA
          have E : Hid (okE b = if x / 2 ^ (b.n % 64).toNat = 0 then 0 else 2) := by show _ = _; unfold okE; rw [hok]; simp
          have hc := cell_later hb hc
          clear H hb hok hx
          generalize b.w.length = m at *
          generalize b.n = n at *
          obtain ⟨k, rfl⟩ := Int.eq_ofNat_of_zero_le h0
          have q1 : ((m : Int) != ((k : Int) + 64 - 1) / 64) = false := by rw [bne_eq_false_iff_eq]; omega
          have q2 : ¬ (k : Int) < 0 := by omega
          have q3 : ¬ 4096 < (k : Int) := by omega
          have q4 : 0 < (k : Int) % 64 := by omega
          have q5 : (k : Int) % 64 < 64 := by omega
          have q6 : 0 < m := by omega
          have q7 : (m : Int) - 1 < (m : Int) := by omega
          have q8 : ((m : Int) - 1).toNat = m - 1 := by omega
          have q9 : 0 ≤ (m : Int) - 1 := by omega
          have q10 : ((k : Int) % 64).toNat = k % 64 := by omega
          rw [q10] at E
          clear h2 h3 q10
          by_cases hz : x / 2 ^ (k % 64) = 0
          · have E : Hid (okE b = 0) := by show _ = _; rw [E.out, if_pos hz]
            have qz : (x / 2 ^ (k % 64) != 0) = false := by rw [hz]; rfl
            clear hz
            go_enter Tryd.func62, Tryd.ntmps62
            go_wp2
            go_ret
            rw [E.out]
            exact ⟨rfl, HB.out⟩
          · have E : Hid (okE b = 2) := by show _ = _; rw [E.out, if_neg hz]
            have qz : (x / 2 ^ (k % 64) != 0) = true := by rw [bne_iff_ne]; exact hz
            clear hz
            go_enter Tryd.func62, Tryd.ntmps62
            go_wp2
            go_ret
            rw [E.out]
            exact ⟨rfl, HB.out⟩
      · have E := Lib.hid (okE_len h2)
        clear H hb
        generalize b.w.length = m at *
        generalize b.n = n at *
        obtain ⟨k, rfl⟩ := Int.eq_ofNat_of_zero_le h0
        have q1 : ((m : Int) != ((k : Int) + 64 - 1) / 64) = true := by rw [bne_iff_ne]; omega
        have q2 : ¬ (k : Int) < 0 := by omega
        have q3 : ¬ 4096 < (k : Int) := by omega
        clear h2
        go_enter Tryd.func62, Tryd.ntmps62
        go_wp2
        go_ret
        rw [E.out]
        exact ⟨rfl, HB.out⟩
    · have E := Lib.hid (okE_big h1)
      have h1' : 4096 < b.n := by omega
      have h0' : ¬ b.n < 0 := by omega
      generalize b.n = n at *
      go_enter Tryd.func62, Tryd.ntmps62
      go_wp2
      go_ret
      rw [E.out]
      exact ⟨rfl, HB.out⟩
  · have E := Lib.hid (okE_neg h0)
    have h0' : b.n < 0 := by omega
    generalize b.n = n at *
    go_enter Tryd.func62, Tryd.ntmps62
    go_wp2
    go_ret
    rw [E.out]
    exact ⟨rfl, HB.out⟩
end Go.Proofs.YtchbbldanmmpjaaDoor
