/- The walk of PolicyLast. -/
import Derived.Test.YtiepnnjodmkolaaF1
import Derived.Test.YtiepnnjodmkolaaG3
namespace Go.Proofs.Ytiepnnjodmkolaa
open Go.RowKit Go.Shelf
set_option linter.unusedVariables false
set_option linter.unusedSimpArgs false

theorem compE_ok {p : Policy} (h : compE p = 0) : compL p = progP p ∧ (progP p).length ≤ 64 := by
  unfold compE at h
  unfold compL
  split at h
  · rename_i h0
    split at h
    · simp at h
    · rename_i h1
      rw [if_pos h0, if_neg h1]
      exact ⟨rfl, by omega⟩
  · simp at h
theorem row_wf {w : World} {ok : Nat → Prop} {A : Option Addr} {l : List Insn} (h : kInsn.Row w ok A l) : ∀ x ∈ l, x.wf := by
  intro x hx
  obtain ⟨i, hi, rfl⟩ := List.mem_iff_getElem.1 hx
  obtain ⟨_, _, _, h, _⟩ := kInsn.at_ h hi
  exact h
set_option maxRecDepth 100000 in
set_option maxHeartbeats 8000000 in
theorem c_last (x y : Policy) (ok : Nat → Prop) (cs ds : List Value) (w : World) (hx : kPolicy.K w ok x cs) (hy : kPolicy.K w ok y ds) :
    Calls Try.prog 4 #[.agg cs.toArray, .agg ds.toArray] w fun e w' => e = .returned (.bool true) ∧ Below w.heap.size w w' := by
  have hB0 : Below w.heap.size w ((w.alloc (.cells cs.toArray 25)).alloc (.cells ds.toArray 25)) := below_al (below_al (Below.refl _ _) _) _
  have hR0 : ((w.alloc (.cells cs.toArray 25)).alloc (.cells ds.toArray 25)).heap[w.heap.size]? = some (.cells cs.toArray 25) := blk_al (blk_new _ _) _
  have hR1 : ((w.alloc (.cells cs.toArray 25)).alloc (.cells ds.toArray 25)).heap[w.heap.size + 1]? = some (.cells ds.toArray 25) := by
    have h := blk_new (w.alloc (.cells cs.toArray 25)) (.cells ds.toArray 25)
    rwa [World.size_alloc] at h
  obtain ⟨A0, c0, rfl, -, -⟩ := kPolicy.opn hx
  obtain ⟨A1, c1, rfl, -, -⟩ := kPolicy.opn hy
  obtain ⟨rx, ex⟩ := x
  obtain ⟨ry, ey⟩ := y
  simp only at *
  have hX := Kd.bel (d := kPolicy) hx hB0
  have hY := Kd.bel (d := kPolicy) hy hB0
  have hnx : (rx.length : Int) ≤ 1000000000000 ∨ True := .inr trivial
  clear hx hy hnx
  obtain ⟨n, hn⟩ : ∃ n, w.heap.size = n := ⟨_, rfl⟩
  rw [hn] at hR0 hR1
  go_enter Try.func4, Try.ntmps4
  go_wp2_with fail
  generalize ((w.alloc (.cells #[.slice A0 rx.length c0, .int .u32 ex] 25)).alloc (.cells #[.slice A1 ry.length c1, .int .u32 ey] 25)) = W0 at *
  have HX := Lib.hid hX
  have HY := Lib.hid hY
  have HRX := Lib.hid hR0
  have HRY := Lib.hid hR1
  have HB0 := Lib.hid hB0
  have HN := Lib.hid hn
  clear hX hY hR0 hR1 hB0 hn
  refine (c_wakes W0).mono ?_
  rintro e w1 ⟨rfl, hB1'⟩
  have HB1 := Lib.hid hB1'
  clear hB1'
  have x0 : w1.cell? ⟨n, 0, none⟩ = some (.slice A0 rx.length c0) := blk_cell (blk_bel HB1.out HRX.out) 0
  have x1 : w1.cell? ⟨n, 1, none⟩ = some (.int .u32 ex) := blk_cell (blk_bel HB1.out HRX.out) 1
  have y0 : w1.cell? ⟨n + 1, 0, none⟩ = some (.slice A1 ry.length c1) := blk_cell (blk_bel HB1.out HRY.out) 0
  have y1 : w1.cell? ⟨n + 1, 1, none⟩ = some (.int .u32 ey) := blk_cell (blk_bel HB1.out HRY.out) 1
  go_wp2_with fail
  refine (c_over ⟨rx, ex⟩ ok _ w1 (Kd.bel (d := kPolicy) HX.out HB1.out)).mono ?_
  rintro e w2 ⟨rfl, hB2'⟩
  have HB2 := Lib.hid (below_tr HB1.out hB2')
  clear hB2' x0 x1 y0 y1
  have x0 : w2.cell? ⟨n, 0, none⟩ = some (.slice A0 rx.length c0) := blk_cell (blk_bel HB2.out HRX.out) 0
  have x1 : w2.cell? ⟨n, 1, none⟩ = some (.int .u32 ex) := blk_cell (blk_bel HB2.out HRX.out) 1
  have y0 : w2.cell? ⟨n + 1, 0, none⟩ = some (.slice A1 ry.length c1) := blk_cell (blk_bel HB2.out HRY.out) 0
  have y1 : w2.cell? ⟨n + 1, 1, none⟩ = some (.int .u32 ey) := blk_cell (blk_bel HB2.out HRY.out) 1
  generalize hox : overP ⟨rx, ex⟩ = ox
  cases ox with
  | true =>
    go_wp2_with fail
    go_ret
    exact ⟨rfl, HB0.out.trans (HB2.out.mono HB0.out.size)⟩
  | false =>
  go_wp2_with fail
  refine (c_over ⟨ry, ey⟩ ok _ w2 (Kd.bel (d := kPolicy) HY.out HB2.out)).mono ?_
  rintro e w3 ⟨rfl, hB3'⟩
  have HB3 := Lib.hid (below_tr HB2.out hB3')
  clear hB3' x0 x1 y0 y1
  have x0 : w3.cell? ⟨n, 0, none⟩ = some (.slice A0 rx.length c0) := blk_cell (blk_bel HB3.out HRX.out) 0
  have x1 : w3.cell? ⟨n, 1, none⟩ = some (.int .u32 ex) := blk_cell (blk_bel HB3.out HRX.out) 1
  have y0 : w3.cell? ⟨n + 1, 0, none⟩ = some (.slice A1 ry.length c1) := blk_cell (blk_bel HB3.out HRY.out) 0
  have y1 : w3.cell? ⟨n + 1, 1, none⟩ = some (.int .u32 ey) := blk_cell (blk_bel HB3.out HRY.out) 1
  generalize hoy : overP ⟨ry, ey⟩ = oy
  cases oy with
  | true =>
    go_wp2_with fail
    go_ret
    exact ⟨rfl, HB0.out.trans (HB3.out.mono HB0.out.size)⟩
  | false =>
  go_wp2_with fail
  refine (c_compile ⟨rx, ex⟩ ok _ w3 (Kd.bel (d := kPolicy) HX.out HB3.out)).mono ?_
  rintro e w4 ⟨v4, rfl, hv4, hB4'⟩
  have HB4 := Lib.hid (below_tr HB3.out hB4')
  have HV4 := Lib.hid hv4
  clear hB4' hv4 x0 x1 y0 y1
  have x0 : w4.cell? ⟨n, 0, none⟩ = some (.slice A0 rx.length c0) := blk_cell (blk_bel HB4.out HRX.out) 0
  have x1 : w4.cell? ⟨n, 1, none⟩ = some (.int .u32 ex) := blk_cell (blk_bel HB4.out HRX.out) 1
  have y0 : w4.cell? ⟨n + 1, 0, none⟩ = some (.slice A1 ry.length c1) := blk_cell (blk_bel HB4.out HRY.out) 0
  have y1 : w4.cell? ⟨n + 1, 1, none⟩ = some (.int .u32 ey) := blk_cell (blk_bel HB4.out HRY.out) 1
  generalize hcx : compE ⟨rx, ex⟩ = cx
  have HCX := Lib.hid hcx
  clear hcx hox hoy
  go_wp2_with fail
  refine (c_compile ⟨ry, ey⟩ ok _ w4 (Kd.bel (d := kPolicy) HY.out HB4.out)).mono ?_
  rintro e w5 ⟨v5, rfl, hv5, hB5'⟩
  have HB5 := Lib.hid (below_tr HB4.out hB5')
  have hv4' := Kd.bel (d := kInsn.slice) HV4.out hB5'
  generalize hcy : compE ⟨ry, ey⟩ = cy
  have HCY := Lib.hid hcy
  clear hcy hB5' x0 x1 y0 y1
  have x0 : w5.cell? ⟨n, 0, none⟩ = some (.slice A0 rx.length c0) := blk_cell (blk_bel HB5.out HRX.out) 0
  have x1 : w5.cell? ⟨n, 1, none⟩ = some (.int .u32 ex) := blk_cell (blk_bel HB5.out HRX.out) 1
  have y0 : w5.cell? ⟨n + 1, 0, none⟩ = some (.slice A1 ry.length c1) := blk_cell (blk_bel HB5.out HRY.out) 0
  have y1 : w5.cell? ⟨n + 1, 1, none⟩ = some (.int .u32 ey) := blk_cell (blk_bel HB5.out HRY.out) 1
  by_cases h0 : cx = 0 ∧ cy = 0
  · obtain ⟨rfl, rfl⟩ := h0
    obtain ⟨ex1, ex2⟩ := compE_ok HCX.out
    obtain ⟨ey1, ey2⟩ := compE_ok HCY.out
    rw [ex1] at hv4'
    rw [ey1] at hv5
    obtain ⟨A4, c4, e4, -, -, r4⟩ := hv4'
    obtain ⟨A5, c5, e5, -, -, r5⟩ := hv5
    simp only [List.cons.injEq, and_true] at e4 e5
    subst e4 e5
    have hpos := progP_pos ⟨rx, ex⟩
    have hone := progP_one ⟨rx, ex⟩
    obtain ⟨ad, rfl, -, -, e0, e1, e2, e3⟩ := kInsn.at_ r4 (i := (progP ⟨rx, ex⟩).length - 1) (by omega)
    rw [progP_last] at e0 e1 e2 e3
    have HINJ : Hid (encL (progP ⟨rx, ex⟩) = encL (progP ⟨ry, ey⟩) → ex = ey ∧ rx.length = ry.length) := fun h => progP_inj (p := ⟨rx, ex⟩) (q := ⟨ry, ey⟩) (encL_inj (row_wf r4) (row_wf r5) h)
    clear ex1 ey1 HV4 HCX HCY
    generalize progP ⟨rx, ex⟩ = a at *
    have hbpos := progP_pos ⟨ry, ey⟩
    generalize progP ⟨ry, ey⟩ = b at *
    simp only at hone
    obtain ⟨m, hm⟩ : ∃ m, a.length = m + 1 := ⟨a.length - 1, by omega⟩
    simp only [insn, hm, Nat.add_sub_cancel] at e0 e1 e2 e3
    have R4 := Lib.hid r4
    have R5 := Lib.hid r5
    have HM := Lib.hid hm
    rw [hm] at hone ex2
    clear r4 r5 hpos
    rw [hm]
    clear hm
    go_wp2_with fail
    have hm0 : (0 : Int) ≤ (m : Int) := by omega
    have hm1 : (m : Int) < (m : Int) + 1 := by omega
    have hd1 : decide ((m : Int) + 1 < 1) = false := by simp; omega
    have hsub : IntKind.i64.wrap ((m : Int) + 1 - 1) = (m : Int) := by rw [wrap_i64 (by omega)]; omega
    have hq : (((rx.length : Int) == 0) = ((m : Int) + 1 == 1)) := by
      by_cases h : rx.length = 0
      · have := hone.2 h
        have h1 : ((rx.length : Int) == 0) = true := by rw [beq_iff_eq]; omega
        have h2 : ((m : Int) + 1 == 1) = true := by rw [beq_iff_eq]; omega
        rw [h1, h2]
      · have : m ≠ 0 := fun e => h (hone.1 (by omega))
        have h1 : ((rx.length : Int) == 0) = false := by rw [beq_eq_false_iff_ne]; omega
        have h2 : ((m : Int) + 1 == 1) = false := by rw [beq_eq_false_iff_ne]; omega
        rw [h1, h2]
    have HQ := Lib.hid hq
    clear hq
    go_quiet (fail)
    obtain ⟨W6, hW6⟩ : ∃ W, w5.drewN nq = W := ⟨_, rfl⟩
    have HB6 : Hid (Below W0.heap.size W0 W6) := by rw [← hW6]; exact below_dN HB5.out nq
    have R46 : Hid (kInsn.Row W6 (fun k => w3.heap.size ≤ k) (some ad) a) := by rw [← hW6]; exact R4.out.bel (below_dN (Below.refl _ _) nq)
    have R56 : Hid (kInsn.Row W6 (fun k => w4.heap.size ≤ k) A5 b) := by rw [← hW6]; exact R5.out.bel (below_dN (Below.refl _ _) nq)
    rw [hW6]
    clear hW6 x0 x1 y0 y1 e0 e1 e2 e3
    have x0 : W6.cell? ⟨n, 0, none⟩ = some (.slice A0 rx.length c0) := blk_cell (blk_bel HB6.out HRX.out) 0
    have x1 : W6.cell? ⟨n, 1, none⟩ = some (.int .u32 ex) := blk_cell (blk_bel HB6.out HRX.out) 1
    have y0 : W6.cell? ⟨n + 1, 0, none⟩ = some (.slice A1 ry.length c1) := blk_cell (blk_bel HB6.out HRY.out) 0
    have y1 : W6.cell? ⟨n + 1, 1, none⟩ = some (.int .u32 ey) := blk_cell (blk_bel HB6.out HRY.out) 1
    go_wp2_with fail
    · exfalso
      rename_i h
      rw [HQ.out] at h
      simp at h
    have he := c_encodeAll (some ad) a c4 _ W6 R46.out (by rw [HM.out]; omega)
    rw [HM.out] at he
    refine he.mono ?_
    rintro e w7 ⟨v7, rfl, hO7, hB7⟩
    have HB7 := Lib.hid (below_tr HB6.out hB7)
    clear x0 x1 y0 y1 he
    go_wp2_with fail
    refine (c_encodeAll A5 b c5 _ w7 (R56.out.bel hB7) (by omega)).mono ?_
    rintro e w8 ⟨v8, rfl, hO8, hB8⟩
    have HB8 := Lib.hid (below_tr HB7.out hB8)
    have hO7' := hO7.bel hB8
    have x0 : w8.cell? ⟨n, 0, none⟩ = some (.slice A0 rx.length c0) := blk_cell (blk_bel HB8.out HRX.out) 0
    have x1 : w8.cell? ⟨n, 1, none⟩ = some (.int .u32 ex) := blk_cell (blk_bel HB8.out HRX.out) 1
    have y0 : w8.cell? ⟨n + 1, 0, none⟩ = some (.slice A1 ry.length c1) := blk_cell (blk_bel HB8.out HRY.out) 0
    have y1 : w8.cell? ⟨n + 1, 1, none⟩ = some (.int .u32 ey) := blk_cell (blk_bel HB8.out HRY.out) 1
    have HO7 := Lib.hid hO7'
    have HO8 := Lib.hid hO8
    have hST : Hid ((strOf (encL a)).toList = (strOf (encL b)).toList → ex = ey ∧ rx.length = ry.length) := by
      obtain ⟨_, _, _, -, -, q7⟩ := hO7'.K
      obtain ⟨_, _, _, -, -, q8⟩ := hO8.K
      exact fun h => HINJ.out (strOf_injL (rows_rng q7) (rows_rng q8) h)
    have hc7 := run_str (P := Try.prog) (dst := 9) Try.underlying40 Try.underlying5 Try.underlying9 hO7' (by rw [encL_length, HM.out]; omega)
    have hc8 := run_str (P := Try.prog) (dst := 9) Try.underlying40 Try.underlying5 Try.underlying9 hO8 (by rw [encL_length]; omega)
    generalize strOf (encL a) = s7 at *
    generalize strOf (encL b) = s8 at *
    clear hO7 hO7' hO8 hB7 hB8 hone
    have HF : Below w.heap.size w w8 := HB0.out.trans (HB8.out.mono HB0.out.size)
    have HFH := Lib.hid HF
    clear HF
    go_wp2_with fail
    · rename_i h1 h2
      go_ret
      exact ⟨ret_b (by rw [(hST.out h1).2]; simp), HFH.out⟩
    · rename_i h1 h2
      exact absurd (hST.out h1).1 h2
    · go_ret
      exact ⟨rfl, HFH.out⟩
  · clear hv4' hv5
    have h0' : cx ≠ 0 ∨ cy ≠ 0 := by omega
    clear h0
    rcases h0' with h0 | h0
    all_goals
      have HFH := Lib.hid (HB0.out.trans (HB5.out.mono HB0.out.size))
      go_wp2_with fail
      all_goals
        go_ret
        exact ⟨rfl, HFH.out⟩
end Go.Proofs.Ytiepnnjodmkolaa
