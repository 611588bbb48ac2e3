/- The walks of check.Check and of what it calls. -/
import Derived.Test.YtbojjjiggppnaaaGreatD1
namespace Go.Proofs.YtbojjjiggppnaaaGreat
open Go.RowKit Go.Shelf
set_option linter.unusedVariables false
set_option linter.unusedSimpArgs false

theorem singleF_range (c : Int) : -1 ≤ singleF c ∧ singleF c ≤ 6 := by
  unfold singleF
  repeat' split
  all_goals omega
theorem formF_range (c : Int) : -1 ≤ formF c ∧ formF c ≤ 6 := by
  unfold formF
  have := singleF_range c
  split
  · exact this
  · unfold sidedK
    by_cases h4 : c % 16 = 4
    · rw [if_pos h4]; simp only; split <;> omega
    rw [if_neg h4]
    by_cases h12 : c % 16 = 12
    · rw [if_pos h12]; simp only; split <;> omega
    rw [if_neg h12]
    by_cases h5 : c % 16 = 5
    · rw [if_pos h5]; simp only; split <;> omega
    rw [if_neg h5]
    by_cases h13 : c % 16 = 13
    · rw [if_pos h13]; simp only; split <;> omega
    rw [if_neg h13]
    simp only
    omega
set_option maxHeartbeats 400000 in
theorem c_behind (i n : Int) (w : World) (h0 : 0 ≤ i) (h1 : i < n) (h2 : n ≤ 64) : Calls Tryz.prog 185 #[.int .i64 i, .int .i64 n] w fun e w' => e = .returned (.int .u64 (n - 1 - i)) ∧ w' = w := by
  go_enter Tryz.func185, Tryz.ntmps185
  go_wp2
  all_goals
    go_ret
    refine ⟨ret_i ?_, rfl⟩
  all_goals omega
def retB (x : Insn) : Bool := decide (x.code = 6) || decide (x.code = 22)
set_option maxHeartbeats 400000 in
theorem c_returns (x : Insn) (w : World) : Calls Tryz.prog 154 #[x.agg] w fun e w' => e = .returned (.bool (retB x)) ∧ Below w.heap.size w w' := by
  obtain ⟨c, jt, jf, k⟩ := x
  unfold Insn.agg retB
  go_enter Tryz.func154, Tryz.ntmps154
  go_wp2
  all_goals
    go_ret
    refine ⟨ret_b ?_, below_al (Below.refl _ _) _⟩
  all_goals grind
def oneF (x : Insn) (i n : Int) : Int :=
  if formF x.code < 0 then 141 else if x.code = 32 ∧ (x.k % 4 ≠ 0 ∨ 64 ≤ x.k) then 142 else if x.code = 52 ∧ x.k = 0 then 143
  else if (x.code = 100 ∨ x.code = 116) ∧ 32 ≤ x.k then 144 else if formF x.code = 3 ∧ 16 ≤ x.k then 145
  else if formF x.code = 4 ∧ n - 1 - i ≤ x.k then 146 else if (formF x.code = 5 ∨ formF x.code = 6) ∧ (n - 1 - i ≤ x.jt ∨ n - 1 - i ≤ x.jf) then 146 else 0
attribute [local go_sem] max2_int max_two
theorem form_not {c : Int} {f : Int} (h : formF c = f) (hf : 4 ≤ f) : c ≠ 32 ∧ c ≠ 52 ∧ c ≠ 100 ∧ c ≠ 116 := by
  have e1 : formF 32 ≤ 3 := by decide
  have e2 : formF 52 ≤ 3 := by decide
  have e3 : formF 100 ≤ 3 := by decide
  have e4 : formF 116 ≤ 3 := by decide
  refine ⟨?_, ?_, ?_, ?_⟩ <;> rintro rfl <;> omega
set_option maxHeartbeats 4000000 in
theorem c_one (x : Insn) (i n : Int) (w : World) (hw : x.wf) (h0 : 0 ≤ i) (h1 : i < n) (h2 : n ≤ 64) : Calls Tryz.prog 153 #[x.agg, .int .i64 i, .int .i64 n] w fun e w' => e = .returned (.int .i64 (oneF x i n)) ∧ Below w.heap.size w w' := by
  obtain ⟨c, jt, jf, k⟩ := x
  obtain ⟨wc, wt, wf, wk⟩ := hw
  simp only [Kd.rng] at wc wt wf wk
  have hr := formF_range c
  have hone : oneF ⟨c, jt, jf, k⟩ i n = if formF c < 0 then 141 else if c = 32 ∧ (k % 4 ≠ 0 ∨ 64 ≤ k) then 142 else if c = 52 ∧ k = 0 then 143
    else if (c = 100 ∨ c = 116) ∧ 32 ≤ k then 144 else if formF c = 3 ∧ 16 ≤ k then 145
    else if formF c = 4 ∧ n - 1 - i ≤ k then 146 else if (formF c = 5 ∨ formF c = 6) ∧ (n - 1 - i ≤ jt ∨ n - 1 - i ≤ jf) then 146 else 0 := rfl
  unfold Insn.agg
  simp only at *
  have hf := c_form c (w.alloc (.cells #[.int .u16 c, .int .u8 jt, .int .u8 jf, .int .u32 k] 141)) wc.1 wc.2
  have hnot : 4 ≤ formF c → c ≠ 32 ∧ c ≠ 52 ∧ c ≠ 100 ∧ c ≠ 116 := fun h => form_not rfl h
  generalize oneF ⟨c, jt, jf, k⟩ i n = r at *
  generalize formF c = f at *
  have HO := Lib.hid hone
  clear hone
  have hBW := below_al (Below.refl w.heap.size w) (.cells #[.int .u16 c, .int .u8 jt, .int .u8 jf, .int .u32 k] 141)
  have hcase : f = -1 ∨ f = 0 ∨ f = 1 ∨ f = 2 ∨ f = 3 ∨ f = 4 ∨ f = 5 ∨ f = 6 := by omega
  rcases hcase with rfl | rfl | rfl | rfl | rfl | rfl | rfl | rfl
  · clear hr hnot
    go_enter Tryz.func153, Tryz.ntmps153
    go_wp2_with (go_at_call 184; refine hf.mono ?_; rintro e w' ⟨rfl, hB⟩; have hBw := hBW.trans (hB.mono (by simp)); have hbl := (hB.block w.heap.size (by simp)).trans (blk_new _ _); have k0 := blk_cell hbl 0; have k1 := blk_cell hbl 1; have k2 := blk_cell hbl 2; have k3 := blk_cell hbl 3; simp only [List.getElem?_toArray, List.getElem?_cons_zero, List.getElem?_cons_succ] at k0 k1 k2 k3)
    all_goals (try (go_quiet ((go_at_call 185; exact Calls.quiet_of_same (c_behind i n _ h0 h1 h2))); go_wp2_with fail))
    all_goals (try (go_quiet ((go_at_call 185; exact Calls.quiet_of_same (c_behind i n _ h0 h1 h2))); go_wp2_with fail))
    all_goals
      go_ret
      refine ⟨ret_i ?_, by first | exact hBw | exact below_dN hBw _ | exact below_dN (below_dN hBw _) _⟩
      rw [HO.out]
    all_goals grind
  · clear hr hnot
    go_enter Tryz.func153, Tryz.ntmps153
    go_wp2_with (go_at_call 184; refine hf.mono ?_; rintro e w' ⟨rfl, hB⟩; have hBw := hBW.trans (hB.mono (by simp)); have hbl := (hB.block w.heap.size (by simp)).trans (blk_new _ _); have k0 := blk_cell hbl 0; have k1 := blk_cell hbl 1; have k2 := blk_cell hbl 2; have k3 := blk_cell hbl 3; simp only [List.getElem?_toArray, List.getElem?_cons_zero, List.getElem?_cons_succ] at k0 k1 k2 k3)
    all_goals (try (go_quiet ((go_at_call 185; exact Calls.quiet_of_same (c_behind i n _ h0 h1 h2))); go_wp2_with fail))
    all_goals (try (go_quiet ((go_at_call 185; exact Calls.quiet_of_same (c_behind i n _ h0 h1 h2))); go_wp2_with fail))
    all_goals
      go_ret
      refine ⟨ret_i ?_, by first | exact hBw | exact below_dN hBw _ | exact below_dN (below_dN hBw _) _⟩
      rw [HO.out]
    all_goals grind
  · clear hr hnot
    go_enter Tryz.func153, Tryz.ntmps153
    go_wp2_with (go_at_call 184; refine hf.mono ?_; rintro e w' ⟨rfl, hB⟩; have hBw := hBW.trans (hB.mono (by simp)); have hbl := (hB.block w.heap.size (by simp)).trans (blk_new _ _); have k0 := blk_cell hbl 0; have k1 := blk_cell hbl 1; have k2 := blk_cell hbl 2; have k3 := blk_cell hbl 3; simp only [List.getElem?_toArray, List.getElem?_cons_zero, List.getElem?_cons_succ] at k0 k1 k2 k3)
    all_goals (try (go_quiet ((go_at_call 185; exact Calls.quiet_of_same (c_behind i n _ h0 h1 h2))); go_wp2_with fail))
    all_goals (try (go_quiet ((go_at_call 185; exact Calls.quiet_of_same (c_behind i n _ h0 h1 h2))); go_wp2_with fail))
    all_goals
      go_ret
      refine ⟨ret_i ?_, by first | exact hBw | exact below_dN hBw _ | exact below_dN (below_dN hBw _) _⟩
      rw [HO.out]
    all_goals grind
  · clear hr hnot
    go_enter Tryz.func153, Tryz.ntmps153
    go_wp2_with (go_at_call 184; refine hf.mono ?_; rintro e w' ⟨rfl, hB⟩; have hBw := hBW.trans (hB.mono (by simp)); have hbl := (hB.block w.heap.size (by simp)).trans (blk_new _ _); have k0 := blk_cell hbl 0; have k1 := blk_cell hbl 1; have k2 := blk_cell hbl 2; have k3 := blk_cell hbl 3; simp only [List.getElem?_toArray, List.getElem?_cons_zero, List.getElem?_cons_succ] at k0 k1 k2 k3)
    all_goals (try (go_quiet ((go_at_call 185; exact Calls.quiet_of_same (c_behind i n _ h0 h1 h2))); go_wp2_with fail))
    all_goals (try (go_quiet ((go_at_call 185; exact Calls.quiet_of_same (c_behind i n _ h0 h1 h2))); go_wp2_with fail))
    all_goals
      go_ret
      refine ⟨ret_i ?_, by first | exact hBw | exact below_dN hBw _ | exact below_dN (below_dN hBw _) _⟩
      rw [HO.out]
    all_goals grind
  · clear hr hnot
    go_enter Tryz.func153, Tryz.ntmps153
    go_wp2_with (go_at_call 184; refine hf.mono ?_; rintro e w' ⟨rfl, hB⟩; have hBw := hBW.trans (hB.mono (by simp)); have hbl := (hB.block w.heap.size (by simp)).trans (blk_new _ _); have k0 := blk_cell hbl 0; have k1 := blk_cell hbl 1; have k2 := blk_cell hbl 2; have k3 := blk_cell hbl 3; simp only [List.getElem?_toArray, List.getElem?_cons_zero, List.getElem?_cons_succ] at k0 k1 k2 k3)
    all_goals (try (go_quiet ((go_at_call 185; exact Calls.quiet_of_same (c_behind i n _ h0 h1 h2))); go_wp2_with fail))
    all_goals (try (go_quiet ((go_at_call 185; exact Calls.quiet_of_same (c_behind i n _ h0 h1 h2))); go_wp2_with fail))
    all_goals
      go_ret
      refine ⟨ret_i ?_, by first | exact hBw | exact below_dN hBw _ | exact below_dN (below_dN hBw _) _⟩
      rw [HO.out]
    all_goals grind
  · clear hr
    obtain ⟨n1, n2, n3, n4⟩ := hnot (by decide)
    clear hnot
    go_enter Tryz.func153, Tryz.ntmps153
    go_wp2_with (go_at_call 184; refine hf.mono ?_; rintro e w' ⟨rfl, hB⟩; have hBw := hBW.trans (hB.mono (by simp)); have hbl := (hB.block w.heap.size (by simp)).trans (blk_new _ _); have k0 := blk_cell hbl 0; have k1 := blk_cell hbl 1; have k2 := blk_cell hbl 2; have k3 := blk_cell hbl 3; simp only [List.getElem?_toArray, List.getElem?_cons_zero, List.getElem?_cons_succ] at k0 k1 k2 k3)
    (go_quiet ((go_at_call 185; exact Calls.quiet_of_same (c_behind i n _ h0 h1 h2))); go_wp2_with fail)
    all_goals (try (go_quiet ((go_at_call 185; exact Calls.quiet_of_same (c_behind i n _ h0 h1 h2))); go_wp2_with fail))
    all_goals
      go_ret
      refine ⟨ret_i ?_, by first | exact hBw | exact below_dN hBw _ | exact below_dN (below_dN hBw _) _⟩
      rw [HO.out]
    all_goals grind
  · clear hr
    obtain ⟨n1, n2, n3, n4⟩ := hnot (by decide)
    clear hnot
    by_cases hmx : jt < jf
    all_goals
      go_enter Tryz.func153, Tryz.ntmps153
      go_wp2_with (go_at_call 184; refine hf.mono ?_; rintro e w' ⟨rfl, hB⟩; have hBw := hBW.trans (hB.mono (by simp)); have hbl := (hB.block w.heap.size (by simp)).trans (blk_new _ _); have k0 := blk_cell hbl 0; have k1 := blk_cell hbl 1; have k2 := blk_cell hbl 2; have k3 := blk_cell hbl 3; simp only [List.getElem?_toArray, List.getElem?_cons_zero, List.getElem?_cons_succ] at k0 k1 k2 k3)
      (go_quiet ((go_at_call 185; exact Calls.quiet_of_same (c_behind i n _ h0 h1 h2))); go_wp2_with fail)
      have k1' : (w'.drewN nq).cell? ⟨w.heap.size, 1, none⟩ = some (.int .u8 jt) := k1
      have k2' : (w'.drewN nq).cell? ⟨w.heap.size, 2, none⟩ = some (.int .u8 jf) := k2
      have hBw2 := below_dN hBw nq
      clear k0 k1 k2 k3 hbl hB hBw
      generalize w'.drewN nq = w2 at *
      go_quiet ((go_at_call 185; exact Calls.quiet_of_same (c_behind i n _ h0 h1 h2)))
      go_wp2_with fail
      all_goals
        go_ret
        refine ⟨ret_i ?_, below_dN hBw2 _⟩
        rw [HO.out]
      all_goals grind
  · clear hr
    obtain ⟨n1, n2, n3, n4⟩ := hnot (by decide)
    clear hnot
    by_cases hmx : jt < jf
    all_goals
      go_enter Tryz.func153, Tryz.ntmps153
      go_wp2_with (go_at_call 184; refine hf.mono ?_; rintro e w' ⟨rfl, hB⟩; have hBw := hBW.trans (hB.mono (by simp)); have hbl := (hB.block w.heap.size (by simp)).trans (blk_new _ _); have k0 := blk_cell hbl 0; have k1 := blk_cell hbl 1; have k2 := blk_cell hbl 2; have k3 := blk_cell hbl 3; simp only [List.getElem?_toArray, List.getElem?_cons_zero, List.getElem?_cons_succ] at k0 k1 k2 k3)
      (go_quiet ((go_at_call 185; exact Calls.quiet_of_same (c_behind i n _ h0 h1 h2))); go_wp2_with fail)
      have k1' : (w'.drewN nq).cell? ⟨w.heap.size, 1, none⟩ = some (.int .u8 jt) := k1
      have k2' : (w'.drewN nq).cell? ⟨w.heap.size, 2, none⟩ = some (.int .u8 jf) := k2
      have hBw2 := below_dN hBw nq
      clear k0 k1 k2 k3 hbl hB hBw
      generalize w'.drewN nq = w2 at *
      go_quiet ((go_at_call 185; exact Calls.quiet_of_same (c_behind i n _ h0 h1 h2)))
      go_wp2_with fail
      all_goals
        go_ret
        refine ⟨ret_i ?_, below_dN hBw2 _⟩
        rw [HO.out]
      all_goals grind
end Go.Proofs.YtbojjjiggppnaaaGreat
