/- The walks of the reference's Name, Form and One. -/
import Derived.Test.YtbojjjiggppnaaaGreatN6
import Derived.Deep.Cut
namespace Go.Proofs.YtbojjjiggppnaaaGreat
open Go.RowKit Go.Shelf
set_option linter.unusedVariables false
set_option linter.unusedSimpArgs false

def nameS (c : Int) : ByteArray := if 255 < c then ⟨#[]⟩ else (nameG c).1
set_option maxHeartbeats 2000000 in
theorem c_Name02 (c : Int) (h0 : 0 ≤ c) (w : World) : Calls Tryz.prog 188 #[.int .u16 c] w fun e w' => e = .returned (.tuple #[.string (nameS c), .bool (!(nameS c).toList.isEmpty)]) ∧ Below w.heap.size w w' := by
  by_cases h : 255 < c
  · have hn : nameS c = ⟨#[]⟩ := by unfold nameS; rw [if_pos h]
    have hb : (!(⟨#[]⟩ : ByteArray).toList.isEmpty) = false := by rw [ByteArray.toList_eq]; rfl
    rw [hn, hb]
    clear hn hb
    go_enter Tryz.func188, Tryz.ntmps188
    go_wp2_with fail
    go_ret2
    exact ⟨rfl, Below.refl _ _⟩
  · have hn : nameS c = (nameG c).1 := by unfold nameS; rw [if_neg h]
    rw [hn]
    have hc := fun w => c_named c h0 (by omega) w
    clear hn
    generalize nameG c = r at *
    go_enter Tryz.func188, Tryz.ntmps188
    go_wp2_with (first | (go_at_call 210; refine (hc _).mono ?_; rintro e w' ⟨rfl, hB⟩))
    go_ret2
    exact ⟨rfl, hB⟩
set_option maxHeartbeats 2000000 in
theorem c_Form02 (c : Int) (h0 : 0 ≤ c) (w : World) : Calls Tryz.prog 189 #[.int .u16 c] w fun e w' => e = .returned (.int .i64 (formF c)) ∧ Below w.heap.size w w' := by
  by_cases h : 255 < c
  · have hn : formF c = -1 := formF_big (by omega)
    rw [hn]
    clear hn
    go_enter Tryz.func189, Tryz.ntmps189
    go_wp2_with fail
    go_ret
    exact ⟨rfl, Below.refl _ _⟩
  · have hn : (nameG c).2 = formF c := by
      obtain ⟨n, rfl⟩ := Int.eq_ofNat_of_zero_le h0
      exact nameG_form ⟨n, by omega⟩
    rw [← hn]
    have hc := fun w => c_named c h0 (by omega) w
    clear hn
    generalize nameG c = r at *
    go_enter Tryz.func189, Tryz.ntmps189
    go_wp2_with (first | (go_at_call 210; refine (hc _).mono ?_; rintro e w' ⟨rfl, hB⟩))
    go_ret
    exact ⟨rfl, hB⟩
set_option maxRecDepth 100000 in
set_option maxHeartbeats 4000000 in
theorem c_One04 (x : Insn) (i n : Int) (w : World) (hw : x.wf) (h0 : 0 ≤ i) (h1 : i < n) (h2 : n ≤ 64) : Calls Tryz.prog 158 #[x.agg, .int .i64 i, .int .i64 n] w fun e w' => e = .returned (.int .i64 (oneF x i n)) ∧ Below w.heap.size w w' := by
  obtain ⟨c, jt, jf, k⟩ := x
  obtain ⟨hc, hjt, hjf, hk⟩ := hw
  simp only [Kd.rng] at hc hjt hjf hk
  have hN := fun w => c_Name02 c hc.1 w
  have hF := fun w => c_Form02 c hc.1 w
  have hfacts : ((nameS c).toList.isEmpty = true ↔ formF c < 0) ∧ ((nameS c).toList = [108, 100, 46, 97, 98, 115] ↔ c = 32) ∧ ((nameS c).toList = [100, 105, 118, 46, 107] ↔ c = 52) ∧ ((nameS c).toList = [108, 115, 104, 46, 107] ↔ c = 100) ∧ ((nameS c).toList = [114, 115, 104, 46, 107] ↔ c = 116) := by
    unfold nameS
    by_cases hb : 255 < c
    · rw [if_pos hb, ByteArray.toList_eq, formF_big (by omega)]
      refine ⟨by simp, ⟨fun h => by simp at h, fun h => by omega⟩, ⟨fun h => by simp at h, fun h => by omega⟩, ⟨fun h => by simp at h, fun h => by omega⟩, ⟨fun h => by simp at h, fun h => by omega⟩⟩
    · rw [if_neg hb, ByteArray.toList_eq]
      obtain ⟨m, rfl⟩ := Int.eq_ofNat_of_zero_le hc.1
      have hm : m < 256 := by omega
      have e0 := nameG_none ⟨m, hm⟩
      have e1 := nameG_abs ⟨m, hm⟩
      have e2 := nameG_div ⟨m, hm⟩
      have e3 := nameG_lsh ⟨m, hm⟩
      have e4 := nameG_rsh ⟨m, hm⟩
      rw [decide_eq_decide] at e0 e1 e2 e3 e4
      exact ⟨by rw [List.isEmpty_iff]; exact e0, e1, e2, e3, e4⟩
  have hr := formF_range c
  have hnot : 4 ≤ formF c → c ≠ 32 ∧ c ≠ 52 ∧ c ≠ 100 ∧ c ≠ 116 := fun h => form_not rfl h
  have hone : oneF ⟨c, jt, jf, k⟩ i n = if formF c < 0 then 141 else if c = 32 ∧ (k % 4 ≠ 0 ∨ 64 ≤ k) then 142 else if c = 52 ∧ k = 0 then 143
    else if (c = 100 ∨ c = 116) ∧ 32 ≤ k then 144 else if formF c = 3 ∧ 16 ≤ k then 145
    else if formF c = 4 ∧ n - 1 - i ≤ k then 146 else if (formF c = 5 ∨ formF c = 6) ∧ (n - 1 - i ≤ jt ∨ n - 1 - i ≤ jf) then 146 else 0 := rfl
  obtain ⟨q0, q1, q2, q3, q4⟩ := hfacts
  generalize oneF ⟨c, jt, jf, k⟩ i n = r at *
  generalize formF c = f at *
  generalize nameS c = s at *
  have Q0 := Lib.hid q0
  have Q1 := Lib.hid q1
  have Q2 := Lib.hid q2
  have Q3 := Lib.hid q3
  have Q4 := Lib.hid q4
  have HO := Lib.hid hone
  have HNOT := Lib.hid hnot
  clear q0 q1 q2 q3 q4 hone hnot
  unfold Insn.agg
  have hBW := below_al (Below.refl w.heap.size w) (.cells #[.int .u16 c, .int .u8 jt, .int .u8 jf, .int .u32 k] 141)
  have hX := blk_new w (.cells #[.int .u16 c, .int .u8 jt, .int .u8 jf, .int .u32 k] 141)
  have HBW := Lib.hid hBW
  have HX := Lib.hid hX
  clear hBW hX
  go_enter Tryz.func158, Tryz.ntmps158
  go_upto_region 2 with (first | (go_at_call 188; refine (hN _).mono ?_; rintro e w' ⟨rfl, hB⟩))
  have HX2 := Lib.hid (blk_bel hB HX.out)
  have HB2 := Lib.hid (HBW.out.trans (hB.mono HBW.out.size))
  clear hB
  obtain ⟨m, hm⟩ : ∃ m, w.heap.size = m := ⟨_, rfl⟩
  rw [hm] at HX2
  have x0 := blk_cell HX2.out 0
  have x1 := blk_cell HX2.out 1
  have x2 := blk_cell HX2.out 2
  have x3 := blk_cell HX2.out 3
  simp only [List.getElem?_toArray, List.getElem?_cons_zero, List.getElem?_cons_succ] at x0 x1 x2 x3
  have hi1 : i = n - 1 ∨ i < n - 1 := by omega
  go_wp2_with (first | (go_at_call 189; refine (hF _).mono ?_; rintro e w9 ⟨rfl, hB9⟩; have y1 := cell_bel hB9 x1; have y2 := cell_bel hB9 x2; have y3 := cell_bel hB9 x3))
  all_goals
    go_ret
    refine ⟨ret_i ?_, by first | exact HB2.out | (have h := HB2.out; rw [hm] at h; exact h) | exact HB2.out.trans (hB9.mono HB2.out.size) | (have h := HB2.out.trans (hB9.mono HB2.out.size); rw [hm] at h; exact h)⟩
  all_goals
    have q0 := Q0.out
    have q1 := Q1.out
    have q2 := Q2.out
    have q3 := Q3.out
    have q4 := Q4.out
    have hnot := HNOT.out
    rw [HO.out]
    clear Q0 Q1 Q2 Q3 Q4 HO HNOT hN hF HB2 HX2 HBW HX x0 x1 x2 x3
    try clear hB9 y1 y2 y3
  all_goals grind
end Go.Proofs.YtbojjjiggppnaaaGreat
