/- The walks of data.Word, vm.loaded, Holds and step at a policy's instructions. -/
import Derived.Test.YtbojjjiggppnaaaGreatD7
namespace Go.Proofs.YtbojjjiggppnaaaGreat
open Go.RowKit Go.Shelf
set_option linter.unusedVariables false
set_option linter.unusedSimpArgs false

theorem c_placeD (o : Int) (w : World) (h : 0 ≤ o ∧ o ≤ 60 ∧ o % 4 = 0) : Calls Tryz.prog 246 #[.int .u32 o] w fun e w' => e = .returned (.tuple #[.int .i64 (o / 4), .int .i64 0]) ∧ w' = w := by
  go_enter Tryz.func246, Tryz.ntmps246
  go_wp2_with fail
  go_ret2
  exact ⟨rfl, rfl⟩
theorem ar_ix0 (u0 u1 u2 u3 u4 u5 u6 u7 u8 u9 u10 u11 u12 u13 u14 u15 : Int) (w : World) : (Instr.index 212 (.agg #[.int .u32 u0, .int .u32 u1, .int .u32 u2, .int .u32 u3, .int .u32 u4, .int .u32 u5, .int .u32 u6, .int .u32 u7, .int .u32 u8, .int .u32 u9, .int .u32 u10, .int .u32 u11, .int .u32 u12, .int .u32 u13, .int .u32 u14, .int .u32 u15]) (.int .i64 0)).run Tryz.prog w = .ok (.int .u32 u0) w := by kernel_rfl
theorem ar_ix1 (u0 u1 u2 u3 u4 u5 u6 u7 u8 u9 u10 u11 u12 u13 u14 u15 : Int) (w : World) : (Instr.index 212 (.agg #[.int .u32 u0, .int .u32 u1, .int .u32 u2, .int .u32 u3, .int .u32 u4, .int .u32 u5, .int .u32 u6, .int .u32 u7, .int .u32 u8, .int .u32 u9, .int .u32 u10, .int .u32 u11, .int .u32 u12, .int .u32 u13, .int .u32 u14, .int .u32 u15]) (.int .i64 1)).run Tryz.prog w = .ok (.int .u32 u1) w := by kernel_rfl
theorem ar_ix2 (u0 u1 u2 u3 u4 u5 u6 u7 u8 u9 u10 u11 u12 u13 u14 u15 : Int) (w : World) : (Instr.index 212 (.agg #[.int .u32 u0, .int .u32 u1, .int .u32 u2, .int .u32 u3, .int .u32 u4, .int .u32 u5, .int .u32 u6, .int .u32 u7, .int .u32 u8, .int .u32 u9, .int .u32 u10, .int .u32 u11, .int .u32 u12, .int .u32 u13, .int .u32 u14, .int .u32 u15]) (.int .i64 2)).run Tryz.prog w = .ok (.int .u32 u2) w := by kernel_rfl
theorem ar_ix3 (u0 u1 u2 u3 u4 u5 u6 u7 u8 u9 u10 u11 u12 u13 u14 u15 : Int) (w : World) : (Instr.index 212 (.agg #[.int .u32 u0, .int .u32 u1, .int .u32 u2, .int .u32 u3, .int .u32 u4, .int .u32 u5, .int .u32 u6, .int .u32 u7, .int .u32 u8, .int .u32 u9, .int .u32 u10, .int .u32 u11, .int .u32 u12, .int .u32 u13, .int .u32 u14, .int .u32 u15]) (.int .i64 3)).run Tryz.prog w = .ok (.int .u32 u3) w := by kernel_rfl
theorem ar_ix4 (u0 u1 u2 u3 u4 u5 u6 u7 u8 u9 u10 u11 u12 u13 u14 u15 : Int) (w : World) : (Instr.index 212 (.agg #[.int .u32 u0, .int .u32 u1, .int .u32 u2, .int .u32 u3, .int .u32 u4, .int .u32 u5, .int .u32 u6, .int .u32 u7, .int .u32 u8, .int .u32 u9, .int .u32 u10, .int .u32 u11, .int .u32 u12, .int .u32 u13, .int .u32 u14, .int .u32 u15]) (.int .i64 4)).run Tryz.prog w = .ok (.int .u32 u4) w := by kernel_rfl
theorem ar_ix5 (u0 u1 u2 u3 u4 u5 u6 u7 u8 u9 u10 u11 u12 u13 u14 u15 : Int) (w : World) : (Instr.index 212 (.agg #[.int .u32 u0, .int .u32 u1, .int .u32 u2, .int .u32 u3, .int .u32 u4, .int .u32 u5, .int .u32 u6, .int .u32 u7, .int .u32 u8, .int .u32 u9, .int .u32 u10, .int .u32 u11, .int .u32 u12, .int .u32 u13, .int .u32 u14, .int .u32 u15]) (.int .i64 5)).run Tryz.prog w = .ok (.int .u32 u5) w := by kernel_rfl
theorem ar_ix6 (u0 u1 u2 u3 u4 u5 u6 u7 u8 u9 u10 u11 u12 u13 u14 u15 : Int) (w : World) : (Instr.index 212 (.agg #[.int .u32 u0, .int .u32 u1, .int .u32 u2, .int .u32 u3, .int .u32 u4, .int .u32 u5, .int .u32 u6, .int .u32 u7, .int .u32 u8, .int .u32 u9, .int .u32 u10, .int .u32 u11, .int .u32 u12, .int .u32 u13, .int .u32 u14, .int .u32 u15]) (.int .i64 6)).run Tryz.prog w = .ok (.int .u32 u6) w := by kernel_rfl
theorem ar_ix7 (u0 u1 u2 u3 u4 u5 u6 u7 u8 u9 u10 u11 u12 u13 u14 u15 : Int) (w : World) : (Instr.index 212 (.agg #[.int .u32 u0, .int .u32 u1, .int .u32 u2, .int .u32 u3, .int .u32 u4, .int .u32 u5, .int .u32 u6, .int .u32 u7, .int .u32 u8, .int .u32 u9, .int .u32 u10, .int .u32 u11, .int .u32 u12, .int .u32 u13, .int .u32 u14, .int .u32 u15]) (.int .i64 7)).run Tryz.prog w = .ok (.int .u32 u7) w := by kernel_rfl
theorem ar_ix8 (u0 u1 u2 u3 u4 u5 u6 u7 u8 u9 u10 u11 u12 u13 u14 u15 : Int) (w : World) : (Instr.index 212 (.agg #[.int .u32 u0, .int .u32 u1, .int .u32 u2, .int .u32 u3, .int .u32 u4, .int .u32 u5, .int .u32 u6, .int .u32 u7, .int .u32 u8, .int .u32 u9, .int .u32 u10, .int .u32 u11, .int .u32 u12, .int .u32 u13, .int .u32 u14, .int .u32 u15]) (.int .i64 8)).run Tryz.prog w = .ok (.int .u32 u8) w := by kernel_rfl
theorem ar_ix9 (u0 u1 u2 u3 u4 u5 u6 u7 u8 u9 u10 u11 u12 u13 u14 u15 : Int) (w : World) : (Instr.index 212 (.agg #[.int .u32 u0, .int .u32 u1, .int .u32 u2, .int .u32 u3, .int .u32 u4, .int .u32 u5, .int .u32 u6, .int .u32 u7, .int .u32 u8, .int .u32 u9, .int .u32 u10, .int .u32 u11, .int .u32 u12, .int .u32 u13, .int .u32 u14, .int .u32 u15]) (.int .i64 9)).run Tryz.prog w = .ok (.int .u32 u9) w := by kernel_rfl
theorem ar_ix10 (u0 u1 u2 u3 u4 u5 u6 u7 u8 u9 u10 u11 u12 u13 u14 u15 : Int) (w : World) : (Instr.index 212 (.agg #[.int .u32 u0, .int .u32 u1, .int .u32 u2, .int .u32 u3, .int .u32 u4, .int .u32 u5, .int .u32 u6, .int .u32 u7, .int .u32 u8, .int .u32 u9, .int .u32 u10, .int .u32 u11, .int .u32 u12, .int .u32 u13, .int .u32 u14, .int .u32 u15]) (.int .i64 10)).run Tryz.prog w = .ok (.int .u32 u10) w := by kernel_rfl
theorem ar_ix11 (u0 u1 u2 u3 u4 u5 u6 u7 u8 u9 u10 u11 u12 u13 u14 u15 : Int) (w : World) : (Instr.index 212 (.agg #[.int .u32 u0, .int .u32 u1, .int .u32 u2, .int .u32 u3, .int .u32 u4, .int .u32 u5, .int .u32 u6, .int .u32 u7, .int .u32 u8, .int .u32 u9, .int .u32 u10, .int .u32 u11, .int .u32 u12, .int .u32 u13, .int .u32 u14, .int .u32 u15]) (.int .i64 11)).run Tryz.prog w = .ok (.int .u32 u11) w := by kernel_rfl
theorem ar_ix12 (u0 u1 u2 u3 u4 u5 u6 u7 u8 u9 u10 u11 u12 u13 u14 u15 : Int) (w : World) : (Instr.index 212 (.agg #[.int .u32 u0, .int .u32 u1, .int .u32 u2, .int .u32 u3, .int .u32 u4, .int .u32 u5, .int .u32 u6, .int .u32 u7, .int .u32 u8, .int .u32 u9, .int .u32 u10, .int .u32 u11, .int .u32 u12, .int .u32 u13, .int .u32 u14, .int .u32 u15]) (.int .i64 12)).run Tryz.prog w = .ok (.int .u32 u12) w := by kernel_rfl
theorem ar_ix13 (u0 u1 u2 u3 u4 u5 u6 u7 u8 u9 u10 u11 u12 u13 u14 u15 : Int) (w : World) : (Instr.index 212 (.agg #[.int .u32 u0, .int .u32 u1, .int .u32 u2, .int .u32 u3, .int .u32 u4, .int .u32 u5, .int .u32 u6, .int .u32 u7, .int .u32 u8, .int .u32 u9, .int .u32 u10, .int .u32 u11, .int .u32 u12, .int .u32 u13, .int .u32 u14, .int .u32 u15]) (.int .i64 13)).run Tryz.prog w = .ok (.int .u32 u13) w := by kernel_rfl
theorem ar_ix14 (u0 u1 u2 u3 u4 u5 u6 u7 u8 u9 u10 u11 u12 u13 u14 u15 : Int) (w : World) : (Instr.index 212 (.agg #[.int .u32 u0, .int .u32 u1, .int .u32 u2, .int .u32 u3, .int .u32 u4, .int .u32 u5, .int .u32 u6, .int .u32 u7, .int .u32 u8, .int .u32 u9, .int .u32 u10, .int .u32 u11, .int .u32 u12, .int .u32 u13, .int .u32 u14, .int .u32 u15]) (.int .i64 14)).run Tryz.prog w = .ok (.int .u32 u14) w := by kernel_rfl
theorem ar_ix15 (u0 u1 u2 u3 u4 u5 u6 u7 u8 u9 u10 u11 u12 u13 u14 u15 : Int) (w : World) : (Instr.index 212 (.agg #[.int .u32 u0, .int .u32 u1, .int .u32 u2, .int .u32 u3, .int .u32 u4, .int .u32 u5, .int .u32 u6, .int .u32 u7, .int .u32 u8, .int .u32 u9, .int .u32 u10, .int .u32 u11, .int .u32 u12, .int .u32 u13, .int .u32 u14, .int .u32 u15]) (.int .i64 15)).run Tryz.prog w = .ok (.int .u32 u15) w := by kernel_rfl
theorem ar_index (ws : List Int) (h : ws.length = 16) (i : Nat) (hi : i < 16) (w : World) : (Instr.index 212 (.agg (ws.map (Value.int .u32)).toArray) (.int .i64 i)).run Tryz.prog w = .ok (.int .u32 (ws[i]'(h ▸ hi))) w := by
  match ws, h with
  | [u0, u1, u2, u3, u4, u5, u6, u7, u8, u9, u10, u11, u12, u13, u14, u15], _ =>
    have hc : i = 0 ∨ i = 1 ∨ i = 2 ∨ i = 3 ∨ i = 4 ∨ i = 5 ∨ i = 6 ∨ i = 7 ∨ i = 8 ∨ i = 9 ∨ i = 10 ∨ i = 11 ∨ i = 12 ∨ i = 13 ∨ i = 14 ∨ i = 15 := by omega
    rcases hc with rfl | rfl | rfl | rfl | rfl | rfl | rfl | rfl | rfl | rfl | rfl | rfl | rfl | rfl | rfl | rfl
    · exact ar_ix0 _ _ _ _ _ _ _ _ _ _ _ _ _ _ _ _ w
    · exact ar_ix1 _ _ _ _ _ _ _ _ _ _ _ _ _ _ _ _ w
    · exact ar_ix2 _ _ _ _ _ _ _ _ _ _ _ _ _ _ _ _ w
    · exact ar_ix3 _ _ _ _ _ _ _ _ _ _ _ _ _ _ _ _ w
    · exact ar_ix4 _ _ _ _ _ _ _ _ _ _ _ _ _ _ _ _ w
    · exact ar_ix5 _ _ _ _ _ _ _ _ _ _ _ _ _ _ _ _ w
    · exact ar_ix6 _ _ _ _ _ _ _ _ _ _ _ _ _ _ _ _ w
    · exact ar_ix7 _ _ _ _ _ _ _ _ _ _ _ _ _ _ _ _ w
    · exact ar_ix8 _ _ _ _ _ _ _ _ _ _ _ _ _ _ _ _ w
    · exact ar_ix9 _ _ _ _ _ _ _ _ _ _ _ _ _ _ _ _ w
    · exact ar_ix10 _ _ _ _ _ _ _ _ _ _ _ _ _ _ _ _ w
    · exact ar_ix11 _ _ _ _ _ _ _ _ _ _ _ _ _ _ _ _ w
    · exact ar_ix12 _ _ _ _ _ _ _ _ _ _ _ _ _ _ _ _ w
    · exact ar_ix13 _ _ _ _ _ _ _ _ _ _ _ _ _ _ _ _ w
    · exact ar_ix14 _ _ _ _ _ _ _ _ _ _ _ _ _ _ _ _ w
    · exact ar_ix15 _ _ _ _ _ _ _ _ _ _ _ _ _ _ _ _ w
theorem words_length (d : Data) : (words d).length = 16 := wordsK_length _ _
theorem words_get (d : Data) (i : Nat) (hi : i < 16) (h : i < (words d).length) : (words d)[i] = wordB (encB d) i := by simp [words, wordsK]
set_option maxRecDepth 100000 in
set_option maxHeartbeats 2000000 in
theorem c_word (d : Data) (hd : d.wf) (i : Nat) (hi : i < 16) (o : Int) (ho : o = 4 * i) (w : World) : Calls Tryz.prog 234 #[d.agg, .int .u32 o] w fun e w' => e = .returned (.tuple #[.int .u32 (wordB (encB d) i), .int .i64 0]) ∧ Below w.heap.size w w' := by
  have hp := fun w => c_placeD o w (by omega)
  rw [show o / 4 = (i : Int) by omega] at hp
  have hws := fun w => c_words d w hd
  have hix := ar_index (words d) (words_length d) i hi
  rw [words_get d i hi] at hix
  generalize wordB (encB d) i = wi at *
  generalize ((words d).map (Value.int .u32)).toArray = arr at *
  obtain ⟨nr, arch, ip, a0, a1, a2, a3, a4, a5⟩ := d
  unfold Data.agg at *
  simp only at hws ⊢
  clear hd ho
  go_enter Tryz.func234, Tryz.ntmps234
  go_wp2_with (first
    | (go_at_call 246; refine (hp _).mono ?_; rintro e w1 ⟨rfl, rfl⟩)
    | (go_at_call 247; refine (hws _).mono ?_; rintro e w2 ⟨rfl, hB2⟩))
  go_ret2
  exact ⟨rfl, (((Below.refl w.heap.size w).alloc (Nat.le_refl _) _)).trans (hB2.mono (by simp))⟩

theorem c_holds (c : Int) (a b : Int) (hc : c = 21 ∨ c = 37 ∨ c = 53) (w : World) : Calls Tryz.prog 217 #[.int .u16 c, .int .u32 a, .int .u32 b] w fun e w' => e = .returned (.bool (if c = 21 then decide (a = b) else if c = 37 then decide (b < a) else decide (b ≤ a))) ∧ w' = w := by
  rcases hc with rfl | rfl | rfl
  all_goals
    go_enter Tryz.func217, Tryz.ntmps217
    go_wp2_with fail
    go_ret
    refine ⟨ret_b ?_, rfl⟩

    grind
end Go.Proofs.YtbojjjiggppnaaaGreat
