/- The walks of octet.Reader.U32, data.Words and data.Word. -/
import Derived.Test.YtbojjjiggppnaaaGreatD6
namespace Go.Proofs.YtbojjjiggppnaaaGreat
open Go.RowKit Go.Shelf
set_option linter.unusedVariables false
set_option linter.unusedSimpArgs false

set_option maxRecDepth 100000 in
set_option maxHeartbeats 2000000 in
theorem c_number4 (b : Nat) (A : Option Addr) (xs : List Int) (c f : Nat) (w : World) (hb : w.heap[b]? = some (rdO A xs c f)) (hC : (Kd.int .u8).Row w (fun k => k < b) A xs) (hl : xs.length ≤ 10000) (hf : f + 4 ≤ xs.length) :
    Calls Tryz.prog 225 #[.pointer (some ⟨b, 0, none⟩), .int .i64 4] w fun e w' => e = .returned (.int .u64 (leN (part xs f 4))) ∧ w'.heap[b]? = some (rdO A xs c (f + 4 : Nat)) ∧ Below b w w' := by
  have hc := c_look b w.heap.size (blk_lt hb) A xs c f (w.alloc (.cells #[.int .u64 0] 24)) (blk_al hb _) (hC.bel (below_al (Below.refl _ _) _)) hl hf (blk_new _ _)
  have hb0 := blk_lt hb
  go_enter Tryz.func225, Tryz.ntmps225
  go_wp2_with (go_at_call 239; refine hc.mono ?_; rintro e w2 ⟨⟨_, rfl⟩, hq2, hb2, hB2⟩; have k0 := blk_cell hq2 0; simp only [List.getElem?_toArray, List.getElem?_cons_zero, List.getElem?_cons_succ] at k0; have HQ := Lib.hid hq2; have HB := Lib.hid hb2; have HC := Lib.hid hB2; clear hq2 hb2 hB2)
  go_ret
  exact ⟨rfl, HB.out, (((Below.refl w.heap.size w).alloc (Nat.le_refl _) _).mono (Nat.le_of_lt hb0)).trans HC.out⟩
set_option maxRecDepth 100000 in
set_option maxHeartbeats 2000000 in
theorem c_u32 (b : Nat) (A : Option Addr) (xs : List Int) (c f : Nat) (w : World) (hb : w.heap[b]? = some (rdO A xs c f)) (hC : (Kd.int .u8).Row w (fun k => k < b) A xs) (hl : xs.length ≤ 10000) (hf : f + 4 ≤ xs.length) :
    Calls Tryz.prog 202 #[.pointer (some ⟨b, 0, none⟩)] w fun e w' => e = .returned (.int .u32 (leN (part xs f 4))) ∧ w'.heap[b]? = some (rdO A xs c (f + 4 : Nat)) ∧ Below b w w' := by
  have hc := c_number4 b A xs c f w hb hC hl hf
  have hr := leN_rng (part xs f 4) (fun b hb => row_rng hC b (List.mem_of_mem_drop (List.mem_of_mem_take hb)))
  rw [part_length xs f 4 hf] at hr
  have hr' : 0 ≤ leN (part xs f 4) ∧ leN (part xs f 4) < 4294967296 := hr
  clear hr
  generalize leN (part xs f 4) = y at *
  go_enter Tryz.func202, Tryz.ntmps202
  go_wp2_with (go_at_call 225; refine hc.mono ?_; rintro e w2 ⟨rfl, hb2, hB2⟩; have HB := Lib.hid hb2; have HC := Lib.hid hB2; clear hb2 hB2)
  go_ret
  exact ⟨ret_i (by go_num), HB.out, HC.out⟩

/-- The words of a call's data. -/
def wordB (xs : List Int) (i : Nat) : Int := leN (part xs (4 * i) 4)
def wordsK (xs : List Int) (k : Nat) : List Int := (List.range k).map (wordB xs)
def words (d : Data) : List Int := wordsK (encB d) 16
theorem wordsK_length (xs : List Int) (k : Nat) : (wordsK xs k).length = k := by simp [wordsK]
theorem wordsK_succ (xs : List Int) (k : Nat) : wordsK xs (k + 1) = wordsK xs k ++ [wordB xs k] := by simp [wordsK, List.range_succ]
theorem zs_get (xs : List Int) (k : Nat) (hk : k < 16) : ((wordsK xs k ++ List.replicate (16 - k) 0).map (Value.int .u32)).toArray[k]? = some (.int .u32 0) := by
  rw [List.getElem?_toArray, List.getElem?_map, List.getElem?_append_right (by rw [wordsK_length]; exact Nat.le_refl _), wordsK_length, Nat.sub_self, show 16 - k = (16 - (k + 1)) + 1 by omega, List.replicate_succ]
  rfl
theorem zs_set (xs : List Int) (k : Nat) (hk : k < 16) : ((wordsK xs k ++ List.replicate (16 - k) 0).map (Value.int .u32)).toArray.setIfInBounds k (.int .u32 (wordB xs k)) = ((wordsK xs (k + 1) ++ List.replicate (16 - (k + 1)) 0).map (Value.int .u32)).toArray := by
  rw [List.setIfInBounds_toArray, ← List.map_set, List.set_append_right k _ (by rw [wordsK_length]; exact Nat.le_refl _), wordsK_length, Nat.sub_self, show 16 - k = (16 - (k + 1)) + 1 by omega, List.replicate_succ, List.set_cons_zero, wordsK_succ]
  simp
theorem blk_setL {w : World} {b j : Nat} {cs : List Value} {t : TypeId} {f : Nat × Nat} (hb : w.heap[b]? = some (.cells cs.toArray t f)) (u : Value) : (w.setCell ⟨b, j, none⟩ u).heap[b]? = some (.cells (cs.set j u).toArray t f) := by
  rw [blk_set hb u, List.setIfInBounds_toArray]
set_option maxRecDepth 100000 in
set_option maxHeartbeats 2000000 in
theorem c_words (d : Data) (w : World) (hd : d.wf) : Calls Tryz.prog 247 #[d.agg] w fun e w' => e = .returned (.agg ((words d).map (Value.int .u32)).toArray) ∧ Below w.heap.size w w' := by
  have hel := encK_length d 6 (Nat.le_refl _)
  have henc := fun w => c_encode d w hd
  obtain ⟨nr, arch, ip, a0, a1, a2, a3, a4, a5⟩ := d
  unfold Data.agg at *
  unfold words encB
  unfold encB at henc
  generalize encK ⟨nr, arch, ip, a0, a1, a2, a3, a4, a5⟩ 6 = xs at *
  simp only at henc ⊢
  go_enter Tryz.func247, Tryz.ntmps247
  have HEL := Lib.hid hel
  clear hel
  have hzw : Hid ((#[.int .u32 0, .int .u32 0, .int .u32 0, .int .u32 0, .int .u32 0, .int .u32 0, .int .u32 0, .int .u32 0, .int .u32 0, .int .u32 0, .int .u32 0, .int .u32 0, .int .u32 0, .int .u32 0, .int .u32 0, .int .u32 0] : Array Value) = ((wordsK xs 0 ++ List.replicate (16 - 0) 0).map (Value.int .u32)).toArray) := rfl
  go_wp2_with fail
  generalize hW1 : (((w.alloc (.cells #[.int .u32 nr, .int .u32 arch, .int .u64 ip, .int .u64 a0, .int .u64 a1, .int .u64 a2, .int .u64 a3, .int .u64 a4, .int .u64 a5] 27)).alloc _).alloc _) = W1
  have hsz : W1.heap.size = w.heap.size + 3 := by rw [← hW1]; simp
  have hBW1 : Below w.heap.size w W1 := by rw [← hW1]; exact below_al (below_al (below_al (Below.refl _ _) _) _) _
  have hR2 : W1.heap[w.heap.size + 1]? = some (.cells ((wordsK xs 0 ++ List.replicate (16 - 0) 0).map (Value.int .u32)).toArray 212) := by
    rw [← hW1, ← hzw.out]
    have h := blk_al (blk_new (w.alloc (.cells #[.int .u32 nr, .int .u32 arch, .int .u64 ip, .int .u64 a0, .int .u64 a1, .int .u64 a2, .int .u64 a3, .int .u64 a4, .int .u64 a5] 27)) (.cells #[.int .u32 0, .int .u32 0, .int .u32 0, .int .u32 0, .int .u32 0, .int .u32 0, .int .u32 0, .int .u32 0, .int .u32 0, .int .u32 0, .int .u32 0, .int .u32 0, .int .u32 0, .int .u32 0, .int .u32 0, .int .u32 0] 212)) (.cells #[.int .u32 0, .int .u32 0, .int .u32 0, .int .u32 0, .int .u32 0, .int .u32 0, .int .u32 0, .int .u32 0, .int .u32 0, .int .u32 0, .int .u32 0, .int .u32 0, .int .u32 0, .int .u32 0, .int .u32 0, .int .u32 0] 212)
    simpa only [World.size_alloc] using h
  have hR3 : W1.heap[w.heap.size + 1 + 1]? = some (.cells ((wordsK xs 0 ++ List.replicate (16 - 0) 0).map (Value.int .u32)).toArray 212) := by
    rw [← hW1, ← hzw.out]
    have h := blk_new ((w.alloc (.cells #[.int .u32 nr, .int .u32 arch, .int .u64 ip, .int .u64 a0, .int .u64 a1, .int .u64 a2, .int .u64 a3, .int .u64 a4, .int .u64 a5] 27)).alloc (.cells #[.int .u32 0, .int .u32 0, .int .u32 0, .int .u32 0, .int .u32 0, .int .u32 0, .int .u32 0, .int .u32 0, .int .u32 0, .int .u32 0, .int .u32 0, .int .u32 0, .int .u32 0, .int .u32 0, .int .u32 0, .int .u32 0] 212)) (.cells #[.int .u32 0, .int .u32 0, .int .u32 0, .int .u32 0, .int .u32 0, .int .u32 0, .int .u32 0, .int .u32 0, .int .u32 0, .int .u32 0, .int .u32 0, .int .u32 0, .int .u32 0, .int .u32 0, .int .u32 0, .int .u32 0] 212)
    simpa only [World.size_alloc] using h
  clear hW1
  have HR2 := Lib.hid hR2
  have HR3 := Lib.hid hR3
  clear hR2 hR3
  refine (henc _).mono ?_
  rintro e w1 ⟨v1, rfl, hO1, hB1⟩
  obtain ⟨A1, c1, rfl, _, _⟩ := hO1.form
  obtain ⟨_, _, e2, _, _, r1⟩ := hO1.K
  simp only [List.cons.injEq, Value.slice.injEq, and_true] at e2
  obtain ⟨rfl, _, rfl⟩ := e2
  go_wp2_with (go_at_call 199; refine (c_read A1 xs _ c1 rfl _ _ r1 (by rw [HEL.out]; omega)).mono ?_; rintro e w2 ⟨b2, A2, c2, rfl, hle2, hb2, hr2, hB2⟩)
  have hs1 := hB1.size
  go_loopw [5, 9] (fun _ i wr => ∃ (k : Nat), k ≤ 16 ∧ i = .int .i64 k ∧ Hid (wr.heap[w.heap.size + 1 + 1]? = some (.cells ((wordsK xs k ++ List.replicate (16 - k) 0).map (Value.int .u32)).toArray 212)) ∧ wr.heap[b2]? = some (rdO A2 xs c2 (4 * k)) ∧ (Kd.int .u8).Row wr (fun k => w1.heap.size ≤ k ∧ k < b2) A2 xs ∧ Below (w.heap.size + 1 + 1) W1 wr) (fun _ i _ => 16 - (intOf i).toNat)
  case atStart => exact ⟨0, by omega, rfl, blk_bel (below_tr hB1 hB2) HR3.out, hb2, hr2, (below_tr hB1 hB2).mono (by omega)⟩
  case round =>
    obtain ⟨k, hk, rfl, hR, hb, hr, hB⟩ := hrel
    by_cases hlt : k < 16
    · have hcall := c_u32 b2 A2 xs c2 (4 * k) wr hb (Kd.Row.mono (fun k hk => hk.2) hr) (by rw [HEL.out]; omega) (by rw [HEL.out]; omega)
      go_wp2_with (go_at_call 202; refine hcall.mono ?_; rintro e w3 ⟨rfl, hb3, hB3⟩; have hR3 := (hB3.block _ (by omega)).trans hR.out; have kc := (blk_cell hR3 k).trans (zs_get xs k hlt); have fc := blk_free hR3 k; have HR3' := Lib.hid hR3; have HBB := Lib.hid hb3; have HB3 := Lib.hid hB3; clear hR3 hb3 hB3)
      go_roundw
      case rel =>
        have hb4 := blk_far HBB.out (p := ⟨w.heap.size + 1 + 1, k, none⟩) (by simp; omega) (.int .u32 (leN (part xs (4 * k) 4)))
        have hR4 := blk_set (j := k) HR3'.out (.int .u32 (leN (part xs (4 * k) 4)))
        rw [show leN (part xs (4 * k) 4) = wordB xs k from rfl, zs_set xs k hlt] at hR4
        refine ⟨k + 1, by omega, by go_num, hR4, hb4, ?_, (hB.trans (HB3.out.mono (by omega))).setCell (p := ⟨w.heap.size + 1 + 1, k, none⟩) (by simp) _⟩
        exact hr.move (fun q hq _ => (Below.heap_setCell w3 ⟨w.heap.size + 1 + 1, k, none⟩ _ q (by have := hq.1; simp; omega)).trans (HB3.out.block q hq.2))
      case measure => simp [intOf]; omega
    · obtain rfl : k = 16 := by omega
      have hg2 := (hB.block (w.heap.size + 1) (by omega)).trans HR2.out
      obtain ⟨u0, u1, u2, u3, u4, u5, u6, u7, u8, u9, u10, u11, u12, u13, u14, u15, hu⟩ : ∃ u0 u1 u2 u3 u4 u5 u6 u7 u8 u9 u10 u11 u12 u13 u14 u15, wordsK xs 16 = [u0, u1, u2, u3, u4, u5, u6, u7, u8, u9, u10, u11, u12, u13, u14, u15] := ⟨_, _, _, _, _, _, _, _, _, _, _, _, _, _, _, _, rfl⟩
      have hR3 : wr.heap[w.heap.size + 1 + 1]? = some (.cells #[.int .u32 u0, .int .u32 u1, .int .u32 u2, .int .u32 u3, .int .u32 u4, .int .u32 u5, .int .u32 u6, .int .u32 u7, .int .u32 u8, .int .u32 u9, .int .u32 u10, .int .u32 u11, .int .u32 u12, .int .u32 u13, .int .u32 u14, .int .u32 u15] 212) := by
        have h := hR.out
        rw [hu] at h
        exact h
      have hR2 : wr.heap[w.heap.size + 1]? = some (.cells #[.int .u32 0, .int .u32 0, .int .u32 0, .int .u32 0, .int .u32 0, .int .u32 0, .int .u32 0, .int .u32 0, .int .u32 0, .int .u32 0, .int .u32 0, .int .u32 0, .int .u32 0, .int .u32 0, .int .u32 0, .int .u32 0] 212) := hg2
      have HU := Lib.hid hu
      clear hR hg2 hu hb hr hB1 hB2 hO1 r1 hb2 hr2 henc hd
      have c0 := blk_cell hR3 0
      have d0 := blk_cell hR2 0
      have g0 := blk_free hR2 0
      have c1 := blk_cell hR3 1
      have d1 := blk_cell hR2 1
      have g1 := blk_free hR2 1
      have c2 := blk_cell hR3 2
      have d2 := blk_cell hR2 2
      have g2 := blk_free hR2 2
      have c3 := blk_cell hR3 3
      have d3 := blk_cell hR2 3
      have g3 := blk_free hR2 3
      have c4 := blk_cell hR3 4
      have d4 := blk_cell hR2 4
      have g4 := blk_free hR2 4
      have c5 := blk_cell hR3 5
      have d5 := blk_cell hR2 5
      have g5 := blk_free hR2 5
      have c6 := blk_cell hR3 6
      have d6 := blk_cell hR2 6
      have g6 := blk_free hR2 6
      have c7 := blk_cell hR3 7
      have d7 := blk_cell hR2 7
      have g7 := blk_free hR2 7
      have c8 := blk_cell hR3 8
      have d8 := blk_cell hR2 8
      have g8 := blk_free hR2 8
      have c9 := blk_cell hR3 9
      have d9 := blk_cell hR2 9
      have g9 := blk_free hR2 9
      have c10 := blk_cell hR3 10
      have d10 := blk_cell hR2 10
      have g10 := blk_free hR2 10
      have c11 := blk_cell hR3 11
      have d11 := blk_cell hR2 11
      have g11 := blk_free hR2 11
      have c12 := blk_cell hR3 12
      have d12 := blk_cell hR2 12
      have g12 := blk_free hR2 12
      have c13 := blk_cell hR3 13
      have d13 := blk_cell hR2 13
      have g13 := blk_free hR2 13
      have c14 := blk_cell hR3 14
      have d14 := blk_cell hR2 14
      have g14 := blk_free hR2 14
      have c15 := blk_cell hR3 15
      have d15 := blk_cell hR2 15
      have g15 := blk_free hR2 15
      simp only [List.getElem?_toArray, List.getElem?_cons_zero, List.getElem?_cons_succ] at c0 d0 c1 d1 c2 d2 c3 d3 c4 d4 c5 d5 c6 d6 c7 d7 c8 d8 c9 d9 c10 d10 c11 d11 c12 d12 c13 d13 c14 d14 c15 d15
      have hRR := Lib.hid hR2
      clear hR2 hR3
      go_wp2_with fail
      have hF := blk_setL (j := 15) (blk_setL (j := 14) (blk_setL (j := 13) (blk_setL (j := 12) (blk_setL (j := 11) (blk_setL (j := 10) (blk_setL (j := 9) (blk_setL (j := 8) (blk_setL (j := 7) (blk_setL (j := 6) (blk_setL (j := 5) (blk_setL (j := 4) (blk_setL (j := 3) (blk_setL (j := 2) (blk_setL (j := 1) (blk_setL (j := 0) (hRR.out) (.int .u32 u0)) (.int .u32 u1)) (.int .u32 u2)) (.int .u32 u3)) (.int .u32 u4)) (.int .u32 u5)) (.int .u32 u6)) (.int .u32 u7)) (.int .u32 u8)) (.int .u32 u9)) (.int .u32 u10)) (.int .u32 u11)) (.int .u32 u12)) (.int .u32 u13)) (.int .u32 u14)) (.int .u32 u15)
      simp only [List.set_cons_zero, List.set_cons_succ] at hF
      have hFB : Below (w.heap.size + 1) wr ((((((((((((((((wr.setCell ⟨w.heap.size + 1, 0, none⟩ (.int .u32 u0)).setCell ⟨w.heap.size + 1, 1, none⟩ (.int .u32 u1)).setCell ⟨w.heap.size + 1, 2, none⟩ (.int .u32 u2)).setCell ⟨w.heap.size + 1, 3, none⟩ (.int .u32 u3)).setCell ⟨w.heap.size + 1, 4, none⟩ (.int .u32 u4)).setCell ⟨w.heap.size + 1, 5, none⟩ (.int .u32 u5)).setCell ⟨w.heap.size + 1, 6, none⟩ (.int .u32 u6)).setCell ⟨w.heap.size + 1, 7, none⟩ (.int .u32 u7)).setCell ⟨w.heap.size + 1, 8, none⟩ (.int .u32 u8)).setCell ⟨w.heap.size + 1, 9, none⟩ (.int .u32 u9)).setCell ⟨w.heap.size + 1, 10, none⟩ (.int .u32 u10)).setCell ⟨w.heap.size + 1, 11, none⟩ (.int .u32 u11)).setCell ⟨w.heap.size + 1, 12, none⟩ (.int .u32 u12)).setCell ⟨w.heap.size + 1, 13, none⟩ (.int .u32 u13)).setCell ⟨w.heap.size + 1, 14, none⟩ (.int .u32 u14)).setCell ⟨w.heap.size + 1, 15, none⟩ (.int .u32 u15)) := (((((((((((((((((Below.refl (w.heap.size + 1) wr)).setCell (p := ⟨w.heap.size + 1, 0, none⟩) (Nat.le_refl _) (.int .u32 u0)).setCell (p := ⟨w.heap.size + 1, 1, none⟩) (Nat.le_refl _) (.int .u32 u1)).setCell (p := ⟨w.heap.size + 1, 2, none⟩) (Nat.le_refl _) (.int .u32 u2)).setCell (p := ⟨w.heap.size + 1, 3, none⟩) (Nat.le_refl _) (.int .u32 u3)).setCell (p := ⟨w.heap.size + 1, 4, none⟩) (Nat.le_refl _) (.int .u32 u4)).setCell (p := ⟨w.heap.size + 1, 5, none⟩) (Nat.le_refl _) (.int .u32 u5)).setCell (p := ⟨w.heap.size + 1, 6, none⟩) (Nat.le_refl _) (.int .u32 u6)).setCell (p := ⟨w.heap.size + 1, 7, none⟩) (Nat.le_refl _) (.int .u32 u7)).setCell (p := ⟨w.heap.size + 1, 8, none⟩) (Nat.le_refl _) (.int .u32 u8)).setCell (p := ⟨w.heap.size + 1, 9, none⟩) (Nat.le_refl _) (.int .u32 u9)).setCell (p := ⟨w.heap.size + 1, 10, none⟩) (Nat.le_refl _) (.int .u32 u10)).setCell (p := ⟨w.heap.size + 1, 11, none⟩) (Nat.le_refl _) (.int .u32 u11)).setCell (p := ⟨w.heap.size + 1, 12, none⟩) (Nat.le_refl _) (.int .u32 u12)).setCell (p := ⟨w.heap.size + 1, 13, none⟩) (Nat.le_refl _) (.int .u32 u13)).setCell (p := ⟨w.heap.size + 1, 14, none⟩) (Nat.le_refl _) (.int .u32 u14)).setCell (p := ⟨w.heap.size + 1, 15, none⟩) (Nat.le_refl _) (.int .u32 u15)
      generalize ((((((((((((((((wr.setCell ⟨w.heap.size + 1, 0, none⟩ (.int .u32 u0)).setCell ⟨w.heap.size + 1, 1, none⟩ (.int .u32 u1)).setCell ⟨w.heap.size + 1, 2, none⟩ (.int .u32 u2)).setCell ⟨w.heap.size + 1, 3, none⟩ (.int .u32 u3)).setCell ⟨w.heap.size + 1, 4, none⟩ (.int .u32 u4)).setCell ⟨w.heap.size + 1, 5, none⟩ (.int .u32 u5)).setCell ⟨w.heap.size + 1, 6, none⟩ (.int .u32 u6)).setCell ⟨w.heap.size + 1, 7, none⟩ (.int .u32 u7)).setCell ⟨w.heap.size + 1, 8, none⟩ (.int .u32 u8)).setCell ⟨w.heap.size + 1, 9, none⟩ (.int .u32 u9)).setCell ⟨w.heap.size + 1, 10, none⟩ (.int .u32 u10)).setCell ⟨w.heap.size + 1, 11, none⟩ (.int .u32 u11)).setCell ⟨w.heap.size + 1, 12, none⟩ (.int .u32 u12)).setCell ⟨w.heap.size + 1, 13, none⟩ (.int .u32 u13)).setCell ⟨w.heap.size + 1, 14, none⟩ (.int .u32 u14)).setCell ⟨w.heap.size + 1, 15, none⟩ (.int .u32 u15)) = WF at *
      refine bodyPost_ret (results_cell_row rfl _ _ _ _ _ _ _ rfl hF Tryz.underlying212 rfl (by kernel_rfl)) rfl ?_
      rw [HU.out]
      exact ⟨rfl, hBW1.trans ((hB.mono (by omega)).trans (hFB.mono (by omega)))⟩
end Go.Proofs.YtbojjjiggppnaaaGreat
