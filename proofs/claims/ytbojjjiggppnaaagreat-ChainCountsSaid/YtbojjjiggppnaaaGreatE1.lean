/- The walk of vm.step at a policy's instructions (printed by gen_e1.py). -/
import Derived.Test.YtbojjjiggppnaaaGreatD9
import Derived.Test.YtbojjjiggppnaaaGreatBB
namespace Go.Proofs.YtbojjjiggppnaaaGreat
open Go.RowKit Go.Shelf
set_option linter.unusedVariables false
set_option linter.unusedSimpArgs false
attribute [-simp] Tryz.isAgg214 Tryz.sizeOf214

/-- What a step leaves: the place, the register, what is returned, whether it is. -/
def nextM (x : Insn) (xs : List Int) (pc a : Int) : Int × Int × Int × Bool :=
  if x.code = 32 then (pc + 1, wordB xs (x.k / 4).toNat, 0, false)
  else if x.code = 84 then (pc + 1, bits .and .u32 a x.k, 0, false)
  else if x.code = 5 then (pc + 1 + x.k, a, 0, false)
  else if x.code = 6 then (pc, a, x.k, true)
  else (pc + 1 + (if (if x.code = 21 then decide (a = x.k) else if x.code = 37 then decide (x.k < a) else decide (x.k ≤ a)) = true then x.jt else x.jf), a, 0, false)
def nextV (p : Int × Int × Int × Bool) : Value := .tuple #[.agg (mc p.1 p.2.1), .int .u32 p.2.2.1, .bool p.2.2.2]
theorem infoVm : (Tryz.prog.info? 214).map (·.size) = some 19 := by kernel_rfl
set_option maxRecDepth 100000 in
set_option maxHeartbeats 4000000 in
theorem c_step6 (d : Data) (hd : d.wf) (jt jf k pc a : Int) (hx : Insn.wf ⟨6, jt, jf, k⟩) (hpc : 0 ≤ pc ∧ pc ≤ 100000) (ha : 0 ≤ a ∧ a < 4294967296) (w : World) : Calls Tryz.prog 193 #[Insn.agg ⟨6, jt, jf, k⟩, d.agg, .agg (mc pc a)] w fun e w' => e = .returned (nextV (nextM ⟨6, jt, jf, k⟩ (encB d) pc a)) ∧ Below w.heap.size w w' := by
  obtain ⟨hx0, hx1, hx2, hx3⟩ := hx
  simp only [Kd.rng] at hx0 hx1 hx2 hx3
  obtain ⟨nr, arch, ip, a0, a1, a2, a3, a4, a5⟩ := d
  unfold Data.agg Insn.agg at *
  simp only at *
  clear hd
  obtain ⟨n, hn⟩ : ∃ n, w.heap.size = n := ⟨_, rfl⟩
  have HN := Lib.hid hn
  go_enter Tryz.func193, Tryz.ntmps193
  clear hn
  have F0 := trivial
  go_wp2_with (first
    | (clear F0; refine wpList_box_row (w := w) rfl 141 _ rfl n HN.out _ rfl ?_; intro W1 hW1; have F1 := trivial)
    | (clear F1; refine wpList_box_row (w := W1) rfl 27 _ rfl (n + 1) hW1.size _ rfl ?_; intro W2 hW2; have F2 := trivial)
    | (clear F2; refine wpList_box_row (w := W2) rfl 214 _ rfl (n + 1 + 1) hW2.size (mc pc a) rfl ?_; intro W3 hW3; have F3 := trivial)
    | (clear F3; refine wpList_alloc_row (w := W3) rfl 214 rfl (n + 1 + 1 + 1) hW3.size (mc 0 0) 19 (by kernel_rfl) ?_; intro W4 hW4; have F4 := trivial)
    | (clear F4; refine wpList_load_row (w := W4) rfl 214 _ rfl (n + 1 + 1) rfl 214 (mc pc a) (0, 0) _ (hW4.old _ _ hW3.here) Tryz.underlying214 rfl (by kernel_rfl) ?_; have F5 := trivial)
    | (clear F5; refine wpList_alloc_row (w := W4) rfl 214 rfl (n + 1 + 1 + 1 + 1) hW4.size (mc 0 0) 19 (by kernel_rfl) ?_; intro W5 hW5; have F6 := trivial)
    | (clear F6; refine wpList_store_row (w := W5) rfl _ _ _ rfl (n + 1 + 1 + 1 + 1) (mc pc a) rfl rfl _ _ hW5.here (by kernel_rfl) (by rfl) (by kernel_rfl) ?_; intro W6 hW6; have bx := (hW6.far _ (by omega)).trans (hW5.old _ _ (hW4.old _ _ (hW3.old _ _ (hW2.old _ _ hW1.here)))); have bd := (hW6.far _ (by omega)).trans (hW5.old _ _ (hW4.old _ _ (hW3.old _ _ hW2.here))); have bm := (hW6.far _ (by omega)).trans (hW5.old _ _ (hW4.old _ _ hW3.here)); have br := (hW6.far _ (by omega)).trans (hW5.old _ _ hW4.here); have bn := hW6.here; have s6 := Lib.hid (hW6.size.trans hW5.size); have b6 : Below n w W6 := (((((hW1.bel).trans (hW2.bel.mono (by omega))).trans (hW3.bel.mono (by omega))).trans (hW4.bel.mono (by omega))).trans (hW5.bel.mono (by omega))).trans (hW6.bel.mono (by omega)); have x0 := blk_cell bx 0; have x1 := blk_cell bx 1; have x2 := blk_cell bx 2; have x3 := blk_cell bx 3; have p0 := blk_cell bn 0; have p1 := blk_cell bn 1; have m1 := blk_cell bm 1; have m2 := blk_cell bm 2; have f0 := blk_free bn 0; have f1 := blk_free bn 1; simp only [mc, List.getElem?_toArray, List.getElem?_cons_zero, List.getElem?_cons_succ] at x0 x1 x2 x3 p0 p1 m1 m2; have BX := Lib.hid bx; have BD := Lib.hid bd; have BM := Lib.hid bm; have BR := Lib.hid br; have BN := Lib.hid bn; have B6 := Lib.hid b6; clear hW1 hW2 hW3 hW4 hW5 hW6 bx bd bm br bn b6 W1 W2 W3 W4 W5; have F7 := trivial))
  have bm := blk_far BM.out (p := ⟨n + 1 + 1 + 1 + 1, 0, none⟩) (by simp <;> omega) (.int .i64 (pc + 1))
  have br := blk_far BR.out (p := ⟨n + 1 + 1 + 1 + 1, 0, none⟩) (by simp <;> omega) (.int .i64 (pc + 1))
  have bx := blk_far BX.out (p := ⟨n + 1 + 1 + 1 + 1, 0, none⟩) (by simp <;> omega) (.int .i64 (pc + 1))
  have b7 := B6.out.setCell (p := ⟨n + 1 + 1 + 1 + 1, 0, none⟩) (by simp <;> omega) (.int .i64 (pc + 1))
  generalize (W6.setCell ⟨n + 1 + 1 + 1 + 1, 0, none⟩ (.int .i64 (pc + 1))) = W7 at *
  clear m1 m2 x0 x1 x2 x3 p0 p1 f0 f1
  have x3 := blk_cell bx 3
  simp only [List.getElem?_toArray, List.getElem?_cons_zero, List.getElem?_cons_succ] at x3
  have HBR := Lib.hid br
  have HBM := Lib.hid bm
  have HB7 := Lib.hid b7
  clear br b7 bm bx
  obtain ⟨m, hm⟩ : ∃ m, (mc pc a).size = m := ⟨_, rfl⟩
  have hagg : ∀ w, (isAgg 214).run Tryz.prog w = .ok true w := Tryz.isAgg214
  have hsz : ∀ w, (sizeOf 214).run Tryz.prog w = .ok m w := by rw [← hm]; exact Tryz.sizeOf214
  have hl := run_loadFrom_row (P := Tryz.prog) (w := W7.drew) (n + 1 + 1) 214 (mc pc a) (0, 0) HBM.out m hm
  obtain ⟨W8, hs, hW8⟩ := run_storeCells_row (P := Tryz.prog) (w := W7.drew) 214 (n + 1 + 1 + 1) (mc pc a) (mc 0 0) 214 HBR.out (by kernel_rfl) rfl (by kernel_rfl)
  have x8 := (World.cell?_of_block (a := ⟨n, 3, none⟩) (w := W7.drew) (hW8.far n (by omega))).trans x3
  go_region
  go_wp2_with fail
  refine bodyPost_ret (results_ctt rfl _ _ (n + 1 + 1 + 1) _ (mc pc a) _ _ rfl hW8.here Tryz.underlying214 rfl (by kernel_rfl)) rfl ?_
  refine ⟨rfl, ?_⟩
  have h : Below n W7 W8 := undrew (hW8.bel.mono (by omega))
  rw [HN.out]
  exact HB7.out.trans h
set_option maxRecDepth 100000 in
set_option maxHeartbeats 4000000 in
theorem c_step5 (d : Data) (hd : d.wf) (jt jf k pc a : Int) (hx : Insn.wf ⟨5, jt, jf, k⟩) (hpc : 0 ≤ pc ∧ pc ≤ 100000) (ha : 0 ≤ a ∧ a < 4294967296) (w : World) : Calls Tryz.prog 193 #[Insn.agg ⟨5, jt, jf, k⟩, d.agg, .agg (mc pc a)] w fun e w' => e = .returned (nextV (nextM ⟨5, jt, jf, k⟩ (encB d) pc a)) ∧ Below w.heap.size w w' := by
  obtain ⟨hx0, hx1, hx2, hx3⟩ := hx
  simp only [Kd.rng] at hx0 hx1 hx2 hx3
  obtain ⟨nr, arch, ip, a0, a1, a2, a3, a4, a5⟩ := d
  unfold Data.agg Insn.agg at *
  simp only at *
  clear hd
  obtain ⟨n, hn⟩ : ∃ n, w.heap.size = n := ⟨_, rfl⟩
  have HN := Lib.hid hn
  go_enter Tryz.func193, Tryz.ntmps193
  clear hn
  have F0 := trivial
  go_wp2_with (first
    | (clear F0; refine wpList_box_row (w := w) rfl 141 _ rfl n HN.out _ rfl ?_; intro W1 hW1; have F1 := trivial)
    | (clear F1; refine wpList_box_row (w := W1) rfl 27 _ rfl (n + 1) hW1.size _ rfl ?_; intro W2 hW2; have F2 := trivial)
    | (clear F2; refine wpList_box_row (w := W2) rfl 214 _ rfl (n + 1 + 1) hW2.size (mc pc a) rfl ?_; intro W3 hW3; have F3 := trivial)
    | (clear F3; refine wpList_alloc_row (w := W3) rfl 214 rfl (n + 1 + 1 + 1) hW3.size (mc 0 0) 19 (by kernel_rfl) ?_; intro W4 hW4; have F4 := trivial)
    | (clear F4; refine wpList_load_row (w := W4) rfl 214 _ rfl (n + 1 + 1) rfl 214 (mc pc a) (0, 0) _ (hW4.old _ _ hW3.here) Tryz.underlying214 rfl (by kernel_rfl) ?_; have F5 := trivial)
    | (clear F5; refine wpList_alloc_row (w := W4) rfl 214 rfl (n + 1 + 1 + 1 + 1) hW4.size (mc 0 0) 19 (by kernel_rfl) ?_; intro W5 hW5; have F6 := trivial)
    | (clear F6; refine wpList_store_row (w := W5) rfl _ _ _ rfl (n + 1 + 1 + 1 + 1) (mc pc a) rfl rfl _ _ hW5.here (by kernel_rfl) (by rfl) (by kernel_rfl) ?_; intro W6 hW6; have bx := (hW6.far _ (by omega)).trans (hW5.old _ _ (hW4.old _ _ (hW3.old _ _ (hW2.old _ _ hW1.here)))); have bd := (hW6.far _ (by omega)).trans (hW5.old _ _ (hW4.old _ _ (hW3.old _ _ hW2.here))); have bm := (hW6.far _ (by omega)).trans (hW5.old _ _ (hW4.old _ _ hW3.here)); have br := (hW6.far _ (by omega)).trans (hW5.old _ _ hW4.here); have bn := hW6.here; have s6 := Lib.hid (hW6.size.trans hW5.size); have b6 : Below n w W6 := (((((hW1.bel).trans (hW2.bel.mono (by omega))).trans (hW3.bel.mono (by omega))).trans (hW4.bel.mono (by omega))).trans (hW5.bel.mono (by omega))).trans (hW6.bel.mono (by omega)); have x0 := blk_cell bx 0; have x1 := blk_cell bx 1; have x2 := blk_cell bx 2; have x3 := blk_cell bx 3; have p0 := blk_cell bn 0; have p1 := blk_cell bn 1; have m1 := blk_cell bm 1; have m2 := blk_cell bm 2; have f0 := blk_free bn 0; have f1 := blk_free bn 1; simp only [mc, List.getElem?_toArray, List.getElem?_cons_zero, List.getElem?_cons_succ] at x0 x1 x2 x3 p0 p1 m1 m2; have BX := Lib.hid bx; have BD := Lib.hid bd; have BM := Lib.hid bm; have BR := Lib.hid br; have BN := Lib.hid bn; have B6 := Lib.hid b6; clear hW1 hW2 hW3 hW4 hW5 hW6 bx bd bm br bn b6 W1 W2 W3 W4 W5; have F7 := trivial)
    | (clear F7; (with_reducible show wpList _ _ _ (Oper.mk _ (Op.load 214 _) _ _ _ _ :: _) _ ((W6.setCell ⟨n + 1 + 1 + 1 + 1, 0, none⟩ (.int .i64 (pc + 1))).setCell ⟨n + 1 + 1 + 1 + 1, 0, none⟩ (.int .i64 (pc + 1 + k)))); refine wpList_load_row (w := ((W6.setCell ⟨n + 1 + 1 + 1 + 1, 0, none⟩ (.int .i64 (pc + 1))).setCell ⟨n + 1 + 1 + 1 + 1, 0, none⟩ (.int .i64 (pc + 1 + k)))) rfl 214 _ rfl (n + 1 + 1 + 1 + 1) rfl 214 (mc (pc + 1 + k) a) (0, 0) _ (blk_set (j := 0) (blk_set (j := 0) BN.out (.int .i64 (pc + 1))) (.int .i64 (pc + 1 + k))) Tryz.underlying214 rfl (by kernel_rfl) ?_; have F8 := trivial)
    | (clear F8; (with_reducible show wpList _ _ _ (Oper.mk _ (Op.store 214 _ _) _ _ _ _ :: _) _ ((W6.setCell ⟨n + 1 + 1 + 1 + 1, 0, none⟩ (.int .i64 (pc + 1))).setCell ⟨n + 1 + 1 + 1 + 1, 0, none⟩ (.int .i64 (pc + 1 + k)))); refine wpList_store_row (w := ((W6.setCell ⟨n + 1 + 1 + 1 + 1, 0, none⟩ (.int .i64 (pc + 1))).setCell ⟨n + 1 + 1 + 1 + 1, 0, none⟩ (.int .i64 (pc + 1 + k)))) rfl _ _ _ rfl (n + 1 + 1 + 1) (mc (pc + 1 + k) a) rfl rfl (mc 0 0) _ (blk_far (blk_far BR.out (p := ⟨n + 1 + 1 + 1 + 1, 0, none⟩) (by simp <;> omega) (.int .i64 (pc + 1))) (p := ⟨n + 1 + 1 + 1 + 1, 0, none⟩) (by simp <;> omega) (.int .i64 (pc + 1 + k))) (by kernel_rfl) (by rfl) (by kernel_rfl) ?_; intro W9 hW9))

  refine bodyPost_ret (results_ctt rfl _ _ (n + 1 + 1 + 1) _ (mc (pc + 1 + k) a) _ _ rfl hW9.here Tryz.underlying214 rfl (by kernel_rfl)) rfl ?_
  refine ⟨rfl, ?_⟩
  rw [HN.out]
  exact ((B6.out.setCell (p := ⟨n + 1 + 1 + 1 + 1, 0, none⟩) (by simp <;> omega) _).setCell (p := ⟨n + 1 + 1 + 1 + 1, 0, none⟩) (by simp <;> omega) _).trans (hW9.bel.mono (by omega))
set_option maxRecDepth 100000 in
set_option maxHeartbeats 4000000 in
theorem c_step32 (d : Data) (hd : d.wf) (jt jf k pc a : Int) (hx : Insn.wf ⟨32, jt, jf, k⟩) (hpc : 0 ≤ pc ∧ pc ≤ 100000) (ha : 0 ≤ a ∧ a < 4294967296) (i : Nat) (hi : i < 16) (hk : k = 4 * i) (w : World) : Calls Tryz.prog 193 #[Insn.agg ⟨32, jt, jf, k⟩, d.agg, .agg (mc pc a)] w fun e w' => e = .returned (nextV (nextM ⟨32, jt, jf, k⟩ (encB d) pc a)) ∧ Below w.heap.size w w' := by
  have hnx : nextM ⟨32, jt, jf, k⟩ (encB d) pc a = (pc + 1, wordB (encB d) i, 0, false) := by simp [nextM, hk]
  rw [hnx]
  clear hnx
  have hcall := fun w => c_loaded d hd i hi ⟨32, jt, jf, k⟩ rfl hk pc a w
  generalize wordB (encB d) i = wi at *
  clear hk hi
  obtain ⟨hx0, hx1, hx2, hx3⟩ := hx
  simp only [Kd.rng] at hx0 hx1 hx2 hx3
  obtain ⟨nr, arch, ip, a0, a1, a2, a3, a4, a5⟩ := d
  unfold Data.agg Insn.agg at *
  simp only at *
  clear hd
  obtain ⟨n, hn⟩ : ∃ n, w.heap.size = n := ⟨_, rfl⟩
  have HN := Lib.hid hn
  go_enter Tryz.func193, Tryz.ntmps193
  clear hn
  have F0 := trivial
  go_wp2_with (first
    | (clear F0; refine wpList_box_row (w := w) rfl 141 _ rfl n HN.out _ rfl ?_; intro W1 hW1; have F1 := trivial)
    | (clear F1; refine wpList_box_row (w := W1) rfl 27 _ rfl (n + 1) hW1.size _ rfl ?_; intro W2 hW2; have F2 := trivial)
    | (clear F2; refine wpList_box_row (w := W2) rfl 214 _ rfl (n + 1 + 1) hW2.size (mc pc a) rfl ?_; intro W3 hW3; have F3 := trivial)
    | (clear F3; refine wpList_alloc_row (w := W3) rfl 214 rfl (n + 1 + 1 + 1) hW3.size (mc 0 0) 19 (by kernel_rfl) ?_; intro W4 hW4; have F4 := trivial)
    | (clear F4; refine wpList_load_row (w := W4) rfl 214 _ rfl (n + 1 + 1) rfl 214 (mc pc a) (0, 0) _ (hW4.old _ _ hW3.here) Tryz.underlying214 rfl (by kernel_rfl) ?_; have F5 := trivial)
    | (clear F5; refine wpList_alloc_row (w := W4) rfl 214 rfl (n + 1 + 1 + 1 + 1) hW4.size (mc 0 0) 19 (by kernel_rfl) ?_; intro W5 hW5; have F6 := trivial)
    | (clear F6; refine wpList_store_row (w := W5) rfl _ _ _ rfl (n + 1 + 1 + 1 + 1) (mc pc a) rfl rfl _ _ hW5.here (by kernel_rfl) (by rfl) (by kernel_rfl) ?_; intro W6 hW6; have bx := (hW6.far _ (by omega)).trans (hW5.old _ _ (hW4.old _ _ (hW3.old _ _ (hW2.old _ _ hW1.here)))); have bd := (hW6.far _ (by omega)).trans (hW5.old _ _ (hW4.old _ _ (hW3.old _ _ hW2.here))); have bm := (hW6.far _ (by omega)).trans (hW5.old _ _ (hW4.old _ _ hW3.here)); have br := (hW6.far _ (by omega)).trans (hW5.old _ _ hW4.here); have bn := hW6.here; have s6 := Lib.hid (hW6.size.trans hW5.size); have b6 : Below n w W6 := (((((hW1.bel).trans (hW2.bel.mono (by omega))).trans (hW3.bel.mono (by omega))).trans (hW4.bel.mono (by omega))).trans (hW5.bel.mono (by omega))).trans (hW6.bel.mono (by omega)); have x0 := blk_cell bx 0; have x1 := blk_cell bx 1; have x2 := blk_cell bx 2; have x3 := blk_cell bx 3; have p0 := blk_cell bn 0; have p1 := blk_cell bn 1; have m1 := blk_cell bm 1; have m2 := blk_cell bm 2; have f0 := blk_free bn 0; have f1 := blk_free bn 1; simp only [mc, List.getElem?_toArray, List.getElem?_cons_zero, List.getElem?_cons_succ] at x0 x1 x2 x3 p0 p1 m1 m2; have BX := Lib.hid bx; have BD := Lib.hid bd; have BM := Lib.hid bm; have BR := Lib.hid br; have BN := Lib.hid bn; have B6 := Lib.hid b6; clear hW1 hW2 hW3 hW4 hW5 hW6 bx bd bm br bn b6 W1 W2 W3 W4 W5; have F7 := trivial)
    | (clear F7; (with_reducible show wpList _ _ _ (Oper.mk _ (Op.load 27 _) _ _ _ _ :: _) _ (W6.setCell ⟨n + 1 + 1 + 1 + 1, 0, none⟩ (.int .i64 (pc + 1)))); refine wpList_load_row (w := (W6.setCell ⟨n + 1 + 1 + 1 + 1, 0, none⟩ (.int .i64 (pc + 1)))) rfl 27 _ rfl (n + 1) rfl 27 (#[.int .u32 nr, .int .u32 arch, .int .u64 ip, .int .u64 a0, .int .u64 a1, .int .u64 a2, .int .u64 a3, .int .u64 a4, .int .u64 a5]) (0, 0) _ (blk_far BD.out (p := ⟨n + 1 + 1 + 1 + 1, 0, none⟩) (by simp <;> omega) (.int .i64 (pc + 1))) Tryz.underlying27 rfl (by kernel_rfl) ?_; have F8 := trivial)
    | (clear F8; (with_reducible show wpList _ _ _ (Oper.mk _ (Op.load 214 _) _ _ _ _ :: _) _ (W6.setCell ⟨n + 1 + 1 + 1 + 1, 0, none⟩ (.int .i64 (pc + 1)))); refine wpList_load_row (w := (W6.setCell ⟨n + 1 + 1 + 1 + 1, 0, none⟩ (.int .i64 (pc + 1)))) rfl 214 _ rfl (n + 1 + 1) rfl 214 (mc pc a) (0, 0) _ (blk_far BM.out (p := ⟨n + 1 + 1 + 1 + 1, 0, none⟩) (by simp <;> omega) (.int .i64 (pc + 1))) Tryz.underlying214 rfl (by kernel_rfl) ?_; have F9 := trivial)
    | (go_at_call 215; refine (hcall _).mono ?_; rintro e w2 ⟨rfl, hB2⟩; have bn2 := blk_bel hB2 (blk_set (j := 0) BN.out (.int .i64 (pc + 1))); have br2 := blk_bel hB2 (blk_far BR.out (p := ⟨n + 1 + 1 + 1 + 1, 0, none⟩) (by simp <;> omega) (.int .i64 (pc + 1))); have c1 := blk_cell bn2 1; have f1 := blk_free bn2 1; replace c1 := c1.trans (show _ = some (Value.int .u32 a) from rfl); have BN2 := Lib.hid bn2; have BR2 := Lib.hid br2; have HB2 := Lib.hid hB2; clear bn2 br2 hB2)
    | (clear F9; (with_reducible show wpList _ _ _ (Oper.mk _ (Op.load 214 _) _ _ _ _ :: _) _ (w2.setCell ⟨n + 1 + 1 + 1 + 1, 1, none⟩ (.int .u32 (wi)))); refine wpList_load_row (w := (w2.setCell ⟨n + 1 + 1 + 1 + 1, 1, none⟩ (.int .u32 (wi)))) rfl 214 _ rfl (n + 1 + 1 + 1 + 1) rfl 214 (mc (pc + 1) (wi)) (0, 0) _ (blk_set (j := 1) BN2.out (.int .u32 (wi))) Tryz.underlying214 rfl (by kernel_rfl) ?_; have F10 := trivial)
    | (clear F10; (with_reducible show wpList _ _ _ (Oper.mk _ (Op.store 214 _ _) _ _ _ _ :: _) _ (w2.setCell ⟨n + 1 + 1 + 1 + 1, 1, none⟩ (.int .u32 (wi)))); refine wpList_store_row (w := (w2.setCell ⟨n + 1 + 1 + 1 + 1, 1, none⟩ (.int .u32 (wi)))) rfl _ _ _ rfl (n + 1 + 1 + 1) (mc (pc + 1) (wi)) rfl rfl (mc 0 0) _ (blk_far BR2.out (p := ⟨n + 1 + 1 + 1 + 1, 1, none⟩) (by simp <;> omega) (.int .u32 (wi))) (by kernel_rfl) (by rfl) (by kernel_rfl) ?_; intro W9 hW9))

  refine bodyPost_ret (results_ctt rfl _ _ (n + 1 + 1 + 1) _ (mc (pc + 1) wi) _ _ rfl hW9.here Tryz.underlying214 rfl (by kernel_rfl)) rfl ?_
  refine ⟨rfl, ?_⟩
  rw [HN.out]
  exact (((B6.out.setCell (p := ⟨n + 1 + 1 + 1 + 1, 0, none⟩) (by simp <;> omega) (.int .i64 (pc + 1))).trans (HB2.out.mono (by have h := (B6.out.setCell (p := ⟨n + 1 + 1 + 1 + 1, 0, none⟩) (by simp <;> omega) (.int .i64 (pc + 1))).size; rw [HN.out] at h; exact h))).setCell (p := ⟨n + 1 + 1 + 1 + 1, 1, none⟩) (by simp <;> omega) _).trans (hW9.bel.mono (by omega))
set_option maxRecDepth 100000 in
set_option maxHeartbeats 4000000 in
theorem c_step84 (d : Data) (hd : d.wf) (jt jf k pc a : Int) (hx : Insn.wf ⟨84, jt, jf, k⟩) (hpc : 0 ≤ pc ∧ pc ≤ 100000) (ha : 0 ≤ a ∧ a < 4294967296) (w : World) : Calls Tryz.prog 193 #[Insn.agg ⟨84, jt, jf, k⟩, d.agg, .agg (mc pc a)] w fun e w' => e = .returned (nextV (nextM ⟨84, jt, jf, k⟩ (encB d) pc a)) ∧ Below w.heap.size w w' := by
  have hnx : nextM ⟨84, jt, jf, k⟩ (encB d) pc a = (pc + 1, bits .and .u32 a k, 0, false) := by simp [nextM]
  rw [hnx]
  clear hnx
  have hcall := fun w => c_alu a k w
  generalize bits .and .u32 a k = wi at *
  obtain ⟨hx0, hx1, hx2, hx3⟩ := hx
  simp only [Kd.rng] at hx0 hx1 hx2 hx3
  obtain ⟨nr, arch, ip, a0, a1, a2, a3, a4, a5⟩ := d
  unfold Data.agg Insn.agg at *
  simp only at *
  clear hd
  obtain ⟨n, hn⟩ : ∃ n, w.heap.size = n := ⟨_, rfl⟩
  have HN := Lib.hid hn
  go_enter Tryz.func193, Tryz.ntmps193
  clear hn
  have F0 := trivial
  go_wp2_with (first
    | (clear F0; refine wpList_box_row (w := w) rfl 141 _ rfl n HN.out _ rfl ?_; intro W1 hW1; have F1 := trivial)
    | (clear F1; refine wpList_box_row (w := W1) rfl 27 _ rfl (n + 1) hW1.size _ rfl ?_; intro W2 hW2; have F2 := trivial)
    | (clear F2; refine wpList_box_row (w := W2) rfl 214 _ rfl (n + 1 + 1) hW2.size (mc pc a) rfl ?_; intro W3 hW3; have F3 := trivial)
    | (clear F3; refine wpList_alloc_row (w := W3) rfl 214 rfl (n + 1 + 1 + 1) hW3.size (mc 0 0) 19 (by kernel_rfl) ?_; intro W4 hW4; have F4 := trivial)
    | (clear F4; refine wpList_load_row (w := W4) rfl 214 _ rfl (n + 1 + 1) rfl 214 (mc pc a) (0, 0) _ (hW4.old _ _ hW3.here) Tryz.underlying214 rfl (by kernel_rfl) ?_; have F5 := trivial)
    | (clear F5; refine wpList_alloc_row (w := W4) rfl 214 rfl (n + 1 + 1 + 1 + 1) hW4.size (mc 0 0) 19 (by kernel_rfl) ?_; intro W5 hW5; have F6 := trivial)
    | (clear F6; refine wpList_store_row (w := W5) rfl _ _ _ rfl (n + 1 + 1 + 1 + 1) (mc pc a) rfl rfl _ _ hW5.here (by kernel_rfl) (by rfl) (by kernel_rfl) ?_; intro W6 hW6; have bx := (hW6.far _ (by omega)).trans (hW5.old _ _ (hW4.old _ _ (hW3.old _ _ (hW2.old _ _ hW1.here)))); have bd := (hW6.far _ (by omega)).trans (hW5.old _ _ (hW4.old _ _ (hW3.old _ _ hW2.here))); have bm := (hW6.far _ (by omega)).trans (hW5.old _ _ (hW4.old _ _ hW3.here)); have br := (hW6.far _ (by omega)).trans (hW5.old _ _ hW4.here); have bn := hW6.here; have s6 := Lib.hid (hW6.size.trans hW5.size); have b6 : Below n w W6 := (((((hW1.bel).trans (hW2.bel.mono (by omega))).trans (hW3.bel.mono (by omega))).trans (hW4.bel.mono (by omega))).trans (hW5.bel.mono (by omega))).trans (hW6.bel.mono (by omega)); have x0 := blk_cell bx 0; have x1 := blk_cell bx 1; have x2 := blk_cell bx 2; have x3 := blk_cell bx 3; have p0 := blk_cell bn 0; have p1 := blk_cell bn 1; have m1 := blk_cell bm 1; have m2 := blk_cell bm 2; have f0 := blk_free bn 0; have f1 := blk_free bn 1; simp only [mc, List.getElem?_toArray, List.getElem?_cons_zero, List.getElem?_cons_succ] at x0 x1 x2 x3 p0 p1 m1 m2; have BX := Lib.hid bx; have BD := Lib.hid bd; have BM := Lib.hid bm; have BR := Lib.hid br; have BN := Lib.hid bn; have B6 := Lib.hid b6; clear hW1 hW2 hW3 hW4 hW5 hW6 bx bd bm br bn b6 W1 W2 W3 W4 W5; have F7 := trivial)
    | (go_at_call 216; refine (hcall _).mono ?_; rintro e w2 ⟨rfl, hB2⟩; have bn2 := blk_bel hB2 (blk_set (j := 0) BN.out (.int .i64 (pc + 1))); have br2 := blk_bel hB2 (blk_far BR.out (p := ⟨n + 1 + 1 + 1 + 1, 0, none⟩) (by simp <;> omega) (.int .i64 (pc + 1))); have c1 := blk_cell bn2 1; have f1 := blk_free bn2 1; replace c1 := c1.trans (show _ = some (Value.int .u32 a) from rfl); have BN2 := Lib.hid bn2; have BR2 := Lib.hid br2; have HB2 := Lib.hid hB2; clear bn2 br2 hB2)
    | (clear F7; (with_reducible show wpList _ _ _ (Oper.mk _ (Op.load 214 _) _ _ _ _ :: _) _ (w2.setCell ⟨n + 1 + 1 + 1 + 1, 1, none⟩ (.int .u32 (wi)))); refine wpList_load_row (w := (w2.setCell ⟨n + 1 + 1 + 1 + 1, 1, none⟩ (.int .u32 (wi)))) rfl 214 _ rfl (n + 1 + 1 + 1 + 1) rfl 214 (mc (pc + 1) (wi)) (0, 0) _ (blk_set (j := 1) BN2.out (.int .u32 (wi))) Tryz.underlying214 rfl (by kernel_rfl) ?_; have F8 := trivial)
    | (clear F8; (with_reducible show wpList _ _ _ (Oper.mk _ (Op.store 214 _ _) _ _ _ _ :: _) _ (w2.setCell ⟨n + 1 + 1 + 1 + 1, 1, none⟩ (.int .u32 (wi)))); refine wpList_store_row (w := (w2.setCell ⟨n + 1 + 1 + 1 + 1, 1, none⟩ (.int .u32 (wi)))) rfl _ _ _ rfl (n + 1 + 1 + 1) (mc (pc + 1) (wi)) rfl rfl (mc 0 0) _ (blk_far BR2.out (p := ⟨n + 1 + 1 + 1 + 1, 1, none⟩) (by simp <;> omega) (.int .u32 (wi))) (by kernel_rfl) (by rfl) (by kernel_rfl) ?_; intro W9 hW9))

  refine bodyPost_ret (results_ctt rfl _ _ (n + 1 + 1 + 1) _ (mc (pc + 1) wi) _ _ rfl hW9.here Tryz.underlying214 rfl (by kernel_rfl)) rfl ?_
  refine ⟨rfl, ?_⟩
  rw [HN.out]
  exact (((B6.out.setCell (p := ⟨n + 1 + 1 + 1 + 1, 0, none⟩) (by simp <;> omega) (.int .i64 (pc + 1))).trans (HB2.out.mono (by have h := (B6.out.setCell (p := ⟨n + 1 + 1 + 1 + 1, 0, none⟩) (by simp <;> omega) (.int .i64 (pc + 1))).size; rw [HN.out] at h; exact h))).setCell (p := ⟨n + 1 + 1 + 1 + 1, 1, none⟩) (by simp <;> omega) _).trans (hW9.bel.mono (by omega))
set_option maxRecDepth 100000 in
set_option maxHeartbeats 4000000 in
theorem c_step21t (d : Data) (hd : d.wf) (jt jf k pc a : Int) (hx : Insn.wf ⟨21, jt, jf, k⟩) (hpc : 0 ≤ pc ∧ pc ≤ 100000) (ha : 0 ≤ a ∧ a < 4294967296) (hb : a = k) (w : World) : Calls Tryz.prog 193 #[Insn.agg ⟨21, jt, jf, k⟩, d.agg, .agg (mc pc a)] w fun e w' => e = .returned (nextV (nextM ⟨21, jt, jf, k⟩ (encB d) pc a)) ∧ Below w.heap.size w w' := by
  have hnx : nextM ⟨21, jt, jf, k⟩ (encB d) pc a = (pc + 1 + jt, a, 0, false) := by simp [nextM, hb]
  rw [hnx]
  clear hnx
  have hbb : (if (21 : Int) = 21 then decide (a = k) else if (21 : Int) = 37 then decide (k < a) else decide (k ≤ a)) = true := by simp [hb]
  have hcall := fun w => c_holds 21 a k (by decide) w
  rw [hbb] at hcall
  clear hb hbb
  obtain ⟨hx0, hx1, hx2, hx3⟩ := hx
  simp only [Kd.rng] at hx0 hx1 hx2 hx3
  obtain ⟨nr, arch, ip, a0, a1, a2, a3, a4, a5⟩ := d
  unfold Data.agg Insn.agg at *
  simp only at *
  clear hd
  obtain ⟨n, hn⟩ : ∃ n, w.heap.size = n := ⟨_, rfl⟩
  have HN := Lib.hid hn
  go_enter Tryz.func193, Tryz.ntmps193
  clear hn
  have F0 := trivial
  go_wp2_with (first
    | (clear F0; refine wpList_box_row (w := w) rfl 141 _ rfl n HN.out _ rfl ?_; intro W1 hW1; have F1 := trivial)
    | (clear F1; refine wpList_box_row (w := W1) rfl 27 _ rfl (n + 1) hW1.size _ rfl ?_; intro W2 hW2; have F2 := trivial)
    | (clear F2; refine wpList_box_row (w := W2) rfl 214 _ rfl (n + 1 + 1) hW2.size (mc pc a) rfl ?_; intro W3 hW3; have F3 := trivial)
    | (clear F3; refine wpList_alloc_row (w := W3) rfl 214 rfl (n + 1 + 1 + 1) hW3.size (mc 0 0) 19 (by kernel_rfl) ?_; intro W4 hW4; have F4 := trivial)
    | (clear F4; refine wpList_load_row (w := W4) rfl 214 _ rfl (n + 1 + 1) rfl 214 (mc pc a) (0, 0) _ (hW4.old _ _ hW3.here) Tryz.underlying214 rfl (by kernel_rfl) ?_; have F5 := trivial)
    | (clear F5; refine wpList_alloc_row (w := W4) rfl 214 rfl (n + 1 + 1 + 1 + 1) hW4.size (mc 0 0) 19 (by kernel_rfl) ?_; intro W5 hW5; have F6 := trivial)
    | (clear F6; refine wpList_store_row (w := W5) rfl _ _ _ rfl (n + 1 + 1 + 1 + 1) (mc pc a) rfl rfl _ _ hW5.here (by kernel_rfl) (by rfl) (by kernel_rfl) ?_; intro W6 hW6; have bx := (hW6.far _ (by omega)).trans (hW5.old _ _ (hW4.old _ _ (hW3.old _ _ (hW2.old _ _ hW1.here)))); have bd := (hW6.far _ (by omega)).trans (hW5.old _ _ (hW4.old _ _ (hW3.old _ _ hW2.here))); have bm := (hW6.far _ (by omega)).trans (hW5.old _ _ (hW4.old _ _ hW3.here)); have br := (hW6.far _ (by omega)).trans (hW5.old _ _ hW4.here); have bn := hW6.here; have s6 := Lib.hid (hW6.size.trans hW5.size); have b6 : Below n w W6 := (((((hW1.bel).trans (hW2.bel.mono (by omega))).trans (hW3.bel.mono (by omega))).trans (hW4.bel.mono (by omega))).trans (hW5.bel.mono (by omega))).trans (hW6.bel.mono (by omega)); have x0 := blk_cell bx 0; have x1 := blk_cell bx 1; have x2 := blk_cell bx 2; have x3 := blk_cell bx 3; have p0 := blk_cell bn 0; have p1 := blk_cell bn 1; have m1 := blk_cell bm 1; have m2 := blk_cell bm 2; have f0 := blk_free bn 0; have f1 := blk_free bn 1; simp only [mc, List.getElem?_toArray, List.getElem?_cons_zero, List.getElem?_cons_succ] at x0 x1 x2 x3 p0 p1 m1 m2; have BX := Lib.hid bx; have BD := Lib.hid bd; have BM := Lib.hid bm; have BR := Lib.hid br; have BN := Lib.hid bn; have B6 := Lib.hid b6; clear hW1 hW2 hW3 hW4 hW5 hW6 bx bd bm br bn b6 W1 W2 W3 W4 W5; have F7 := trivial)
    | (go_at_call 217; refine (hcall _).mono ?_; rintro e w2 ⟨rfl, rfl⟩)
    | (clear F7; (with_reducible show wpList _ _ _ (Oper.mk _ (Op.load 214 _) _ _ _ _ :: _) _ ((W6.setCell ⟨n + 1 + 1 + 1 + 1, 0, none⟩ (.int .i64 (pc + 1))).setCell ⟨n + 1 + 1 + 1 + 1, 0, none⟩ (.int .i64 (pc + 1 + jt)))); refine wpList_load_row (w := ((W6.setCell ⟨n + 1 + 1 + 1 + 1, 0, none⟩ (.int .i64 (pc + 1))).setCell ⟨n + 1 + 1 + 1 + 1, 0, none⟩ (.int .i64 (pc + 1 + jt)))) rfl 214 _ rfl (n + 1 + 1 + 1 + 1) rfl 214 (mc (pc + 1 + jt) a) (0, 0) _ (blk_set (j := 0) (blk_set (j := 0) BN.out (.int .i64 (pc + 1))) (.int .i64 (pc + 1 + jt))) Tryz.underlying214 rfl (by kernel_rfl) ?_; have F8 := trivial)
    | (clear F8; (with_reducible show wpList _ _ _ (Oper.mk _ (Op.store 214 _ _) _ _ _ _ :: _) _ ((W6.setCell ⟨n + 1 + 1 + 1 + 1, 0, none⟩ (.int .i64 (pc + 1))).setCell ⟨n + 1 + 1 + 1 + 1, 0, none⟩ (.int .i64 (pc + 1 + jt)))); refine wpList_store_row (w := ((W6.setCell ⟨n + 1 + 1 + 1 + 1, 0, none⟩ (.int .i64 (pc + 1))).setCell ⟨n + 1 + 1 + 1 + 1, 0, none⟩ (.int .i64 (pc + 1 + jt)))) rfl _ _ _ rfl (n + 1 + 1 + 1) (mc (pc + 1 + jt) a) rfl rfl (mc 0 0) _ (blk_far (blk_far BR.out (p := ⟨n + 1 + 1 + 1 + 1, 0, none⟩) (by simp <;> omega) (.int .i64 (pc + 1))) (p := ⟨n + 1 + 1 + 1 + 1, 0, none⟩) (by simp <;> omega) (.int .i64 (pc + 1 + jt))) (by kernel_rfl) (by rfl) (by kernel_rfl) ?_; intro W9 hW9))

  refine bodyPost_ret (results_ctt rfl _ _ (n + 1 + 1 + 1) _ (mc (pc + 1 + jt) a) _ _ rfl hW9.here Tryz.underlying214 rfl (by kernel_rfl)) rfl ?_
  refine ⟨rfl, ?_⟩
  rw [HN.out]
  exact ((B6.out.setCell (p := ⟨n + 1 + 1 + 1 + 1, 0, none⟩) (by simp <;> omega) _).setCell (p := ⟨n + 1 + 1 + 1 + 1, 0, none⟩) (by simp <;> omega) _).trans (hW9.bel.mono (by omega))
set_option maxRecDepth 100000 in
set_option maxHeartbeats 4000000 in
theorem c_step21f (d : Data) (hd : d.wf) (jt jf k pc a : Int) (hx : Insn.wf ⟨21, jt, jf, k⟩) (hpc : 0 ≤ pc ∧ pc ≤ 100000) (ha : 0 ≤ a ∧ a < 4294967296) (hb : ¬ a = k) (w : World) : Calls Tryz.prog 193 #[Insn.agg ⟨21, jt, jf, k⟩, d.agg, .agg (mc pc a)] w fun e w' => e = .returned (nextV (nextM ⟨21, jt, jf, k⟩ (encB d) pc a)) ∧ Below w.heap.size w w' := by
  have hnx : nextM ⟨21, jt, jf, k⟩ (encB d) pc a = (pc + 1 + jf, a, 0, false) := by simp [nextM, hb]
  rw [hnx]
  clear hnx
  have hbb : (if (21 : Int) = 21 then decide (a = k) else if (21 : Int) = 37 then decide (k < a) else decide (k ≤ a)) = false := by simp [hb]
  have hcall := fun w => c_holds 21 a k (by decide) w
  rw [hbb] at hcall
  clear hb hbb
  obtain ⟨hx0, hx1, hx2, hx3⟩ := hx
  simp only [Kd.rng] at hx0 hx1 hx2 hx3
  obtain ⟨nr, arch, ip, a0, a1, a2, a3, a4, a5⟩ := d
  unfold Data.agg Insn.agg at *
  simp only at *
  clear hd
  obtain ⟨n, hn⟩ : ∃ n, w.heap.size = n := ⟨_, rfl⟩
  have HN := Lib.hid hn
  go_enter Tryz.func193, Tryz.ntmps193
  clear hn
  have F0 := trivial
  go_wp2_with (first
    | (clear F0; refine wpList_box_row (w := w) rfl 141 _ rfl n HN.out _ rfl ?_; intro W1 hW1; have F1 := trivial)
    | (clear F1; refine wpList_box_row (w := W1) rfl 27 _ rfl (n + 1) hW1.size _ rfl ?_; intro W2 hW2; have F2 := trivial)
    | (clear F2; refine wpList_box_row (w := W2) rfl 214 _ rfl (n + 1 + 1) hW2.size (mc pc a) rfl ?_; intro W3 hW3; have F3 := trivial)
    | (clear F3; refine wpList_alloc_row (w := W3) rfl 214 rfl (n + 1 + 1 + 1) hW3.size (mc 0 0) 19 (by kernel_rfl) ?_; intro W4 hW4; have F4 := trivial)
    | (clear F4; refine wpList_load_row (w := W4) rfl 214 _ rfl (n + 1 + 1) rfl 214 (mc pc a) (0, 0) _ (hW4.old _ _ hW3.here) Tryz.underlying214 rfl (by kernel_rfl) ?_; have F5 := trivial)
    | (clear F5; refine wpList_alloc_row (w := W4) rfl 214 rfl (n + 1 + 1 + 1 + 1) hW4.size (mc 0 0) 19 (by kernel_rfl) ?_; intro W5 hW5; have F6 := trivial)
    | (clear F6; refine wpList_store_row (w := W5) rfl _ _ _ rfl (n + 1 + 1 + 1 + 1) (mc pc a) rfl rfl _ _ hW5.here (by kernel_rfl) (by rfl) (by kernel_rfl) ?_; intro W6 hW6; have bx := (hW6.far _ (by omega)).trans (hW5.old _ _ (hW4.old _ _ (hW3.old _ _ (hW2.old _ _ hW1.here)))); have bd := (hW6.far _ (by omega)).trans (hW5.old _ _ (hW4.old _ _ (hW3.old _ _ hW2.here))); have bm := (hW6.far _ (by omega)).trans (hW5.old _ _ (hW4.old _ _ hW3.here)); have br := (hW6.far _ (by omega)).trans (hW5.old _ _ hW4.here); have bn := hW6.here; have s6 := Lib.hid (hW6.size.trans hW5.size); have b6 : Below n w W6 := (((((hW1.bel).trans (hW2.bel.mono (by omega))).trans (hW3.bel.mono (by omega))).trans (hW4.bel.mono (by omega))).trans (hW5.bel.mono (by omega))).trans (hW6.bel.mono (by omega)); have x0 := blk_cell bx 0; have x1 := blk_cell bx 1; have x2 := blk_cell bx 2; have x3 := blk_cell bx 3; have p0 := blk_cell bn 0; have p1 := blk_cell bn 1; have m1 := blk_cell bm 1; have m2 := blk_cell bm 2; have f0 := blk_free bn 0; have f1 := blk_free bn 1; simp only [mc, List.getElem?_toArray, List.getElem?_cons_zero, List.getElem?_cons_succ] at x0 x1 x2 x3 p0 p1 m1 m2; have BX := Lib.hid bx; have BD := Lib.hid bd; have BM := Lib.hid bm; have BR := Lib.hid br; have BN := Lib.hid bn; have B6 := Lib.hid b6; clear hW1 hW2 hW3 hW4 hW5 hW6 bx bd bm br bn b6 W1 W2 W3 W4 W5; have F7 := trivial)
    | (go_at_call 217; refine (hcall _).mono ?_; rintro e w2 ⟨rfl, rfl⟩)
    | (clear F7; (with_reducible show wpList _ _ _ (Oper.mk _ (Op.load 214 _) _ _ _ _ :: _) _ ((W6.setCell ⟨n + 1 + 1 + 1 + 1, 0, none⟩ (.int .i64 (pc + 1))).setCell ⟨n + 1 + 1 + 1 + 1, 0, none⟩ (.int .i64 (pc + 1 + jf)))); refine wpList_load_row (w := ((W6.setCell ⟨n + 1 + 1 + 1 + 1, 0, none⟩ (.int .i64 (pc + 1))).setCell ⟨n + 1 + 1 + 1 + 1, 0, none⟩ (.int .i64 (pc + 1 + jf)))) rfl 214 _ rfl (n + 1 + 1 + 1 + 1) rfl 214 (mc (pc + 1 + jf) a) (0, 0) _ (blk_set (j := 0) (blk_set (j := 0) BN.out (.int .i64 (pc + 1))) (.int .i64 (pc + 1 + jf))) Tryz.underlying214 rfl (by kernel_rfl) ?_; have F8 := trivial)
    | (clear F8; (with_reducible show wpList _ _ _ (Oper.mk _ (Op.store 214 _ _) _ _ _ _ :: _) _ ((W6.setCell ⟨n + 1 + 1 + 1 + 1, 0, none⟩ (.int .i64 (pc + 1))).setCell ⟨n + 1 + 1 + 1 + 1, 0, none⟩ (.int .i64 (pc + 1 + jf)))); refine wpList_store_row (w := ((W6.setCell ⟨n + 1 + 1 + 1 + 1, 0, none⟩ (.int .i64 (pc + 1))).setCell ⟨n + 1 + 1 + 1 + 1, 0, none⟩ (.int .i64 (pc + 1 + jf)))) rfl _ _ _ rfl (n + 1 + 1 + 1) (mc (pc + 1 + jf) a) rfl rfl (mc 0 0) _ (blk_far (blk_far BR.out (p := ⟨n + 1 + 1 + 1 + 1, 0, none⟩) (by simp <;> omega) (.int .i64 (pc + 1))) (p := ⟨n + 1 + 1 + 1 + 1, 0, none⟩) (by simp <;> omega) (.int .i64 (pc + 1 + jf))) (by kernel_rfl) (by rfl) (by kernel_rfl) ?_; intro W9 hW9))

  refine bodyPost_ret (results_ctt rfl _ _ (n + 1 + 1 + 1) _ (mc (pc + 1 + jf) a) _ _ rfl hW9.here Tryz.underlying214 rfl (by kernel_rfl)) rfl ?_
  refine ⟨rfl, ?_⟩
  rw [HN.out]
  exact ((B6.out.setCell (p := ⟨n + 1 + 1 + 1 + 1, 0, none⟩) (by simp <;> omega) _).setCell (p := ⟨n + 1 + 1 + 1 + 1, 0, none⟩) (by simp <;> omega) _).trans (hW9.bel.mono (by omega))
set_option maxRecDepth 100000 in
set_option maxHeartbeats 4000000 in
theorem c_step37t (d : Data) (hd : d.wf) (jt jf k pc a : Int) (hx : Insn.wf ⟨37, jt, jf, k⟩) (hpc : 0 ≤ pc ∧ pc ≤ 100000) (ha : 0 ≤ a ∧ a < 4294967296) (hb : k < a) (w : World) : Calls Tryz.prog 193 #[Insn.agg ⟨37, jt, jf, k⟩, d.agg, .agg (mc pc a)] w fun e w' => e = .returned (nextV (nextM ⟨37, jt, jf, k⟩ (encB d) pc a)) ∧ Below w.heap.size w w' := by
  have hnx : nextM ⟨37, jt, jf, k⟩ (encB d) pc a = (pc + 1 + jt, a, 0, false) := by simp [nextM, hb]
  rw [hnx]
  clear hnx
  have hbb : (if (37 : Int) = 21 then decide (a = k) else if (37 : Int) = 37 then decide (k < a) else decide (k ≤ a)) = true := by simp [hb]
  have hcall := fun w => c_holds 37 a k (by decide) w
  rw [hbb] at hcall
  clear hb hbb
  obtain ⟨hx0, hx1, hx2, hx3⟩ := hx
  simp only [Kd.rng] at hx0 hx1 hx2 hx3
  obtain ⟨nr, arch, ip, a0, a1, a2, a3, a4, a5⟩ := d
  unfold Data.agg Insn.agg at *
  simp only at *
  clear hd
  obtain ⟨n, hn⟩ : ∃ n, w.heap.size = n := ⟨_, rfl⟩
  have HN := Lib.hid hn
  go_enter Tryz.func193, Tryz.ntmps193
  clear hn
  have F0 := trivial
  go_wp2_with (first
    | (clear F0; refine wpList_box_row (w := w) rfl 141 _ rfl n HN.out _ rfl ?_; intro W1 hW1; have F1 := trivial)
    | (clear F1; refine wpList_box_row (w := W1) rfl 27 _ rfl (n + 1) hW1.size _ rfl ?_; intro W2 hW2; have F2 := trivial)
    | (clear F2; refine wpList_box_row (w := W2) rfl 214 _ rfl (n + 1 + 1) hW2.size (mc pc a) rfl ?_; intro W3 hW3; have F3 := trivial)
    | (clear F3; refine wpList_alloc_row (w := W3) rfl 214 rfl (n + 1 + 1 + 1) hW3.size (mc 0 0) 19 (by kernel_rfl) ?_; intro W4 hW4; have F4 := trivial)
    | (clear F4; refine wpList_load_row (w := W4) rfl 214 _ rfl (n + 1 + 1) rfl 214 (mc pc a) (0, 0) _ (hW4.old _ _ hW3.here) Tryz.underlying214 rfl (by kernel_rfl) ?_; have F5 := trivial)
    | (clear F5; refine wpList_alloc_row (w := W4) rfl 214 rfl (n + 1 + 1 + 1 + 1) hW4.size (mc 0 0) 19 (by kernel_rfl) ?_; intro W5 hW5; have F6 := trivial)
    | (clear F6; refine wpList_store_row (w := W5) rfl _ _ _ rfl (n + 1 + 1 + 1 + 1) (mc pc a) rfl rfl _ _ hW5.here (by kernel_rfl) (by rfl) (by kernel_rfl) ?_; intro W6 hW6; have bx := (hW6.far _ (by omega)).trans (hW5.old _ _ (hW4.old _ _ (hW3.old _ _ (hW2.old _ _ hW1.here)))); have bd := (hW6.far _ (by omega)).trans (hW5.old _ _ (hW4.old _ _ (hW3.old _ _ hW2.here))); have bm := (hW6.far _ (by omega)).trans (hW5.old _ _ (hW4.old _ _ hW3.here)); have br := (hW6.far _ (by omega)).trans (hW5.old _ _ hW4.here); have bn := hW6.here; have s6 := Lib.hid (hW6.size.trans hW5.size); have b6 : Below n w W6 := (((((hW1.bel).trans (hW2.bel.mono (by omega))).trans (hW3.bel.mono (by omega))).trans (hW4.bel.mono (by omega))).trans (hW5.bel.mono (by omega))).trans (hW6.bel.mono (by omega)); have x0 := blk_cell bx 0; have x1 := blk_cell bx 1; have x2 := blk_cell bx 2; have x3 := blk_cell bx 3; have p0 := blk_cell bn 0; have p1 := blk_cell bn 1; have m1 := blk_cell bm 1; have m2 := blk_cell bm 2; have f0 := blk_free bn 0; have f1 := blk_free bn 1; simp only [mc, List.getElem?_toArray, List.getElem?_cons_zero, List.getElem?_cons_succ] at x0 x1 x2 x3 p0 p1 m1 m2; have BX := Lib.hid bx; have BD := Lib.hid bd; have BM := Lib.hid bm; have BR := Lib.hid br; have BN := Lib.hid bn; have B6 := Lib.hid b6; clear hW1 hW2 hW3 hW4 hW5 hW6 bx bd bm br bn b6 W1 W2 W3 W4 W5; have F7 := trivial)
    | (go_at_call 217; refine (hcall _).mono ?_; rintro e w2 ⟨rfl, rfl⟩)
    | (clear F7; (with_reducible show wpList _ _ _ (Oper.mk _ (Op.load 214 _) _ _ _ _ :: _) _ ((W6.setCell ⟨n + 1 + 1 + 1 + 1, 0, none⟩ (.int .i64 (pc + 1))).setCell ⟨n + 1 + 1 + 1 + 1, 0, none⟩ (.int .i64 (pc + 1 + jt)))); refine wpList_load_row (w := ((W6.setCell ⟨n + 1 + 1 + 1 + 1, 0, none⟩ (.int .i64 (pc + 1))).setCell ⟨n + 1 + 1 + 1 + 1, 0, none⟩ (.int .i64 (pc + 1 + jt)))) rfl 214 _ rfl (n + 1 + 1 + 1 + 1) rfl 214 (mc (pc + 1 + jt) a) (0, 0) _ (blk_set (j := 0) (blk_set (j := 0) BN.out (.int .i64 (pc + 1))) (.int .i64 (pc + 1 + jt))) Tryz.underlying214 rfl (by kernel_rfl) ?_; have F8 := trivial)
    | (clear F8; (with_reducible show wpList _ _ _ (Oper.mk _ (Op.store 214 _ _) _ _ _ _ :: _) _ ((W6.setCell ⟨n + 1 + 1 + 1 + 1, 0, none⟩ (.int .i64 (pc + 1))).setCell ⟨n + 1 + 1 + 1 + 1, 0, none⟩ (.int .i64 (pc + 1 + jt)))); refine wpList_store_row (w := ((W6.setCell ⟨n + 1 + 1 + 1 + 1, 0, none⟩ (.int .i64 (pc + 1))).setCell ⟨n + 1 + 1 + 1 + 1, 0, none⟩ (.int .i64 (pc + 1 + jt)))) rfl _ _ _ rfl (n + 1 + 1 + 1) (mc (pc + 1 + jt) a) rfl rfl (mc 0 0) _ (blk_far (blk_far BR.out (p := ⟨n + 1 + 1 + 1 + 1, 0, none⟩) (by simp <;> omega) (.int .i64 (pc + 1))) (p := ⟨n + 1 + 1 + 1 + 1, 0, none⟩) (by simp <;> omega) (.int .i64 (pc + 1 + jt))) (by kernel_rfl) (by rfl) (by kernel_rfl) ?_; intro W9 hW9))

  refine bodyPost_ret (results_ctt rfl _ _ (n + 1 + 1 + 1) _ (mc (pc + 1 + jt) a) _ _ rfl hW9.here Tryz.underlying214 rfl (by kernel_rfl)) rfl ?_
  refine ⟨rfl, ?_⟩
  rw [HN.out]
  exact ((B6.out.setCell (p := ⟨n + 1 + 1 + 1 + 1, 0, none⟩) (by simp <;> omega) _).setCell (p := ⟨n + 1 + 1 + 1 + 1, 0, none⟩) (by simp <;> omega) _).trans (hW9.bel.mono (by omega))
set_option maxRecDepth 100000 in
set_option maxHeartbeats 4000000 in
theorem c_step37f (d : Data) (hd : d.wf) (jt jf k pc a : Int) (hx : Insn.wf ⟨37, jt, jf, k⟩) (hpc : 0 ≤ pc ∧ pc ≤ 100000) (ha : 0 ≤ a ∧ a < 4294967296) (hb : ¬ k < a) (w : World) : Calls Tryz.prog 193 #[Insn.agg ⟨37, jt, jf, k⟩, d.agg, .agg (mc pc a)] w fun e w' => e = .returned (nextV (nextM ⟨37, jt, jf, k⟩ (encB d) pc a)) ∧ Below w.heap.size w w' := by
  have hnx : nextM ⟨37, jt, jf, k⟩ (encB d) pc a = (pc + 1 + jf, a, 0, false) := by simp [nextM, hb]
  rw [hnx]
  clear hnx
  have hbb : (if (37 : Int) = 21 then decide (a = k) else if (37 : Int) = 37 then decide (k < a) else decide (k ≤ a)) = false := by simp [hb]
  have hcall := fun w => c_holds 37 a k (by decide) w
  rw [hbb] at hcall
  clear hb hbb
  obtain ⟨hx0, hx1, hx2, hx3⟩ := hx
  simp only [Kd.rng] at hx0 hx1 hx2 hx3
  obtain ⟨nr, arch, ip, a0, a1, a2, a3, a4, a5⟩ := d
  unfold Data.agg Insn.agg at *
  simp only at *
  clear hd
  obtain ⟨n, hn⟩ : ∃ n, w.heap.size = n := ⟨_, rfl⟩
  have HN := Lib.hid hn
  go_enter Tryz.func193, Tryz.ntmps193
  clear hn
  have F0 := trivial
  go_wp2_with (first
    | (clear F0; refine wpList_box_row (w := w) rfl 141 _ rfl n HN.out _ rfl ?_; intro W1 hW1; have F1 := trivial)
    | (clear F1; refine wpList_box_row (w := W1) rfl 27 _ rfl (n + 1) hW1.size _ rfl ?_; intro W2 hW2; have F2 := trivial)
    | (clear F2; refine wpList_box_row (w := W2) rfl 214 _ rfl (n + 1 + 1) hW2.size (mc pc a) rfl ?_; intro W3 hW3; have F3 := trivial)
    | (clear F3; refine wpList_alloc_row (w := W3) rfl 214 rfl (n + 1 + 1 + 1) hW3.size (mc 0 0) 19 (by kernel_rfl) ?_; intro W4 hW4; have F4 := trivial)
    | (clear F4; refine wpList_load_row (w := W4) rfl 214 _ rfl (n + 1 + 1) rfl 214 (mc pc a) (0, 0) _ (hW4.old _ _ hW3.here) Tryz.underlying214 rfl (by kernel_rfl) ?_; have F5 := trivial)
    | (clear F5; refine wpList_alloc_row (w := W4) rfl 214 rfl (n + 1 + 1 + 1 + 1) hW4.size (mc 0 0) 19 (by kernel_rfl) ?_; intro W5 hW5; have F6 := trivial)
    | (clear F6; refine wpList_store_row (w := W5) rfl _ _ _ rfl (n + 1 + 1 + 1 + 1) (mc pc a) rfl rfl _ _ hW5.here (by kernel_rfl) (by rfl) (by kernel_rfl) ?_; intro W6 hW6; have bx := (hW6.far _ (by omega)).trans (hW5.old _ _ (hW4.old _ _ (hW3.old _ _ (hW2.old _ _ hW1.here)))); have bd := (hW6.far _ (by omega)).trans (hW5.old _ _ (hW4.old _ _ (hW3.old _ _ hW2.here))); have bm := (hW6.far _ (by omega)).trans (hW5.old _ _ (hW4.old _ _ hW3.here)); have br := (hW6.far _ (by omega)).trans (hW5.old _ _ hW4.here); have bn := hW6.here; have s6 := Lib.hid (hW6.size.trans hW5.size); have b6 : Below n w W6 := (((((hW1.bel).trans (hW2.bel.mono (by omega))).trans (hW3.bel.mono (by omega))).trans (hW4.bel.mono (by omega))).trans (hW5.bel.mono (by omega))).trans (hW6.bel.mono (by omega)); have x0 := blk_cell bx 0; have x1 := blk_cell bx 1; have x2 := blk_cell bx 2; have x3 := blk_cell bx 3; have p0 := blk_cell bn 0; have p1 := blk_cell bn 1; have m1 := blk_cell bm 1; have m2 := blk_cell bm 2; have f0 := blk_free bn 0; have f1 := blk_free bn 1; simp only [mc, List.getElem?_toArray, List.getElem?_cons_zero, List.getElem?_cons_succ] at x0 x1 x2 x3 p0 p1 m1 m2; have BX := Lib.hid bx; have BD := Lib.hid bd; have BM := Lib.hid bm; have BR := Lib.hid br; have BN := Lib.hid bn; have B6 := Lib.hid b6; clear hW1 hW2 hW3 hW4 hW5 hW6 bx bd bm br bn b6 W1 W2 W3 W4 W5; have F7 := trivial)
    | (go_at_call 217; refine (hcall _).mono ?_; rintro e w2 ⟨rfl, rfl⟩)
    | (clear F7; (with_reducible show wpList _ _ _ (Oper.mk _ (Op.load 214 _) _ _ _ _ :: _) _ ((W6.setCell ⟨n + 1 + 1 + 1 + 1, 0, none⟩ (.int .i64 (pc + 1))).setCell ⟨n + 1 + 1 + 1 + 1, 0, none⟩ (.int .i64 (pc + 1 + jf)))); refine wpList_load_row (w := ((W6.setCell ⟨n + 1 + 1 + 1 + 1, 0, none⟩ (.int .i64 (pc + 1))).setCell ⟨n + 1 + 1 + 1 + 1, 0, none⟩ (.int .i64 (pc + 1 + jf)))) rfl 214 _ rfl (n + 1 + 1 + 1 + 1) rfl 214 (mc (pc + 1 + jf) a) (0, 0) _ (blk_set (j := 0) (blk_set (j := 0) BN.out (.int .i64 (pc + 1))) (.int .i64 (pc + 1 + jf))) Tryz.underlying214 rfl (by kernel_rfl) ?_; have F8 := trivial)
    | (clear F8; (with_reducible show wpList _ _ _ (Oper.mk _ (Op.store 214 _ _) _ _ _ _ :: _) _ ((W6.setCell ⟨n + 1 + 1 + 1 + 1, 0, none⟩ (.int .i64 (pc + 1))).setCell ⟨n + 1 + 1 + 1 + 1, 0, none⟩ (.int .i64 (pc + 1 + jf)))); refine wpList_store_row (w := ((W6.setCell ⟨n + 1 + 1 + 1 + 1, 0, none⟩ (.int .i64 (pc + 1))).setCell ⟨n + 1 + 1 + 1 + 1, 0, none⟩ (.int .i64 (pc + 1 + jf)))) rfl _ _ _ rfl (n + 1 + 1 + 1) (mc (pc + 1 + jf) a) rfl rfl (mc 0 0) _ (blk_far (blk_far BR.out (p := ⟨n + 1 + 1 + 1 + 1, 0, none⟩) (by simp <;> omega) (.int .i64 (pc + 1))) (p := ⟨n + 1 + 1 + 1 + 1, 0, none⟩) (by simp <;> omega) (.int .i64 (pc + 1 + jf))) (by kernel_rfl) (by rfl) (by kernel_rfl) ?_; intro W9 hW9))

  refine bodyPost_ret (results_ctt rfl _ _ (n + 1 + 1 + 1) _ (mc (pc + 1 + jf) a) _ _ rfl hW9.here Tryz.underlying214 rfl (by kernel_rfl)) rfl ?_
  refine ⟨rfl, ?_⟩
  rw [HN.out]
  exact ((B6.out.setCell (p := ⟨n + 1 + 1 + 1 + 1, 0, none⟩) (by simp <;> omega) _).setCell (p := ⟨n + 1 + 1 + 1 + 1, 0, none⟩) (by simp <;> omega) _).trans (hW9.bel.mono (by omega))
set_option maxRecDepth 100000 in
set_option maxHeartbeats 4000000 in
theorem c_step53t (d : Data) (hd : d.wf) (jt jf k pc a : Int) (hx : Insn.wf ⟨53, jt, jf, k⟩) (hpc : 0 ≤ pc ∧ pc ≤ 100000) (ha : 0 ≤ a ∧ a < 4294967296) (hb : k ≤ a) (w : World) : Calls Tryz.prog 193 #[Insn.agg ⟨53, jt, jf, k⟩, d.agg, .agg (mc pc a)] w fun e w' => e = .returned (nextV (nextM ⟨53, jt, jf, k⟩ (encB d) pc a)) ∧ Below w.heap.size w w' := by
  have hnx : nextM ⟨53, jt, jf, k⟩ (encB d) pc a = (pc + 1 + jt, a, 0, false) := by simp [nextM, hb]
  rw [hnx]
  clear hnx
  have hbb : (if (53 : Int) = 21 then decide (a = k) else if (53 : Int) = 37 then decide (k < a) else decide (k ≤ a)) = true := by simp [hb]
  have hcall := fun w => c_holds 53 a k (by decide) w
  rw [hbb] at hcall
  clear hb hbb
  obtain ⟨hx0, hx1, hx2, hx3⟩ := hx
  simp only [Kd.rng] at hx0 hx1 hx2 hx3
  obtain ⟨nr, arch, ip, a0, a1, a2, a3, a4, a5⟩ := d
  unfold Data.agg Insn.agg at *
  simp only at *
  clear hd
  obtain ⟨n, hn⟩ : ∃ n, w.heap.size = n := ⟨_, rfl⟩
  have HN := Lib.hid hn
  go_enter Tryz.func193, Tryz.ntmps193
  clear hn
  have F0 := trivial
  go_wp2_with (first
    | (clear F0; refine wpList_box_row (w := w) rfl 141 _ rfl n HN.out _ rfl ?_; intro W1 hW1; have F1 := trivial)
    | (clear F1; refine wpList_box_row (w := W1) rfl 27 _ rfl (n + 1) hW1.size _ rfl ?_; intro W2 hW2; have F2 := trivial)
    | (clear F2; refine wpList_box_row (w := W2) rfl 214 _ rfl (n + 1 + 1) hW2.size (mc pc a) rfl ?_; intro W3 hW3; have F3 := trivial)
    | (clear F3; refine wpList_alloc_row (w := W3) rfl 214 rfl (n + 1 + 1 + 1) hW3.size (mc 0 0) 19 (by kernel_rfl) ?_; intro W4 hW4; have F4 := trivial)
    | (clear F4; refine wpList_load_row (w := W4) rfl 214 _ rfl (n + 1 + 1) rfl 214 (mc pc a) (0, 0) _ (hW4.old _ _ hW3.here) Tryz.underlying214 rfl (by kernel_rfl) ?_; have F5 := trivial)
    | (clear F5; refine wpList_alloc_row (w := W4) rfl 214 rfl (n + 1 + 1 + 1 + 1) hW4.size (mc 0 0) 19 (by kernel_rfl) ?_; intro W5 hW5; have F6 := trivial)
    | (clear F6; refine wpList_store_row (w := W5) rfl _ _ _ rfl (n + 1 + 1 + 1 + 1) (mc pc a) rfl rfl _ _ hW5.here (by kernel_rfl) (by rfl) (by kernel_rfl) ?_; intro W6 hW6; have bx := (hW6.far _ (by omega)).trans (hW5.old _ _ (hW4.old _ _ (hW3.old _ _ (hW2.old _ _ hW1.here)))); have bd := (hW6.far _ (by omega)).trans (hW5.old _ _ (hW4.old _ _ (hW3.old _ _ hW2.here))); have bm := (hW6.far _ (by omega)).trans (hW5.old _ _ (hW4.old _ _ hW3.here)); have br := (hW6.far _ (by omega)).trans (hW5.old _ _ hW4.here); have bn := hW6.here; have s6 := Lib.hid (hW6.size.trans hW5.size); have b6 : Below n w W6 := (((((hW1.bel).trans (hW2.bel.mono (by omega))).trans (hW3.bel.mono (by omega))).trans (hW4.bel.mono (by omega))).trans (hW5.bel.mono (by omega))).trans (hW6.bel.mono (by omega)); have x0 := blk_cell bx 0; have x1 := blk_cell bx 1; have x2 := blk_cell bx 2; have x3 := blk_cell bx 3; have p0 := blk_cell bn 0; have p1 := blk_cell bn 1; have m1 := blk_cell bm 1; have m2 := blk_cell bm 2; have f0 := blk_free bn 0; have f1 := blk_free bn 1; simp only [mc, List.getElem?_toArray, List.getElem?_cons_zero, List.getElem?_cons_succ] at x0 x1 x2 x3 p0 p1 m1 m2; have BX := Lib.hid bx; have BD := Lib.hid bd; have BM := Lib.hid bm; have BR := Lib.hid br; have BN := Lib.hid bn; have B6 := Lib.hid b6; clear hW1 hW2 hW3 hW4 hW5 hW6 bx bd bm br bn b6 W1 W2 W3 W4 W5; have F7 := trivial)
    | (go_at_call 217; refine (hcall _).mono ?_; rintro e w2 ⟨rfl, rfl⟩)
    | (clear F7; (with_reducible show wpList _ _ _ (Oper.mk _ (Op.load 214 _) _ _ _ _ :: _) _ ((W6.setCell ⟨n + 1 + 1 + 1 + 1, 0, none⟩ (.int .i64 (pc + 1))).setCell ⟨n + 1 + 1 + 1 + 1, 0, none⟩ (.int .i64 (pc + 1 + jt)))); refine wpList_load_row (w := ((W6.setCell ⟨n + 1 + 1 + 1 + 1, 0, none⟩ (.int .i64 (pc + 1))).setCell ⟨n + 1 + 1 + 1 + 1, 0, none⟩ (.int .i64 (pc + 1 + jt)))) rfl 214 _ rfl (n + 1 + 1 + 1 + 1) rfl 214 (mc (pc + 1 + jt) a) (0, 0) _ (blk_set (j := 0) (blk_set (j := 0) BN.out (.int .i64 (pc + 1))) (.int .i64 (pc + 1 + jt))) Tryz.underlying214 rfl (by kernel_rfl) ?_; have F8 := trivial)
    | (clear F8; (with_reducible show wpList _ _ _ (Oper.mk _ (Op.store 214 _ _) _ _ _ _ :: _) _ ((W6.setCell ⟨n + 1 + 1 + 1 + 1, 0, none⟩ (.int .i64 (pc + 1))).setCell ⟨n + 1 + 1 + 1 + 1, 0, none⟩ (.int .i64 (pc + 1 + jt)))); refine wpList_store_row (w := ((W6.setCell ⟨n + 1 + 1 + 1 + 1, 0, none⟩ (.int .i64 (pc + 1))).setCell ⟨n + 1 + 1 + 1 + 1, 0, none⟩ (.int .i64 (pc + 1 + jt)))) rfl _ _ _ rfl (n + 1 + 1 + 1) (mc (pc + 1 + jt) a) rfl rfl (mc 0 0) _ (blk_far (blk_far BR.out (p := ⟨n + 1 + 1 + 1 + 1, 0, none⟩) (by simp <;> omega) (.int .i64 (pc + 1))) (p := ⟨n + 1 + 1 + 1 + 1, 0, none⟩) (by simp <;> omega) (.int .i64 (pc + 1 + jt))) (by kernel_rfl) (by rfl) (by kernel_rfl) ?_; intro W9 hW9))

  refine bodyPost_ret (results_ctt rfl _ _ (n + 1 + 1 + 1) _ (mc (pc + 1 + jt) a) _ _ rfl hW9.here Tryz.underlying214 rfl (by kernel_rfl)) rfl ?_
  refine ⟨rfl, ?_⟩
  rw [HN.out]
  exact ((B6.out.setCell (p := ⟨n + 1 + 1 + 1 + 1, 0, none⟩) (by simp <;> omega) _).setCell (p := ⟨n + 1 + 1 + 1 + 1, 0, none⟩) (by simp <;> omega) _).trans (hW9.bel.mono (by omega))
set_option maxRecDepth 100000 in
set_option maxHeartbeats 4000000 in
theorem c_step53f (d : Data) (hd : d.wf) (jt jf k pc a : Int) (hx : Insn.wf ⟨53, jt, jf, k⟩) (hpc : 0 ≤ pc ∧ pc ≤ 100000) (ha : 0 ≤ a ∧ a < 4294967296) (hb : ¬ k ≤ a) (w : World) : Calls Tryz.prog 193 #[Insn.agg ⟨53, jt, jf, k⟩, d.agg, .agg (mc pc a)] w fun e w' => e = .returned (nextV (nextM ⟨53, jt, jf, k⟩ (encB d) pc a)) ∧ Below w.heap.size w w' := by
  have hnx : nextM ⟨53, jt, jf, k⟩ (encB d) pc a = (pc + 1 + jf, a, 0, false) := by simp [nextM, hb]
  rw [hnx]
  clear hnx
  have hbb : (if (53 : Int) = 21 then decide (a = k) else if (53 : Int) = 37 then decide (k < a) else decide (k ≤ a)) = false := by simp [hb]
  have hcall := fun w => c_holds 53 a k (by decide) w
  rw [hbb] at hcall
  clear hb hbb
  obtain ⟨hx0, hx1, hx2, hx3⟩ := hx
  simp only [Kd.rng] at hx0 hx1 hx2 hx3
  obtain ⟨nr, arch, ip, a0, a1, a2, a3, a4, a5⟩ := d
  unfold Data.agg Insn.agg at *
  simp only at *
  clear hd
  obtain ⟨n, hn⟩ : ∃ n, w.heap.size = n := ⟨_, rfl⟩
  have HN := Lib.hid hn
  go_enter Tryz.func193, Tryz.ntmps193
  clear hn
  have F0 := trivial
  go_wp2_with (first
    | (clear F0; refine wpList_box_row (w := w) rfl 141 _ rfl n HN.out _ rfl ?_; intro W1 hW1; have F1 := trivial)
    | (clear F1; refine wpList_box_row (w := W1) rfl 27 _ rfl (n + 1) hW1.size _ rfl ?_; intro W2 hW2; have F2 := trivial)
    | (clear F2; refine wpList_box_row (w := W2) rfl 214 _ rfl (n + 1 + 1) hW2.size (mc pc a) rfl ?_; intro W3 hW3; have F3 := trivial)
    | (clear F3; refine wpList_alloc_row (w := W3) rfl 214 rfl (n + 1 + 1 + 1) hW3.size (mc 0 0) 19 (by kernel_rfl) ?_; intro W4 hW4; have F4 := trivial)
    | (clear F4; refine wpList_load_row (w := W4) rfl 214 _ rfl (n + 1 + 1) rfl 214 (mc pc a) (0, 0) _ (hW4.old _ _ hW3.here) Tryz.underlying214 rfl (by kernel_rfl) ?_; have F5 := trivial)
    | (clear F5; refine wpList_alloc_row (w := W4) rfl 214 rfl (n + 1 + 1 + 1 + 1) hW4.size (mc 0 0) 19 (by kernel_rfl) ?_; intro W5 hW5; have F6 := trivial)
    | (clear F6; refine wpList_store_row (w := W5) rfl _ _ _ rfl (n + 1 + 1 + 1 + 1) (mc pc a) rfl rfl _ _ hW5.here (by kernel_rfl) (by rfl) (by kernel_rfl) ?_; intro W6 hW6; have bx := (hW6.far _ (by omega)).trans (hW5.old _ _ (hW4.old _ _ (hW3.old _ _ (hW2.old _ _ hW1.here)))); have bd := (hW6.far _ (by omega)).trans (hW5.old _ _ (hW4.old _ _ (hW3.old _ _ hW2.here))); have bm := (hW6.far _ (by omega)).trans (hW5.old _ _ (hW4.old _ _ hW3.here)); have br := (hW6.far _ (by omega)).trans (hW5.old _ _ hW4.here); have bn := hW6.here; have s6 := Lib.hid (hW6.size.trans hW5.size); have b6 : Below n w W6 := (((((hW1.bel).trans (hW2.bel.mono (by omega))).trans (hW3.bel.mono (by omega))).trans (hW4.bel.mono (by omega))).trans (hW5.bel.mono (by omega))).trans (hW6.bel.mono (by omega)); have x0 := blk_cell bx 0; have x1 := blk_cell bx 1; have x2 := blk_cell bx 2; have x3 := blk_cell bx 3; have p0 := blk_cell bn 0; have p1 := blk_cell bn 1; have m1 := blk_cell bm 1; have m2 := blk_cell bm 2; have f0 := blk_free bn 0; have f1 := blk_free bn 1; simp only [mc, List.getElem?_toArray, List.getElem?_cons_zero, List.getElem?_cons_succ] at x0 x1 x2 x3 p0 p1 m1 m2; have BX := Lib.hid bx; have BD := Lib.hid bd; have BM := Lib.hid bm; have BR := Lib.hid br; have BN := Lib.hid bn; have B6 := Lib.hid b6; clear hW1 hW2 hW3 hW4 hW5 hW6 bx bd bm br bn b6 W1 W2 W3 W4 W5; have F7 := trivial)
    | (go_at_call 217; refine (hcall _).mono ?_; rintro e w2 ⟨rfl, rfl⟩)
    | (clear F7; (with_reducible show wpList _ _ _ (Oper.mk _ (Op.load 214 _) _ _ _ _ :: _) _ ((W6.setCell ⟨n + 1 + 1 + 1 + 1, 0, none⟩ (.int .i64 (pc + 1))).setCell ⟨n + 1 + 1 + 1 + 1, 0, none⟩ (.int .i64 (pc + 1 + jf)))); refine wpList_load_row (w := ((W6.setCell ⟨n + 1 + 1 + 1 + 1, 0, none⟩ (.int .i64 (pc + 1))).setCell ⟨n + 1 + 1 + 1 + 1, 0, none⟩ (.int .i64 (pc + 1 + jf)))) rfl 214 _ rfl (n + 1 + 1 + 1 + 1) rfl 214 (mc (pc + 1 + jf) a) (0, 0) _ (blk_set (j := 0) (blk_set (j := 0) BN.out (.int .i64 (pc + 1))) (.int .i64 (pc + 1 + jf))) Tryz.underlying214 rfl (by kernel_rfl) ?_; have F8 := trivial)
    | (clear F8; (with_reducible show wpList _ _ _ (Oper.mk _ (Op.store 214 _ _) _ _ _ _ :: _) _ ((W6.setCell ⟨n + 1 + 1 + 1 + 1, 0, none⟩ (.int .i64 (pc + 1))).setCell ⟨n + 1 + 1 + 1 + 1, 0, none⟩ (.int .i64 (pc + 1 + jf)))); refine wpList_store_row (w := ((W6.setCell ⟨n + 1 + 1 + 1 + 1, 0, none⟩ (.int .i64 (pc + 1))).setCell ⟨n + 1 + 1 + 1 + 1, 0, none⟩ (.int .i64 (pc + 1 + jf)))) rfl _ _ _ rfl (n + 1 + 1 + 1) (mc (pc + 1 + jf) a) rfl rfl (mc 0 0) _ (blk_far (blk_far BR.out (p := ⟨n + 1 + 1 + 1 + 1, 0, none⟩) (by simp <;> omega) (.int .i64 (pc + 1))) (p := ⟨n + 1 + 1 + 1 + 1, 0, none⟩) (by simp <;> omega) (.int .i64 (pc + 1 + jf))) (by kernel_rfl) (by rfl) (by kernel_rfl) ?_; intro W9 hW9))

  refine bodyPost_ret (results_ctt rfl _ _ (n + 1 + 1 + 1) _ (mc (pc + 1 + jf) a) _ _ rfl hW9.here Tryz.underlying214 rfl (by kernel_rfl)) rfl ?_
  refine ⟨rfl, ?_⟩
  rw [HN.out]
  exact ((B6.out.setCell (p := ⟨n + 1 + 1 + 1 + 1, 0, none⟩) (by simp <;> omega) _).setCell (p := ⟨n + 1 + 1 + 1 + 1, 0, none⟩) (by simp <;> omega) _).trans (hW9.bel.mono (by omega))
end Go.Proofs.YtbojjjiggppnaaaGreat
