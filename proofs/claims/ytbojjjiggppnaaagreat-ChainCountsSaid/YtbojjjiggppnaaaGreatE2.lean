/- The walk of vm.runs's iterator. -/
import Derived.Test.YtbojjjiggppnaaaGreatE1
import Derived.RangeFuncNested
import Derived.RangeFuncBound
import Derived.RangeFuncCalls
import Derived.RangeFuncLeaves
import Derived.OwnWalkIn
import Derived.TacticsInMore
import Derived.LoopNIn
import Derived.LoopIn
namespace Go.Proofs.YtbojjjiggppnaaaGreat
open Go.RowKit Go.Shelf
set_option linter.unusedVariables false
set_option linter.unusedSimpArgs false
attribute [-simp] Tryz.isAgg214 Tryz.sizeOf214

/-- An instruction that a policy's program may bear. -/
def okI (x : Insn) : Prop := x.wf ∧ ((x.code = 32 ∧ ∃ i : Nat, i < 16 ∧ x.k = 4 * i) ∨ x.code = 84 ∨ x.code = 21 ∨ x.code = 37 ∨ x.code = 53 ∨ x.code = 5 ∨ x.code = 6)
theorem c_step (d : Data) (hd : d.wf) (x : Insn) (hx : okI x) (pc a : Int) (hpc : 0 ≤ pc ∧ pc ≤ 100000) (ha : 0 ≤ a ∧ a < 4294967296) (w : World) : Calls Tryz.prog 193 #[x.agg, d.agg, .agg (mc pc a)] w fun e w' => e = .returned (nextV (nextM x (encB d) pc a)) ∧ Below w.heap.size w w' := by
  obtain ⟨code, jt, jf, k⟩ := x
  obtain ⟨hw, h⟩ := hx
  simp only at h
  rcases h with ⟨rfl, i, hi, hk⟩ | rfl | rfl | rfl | rfl | rfl | rfl
  · exact c_step32 d hd jt jf k pc a hw hpc ha i hi hk w
  · exact c_step84 d hd jt jf k pc a hw hpc ha w
  · by_cases h : a = k
    · exact c_step21t d hd jt jf k pc a hw hpc ha h w
    · exact c_step21f d hd jt jf k pc a hw hpc ha h w
  · by_cases h : k < a
    · exact c_step37t d hd jt jf k pc a hw hpc ha h w
    · exact c_step37f d hd jt jf k pc a hw hpc ha h w
  · by_cases h : k ≤ a
    · exact c_step53t d hd jt jf k pc a hw hpc ha h w
    · exact c_step53f d hd jt jf k pc a hw hpc ha h w
  · exact c_step5 d hd jt jf k pc a hw hpc ha w
  · exact c_step6 d hd jt jf k pc a hw hpc ha w

/-- The program may run so many rounds from here. -/
def Runs (l : List Insn) (xs : List Int) : Nat → Int → Int → Prop
  | 0, _, _ => True
  | f + 1, pc, a => (0 ≤ pc ∧ pc ≤ 100000) ∧ (0 ≤ a ∧ a < 4294967296) ∧ pc.toNat < l.length ∧ okI l[pc.toNat]! ∧ ((nextM l[pc.toNat]! xs pc a).2.2.2 = true ∨ Runs l xs f (nextM l[pc.toNat]! xs pc a).1 (nextM l[pc.toNat]! xs pc a).2.1)
/-- What the iterator yields. -/
def trace (l : List Insn) (xs : List Int) : Nat → Int → Int → List (Int × Int × Int)
  | 0, _, _ => []
  | f + 1, pc, a => (pc, a, (nextM l[pc.toNat]! xs pc a).2.2.1) :: (if (nextM l[pc.toNat]! xs pc a).2.2.2 = true then [] else trace l xs f (nextM l[pc.toNat]! xs pc a).1 (nextM l[pc.toNat]! xs pc a).2.1)
/-- A round keeps every cell but the block's. -/
def Kp (b8 : Nat) (A B : World) : Prop := A.heap.size ≤ B.heap.size ∧ ∀ (k : Nat) (cs : Array Value) (t : TypeId) (f : Nat × Nat), k ≠ b8 → A.heap[k]? = some (.cells cs t f) → B.heap[k]? = some (.cells cs t f)

theorem Kp.cell {b8 : Nat} {A B : World} (h : Kp b8 A B) {a : Addr} {v : Value} (ha : a.block ≠ b8) (hc : A.cell? a = some v) : B.cell? a = some v := by
  cases hq : A.heap[a.block]? with
  | none => simp [World.cell?, hq] at hc
  | some o =>
    cases o with
    | cells cs t f => rw [World.cell?_of_block ((h.2 _ _ _ _ ha hq).trans hq.symm)]; exact hc
    | _ => simp [World.cell?, hq] at hc
/-- The program's instructions, cell by cell. -/
def IC (l : List Insn) (A : Option Addr) (b8 : Nat) (w : World) : Prop := ∀ i : Nat, i < l.length → ∃ ad, A = some ad ∧ ad.block ≠ b8 ∧ w.cell? (ad.add (i * 4)) = some (.int .u16 l[i]!.code) ∧ w.cell? ⟨(ad.add (i * 4)).block, (ad.add (i * 4)).off + 1, none⟩ = some (.int .u8 l[i]!.jt) ∧ w.cell? ⟨(ad.add (i * 4)).block, (ad.add (i * 4)).off + 2, none⟩ = some (.int .u8 l[i]!.jf) ∧ w.cell? ⟨(ad.add (i * 4)).block, (ad.add (i * 4)).off + 3, none⟩ = some (.int .u32 l[i]!.k)
theorem IC.kp {l : List Insn} {A : Option Addr} {b8 : Nat} {w w' : World} (h : IC l A b8 w) (hk : Kp b8 w w') : IC l A b8 w' := fun i hi => by
  obtain ⟨ad, e, hb, h0, h1, h2, h3⟩ := h i hi
  have hb' : (ad.add (i * 4)).block ≠ b8 := by rw [Kd.add_block]; exact hb
  exact ⟨ad, e, hb, hk.cell hb' h0, hk.cell hb' h1, hk.cell hb' h2, hk.cell hb' h3⟩
theorem IC.far {l : List Insn} {A : Option Addr} {b8 bm : Nat} {w w' : World} (h : IC l A b8 w) (hf : ∀ k, k ≠ bm → w'.heap[k]? = w.heap[k]?) (hb : ∀ ad, A = some ad → ad.block ≠ bm) : IC l A b8 w' := fun i hi => by
  obtain ⟨ad, e, hb8, h0, h1, h2, h3⟩ := h i hi
  have hb' : w'.heap[(ad.add (i * 4)).block]? = w.heap[(ad.add (i * 4)).block]? := hf _ (by rw [Kd.add_block]; exact hb ad e)
  have hc : ∀ (o : Nat) v, w.cell? ⟨(ad.add (i * 4)).block, o, none⟩ = some v → w'.cell? ⟨(ad.add (i * 4)).block, o, none⟩ = some v := fun o v h => (World.cell?_of_block (a := ⟨(ad.add (i * 4)).block, o, none⟩) hb').trans h
  exact ⟨ad, e, hb8, (World.cell?_of_block hb').trans h0, hc _ _ h1, hc _ _ h2, hc _ _ h3⟩
theorem Kp.bel {b8 : Nat} {w w' : World} (h : Below w.heap.size w w') : Kp b8 w w' := ⟨h.size, fun k cs t f _ hk => blk_bel h hk⟩
theorem IC.of {l : List Insn} {A : Option Addr} {b8 : Nat} {w : World} (h : kInsn.Row w (fun k => k ≠ b8) A l) : IC l A b8 w := fun i hi => by
  obtain ⟨ad, e, hb, _, h0, h1, h2, h3⟩ := kInsn.at_ h hi
  rw [getElem!_pos l i hi]
  exact ⟨ad, e, hb, h0, h1, h2, h3⟩
set_option maxRecDepth 100000 in
set_option maxHeartbeats 4000000 in
theorem runs1_in (n : Nat) (hn : 1 ≤ n) (ly : Nat) (l : List Insn) (hl : l.length ≤ 4096) (d : Data) (hd : d.wf) (A : Option Addr) (c bp bd b8 : Nat) (J : List (Int × Int × Int) → World → Prop) (W : World)
    (hb8 : b8 < W.heap.size) (hp8 : bp ≠ b8) (hd8 : bd ≠ b8) (hbp : W.heap[bp]? = some (.cells #[.slice A l.length c] 38)) (hbd : W.heap[bd]? = some (.cells d.cells.toArray 27))
    (hrow : kInsn.Row W (fun k => k ≠ b8) A l) (hruns : Runs l (encB d) l.length 0 0)
    (hJ : ∀ s A' B', J s A' → Below W.heap.size A' B' → J s B')
    (hY : ∀ pre x W1, J pre W1 → YieldAt Fence.wide (n - 1) Tryz.prog ly #[.agg (mc x.1 x.2.1), .int .u32 x.2.2] W1 fun e W' => e = .returned (.bool true) ∧ J (pre ++ [x]) W' ∧ Kp b8 W1 W')
    (h0 : J [] W) :
    CallsIn Fence.wide n Tryz.prog 192 #[.func (.yield ly) #[] #[], .pointer (some ⟨bp, 0, none⟩), .pointer (some ⟨bd, 0, none⟩)] W fun e W' => (∃ v, e = .returned v) ∧ J (trace l (encB d) l.length 0 0) W' := by
  have hro : Fence.wide.round = none := rfl
  refine callsIn_of_wp Tryz.func192 rfl trivial ?_ hro
  simp only [Tryz.ntmps192, List.size_toArray, List.length_cons, List.length_nil, Nat.reduceAdd, Nat.reduceSub, Array.replicate_succ, Array.replicate_zero, List.push_toArray, List.append_toArray, List.nil_append, List.cons_append]
  have kp := cell_al (blk_cell hbp 0) (.cells (mc 0 0) 214)
  simp only [mc, List.getElem?_toArray, List.getElem?_cons_zero] at kp
  have HIC := Lib.hid (IC.of hrow)
  have HBP := Lib.hid hbp
  have HBD := Lib.hid hbd
  have HRUNS := Lib.hid hruns
  have HJ := Lib.hid hJ
  have HY := Lib.hid hY
  have H0 := Lib.hid h0
  have HP8 := Lib.hid hp8
  have HD8 := Lib.hid hd8
  have hB0 := Lib.hid (below_al (Below.refl W.heap.size W) (.cells (mc 0 0) 214))
  clear hrow hbp hbd hruns hJ hY h0 hp8 hd8
  obtain ⟨bm, hbm⟩ : ∃ bm, W.heap.size = bm := ⟨_, rfl⟩
  have HBM := Lib.hid hbm
  gi_wp2
  clear hbm
  gi_loopw [5, 6, 7, 10] (fun _ _ _ i wr => ∃ (k : Nat) (pc a : Int) (pre : List (Int × Int × Int)), k ≤ l.length ∧ i = .int .i64 k ∧ Hid (Runs l (encB d) (l.length - k) pc a) ∧ Hid (pre ++ trace l (encB d) (l.length - k) pc a = trace l (encB d) l.length 0 0) ∧ Hid (J pre wr) ∧ Hid (wr.heap[bm]? = some (.cells (mc pc a) 214)) ∧ Hid (wr.heap[bp]? = some (.cells #[.slice A l.length c] 38)) ∧ Hid (wr.heap[bd]? = some (.cells d.cells.toArray 27)) ∧ Hid (IC l A b8 wr) ∧ bm < wr.heap.size) (fun _ _ _ i _ => l.length - (intOf i).toNat)
  case atStart =>
    refine ⟨0, 0, 0, [], Nat.zero_le _, rfl, HRUNS.out, rfl, HJ.out _ _ _ H0.out hB0.out, ?_, blk_bel hB0.out HBP.out, blk_bel hB0.out HBD.out, HIC.out.kp (Kp.bel hB0.out), ?_⟩
    · rw [← HBM.out]; exact blk_new _ _
    · rw [← HBM.out]; simp
  case round =>
    obtain ⟨k, pc, a, pre, hk, rfl, hruns, htr, hJ, hm, hbp, hbd, hic, hbm⟩ := hrel
    by_cases hlt : k < l.length
    · have hf : l.length - k = (l.length - (k + 1)) + 1 := by omega
      have hr := hruns.out
      have ht := htr.out
      rw [hf] at hr ht
      obtain ⟨hpc, ha, hpl, hok, hnext⟩ := hr
      obtain ⟨p, rfl⟩ : ∃ p : Nat, pc = p := ⟨pc.toNat, by omega⟩
      rw [trace] at ht
      rw [Int.toNat_natCast] at hpl hok hnext ht
      obtain ⟨ad, rfl, hb, e0, e1, e2, e3⟩ := hic.out p hpl
      have hstep := c_step d hd l[p]! hok p a hpc ha
      generalize l[p]! = x at *
      generalize nextM x (encB d) p a = s at *
      obtain ⟨pc', a', rr, ov⟩ := s
      simp only [nextV] at hstep hnext ht
      obtain ⟨code, jt, jf, kk⟩ := x
      obtain ⟨nr, arch, ip, a0, a1, a2, a3, a4, a5⟩ := d
      simp only at e0 e1 e2 e3
      unfold Data.agg Insn.agg at hstep
      simp only at hstep
      have d0 := blk_cell hbd.out 0
      have d1 := blk_cell hbd.out 1
      have d2 := blk_cell hbd.out 2
      have d3 := blk_cell hbd.out 3
      have d4 := blk_cell hbd.out 4
      have d5 := blk_cell hbd.out 5
      have d6 := blk_cell hbd.out 6
      have d7 := blk_cell hbd.out 7
      have d8 := blk_cell hbd.out 8
      have q0 := blk_cell hbp.out 0
      have m0 := blk_cell hm.out 0
      simp only [Data.cells, mc, List.getElem?_toArray, List.getElem?_cons_zero, List.getElem?_cons_succ] at d0 d1 d2 d3 d4 d5 d6 d7 d8 q0 m0
      obtain ⟨m, hms⟩ : ∃ m, (mc p a).size = m := ⟨_, rfl⟩
      have hagg : ∀ w, (isAgg 214).run Tryz.prog w = .ok true w := Tryz.isAgg214
      have hsz : ∀ w, (sizeOf 214).run Tryz.prog w = .ok m w := by rw [← hms]; exact Tryz.sizeOf214
      have hl0 := run_loadFrom_row (P := Tryz.prog) (w := wr) bm 214 (mc p a) (0, 0) hm.out m hms
      have hms' : (mc pc' a').size = m := hms
      have hsn : ∀ w : World, (storeCells ⟨w.heap.size, 0, none⟩ (mc pc' a').toList 0).run Tryz.prog (w.alloc (.cells #[.int .i64 0, .int .u32 0, .int .u32 0, .int .u32 0, .int .u32 0, .int .u32 0, .int .u32 0, .int .u32 0, .int .u32 0, .int .u32 0, .int .u32 0, .int .u32 0, .int .u32 0, .int .u32 0, .int .u32 0, .int .u32 0, .int .u32 0, .int .u32 0, .int .u32 0] 214)) = .ok () (w.alloc (.cells (mc pc' a') 214)) := fun w => run_storeCells_new w 214 (mc 0 0) (mc pc' a') (by kernel_rfl) rfl (by kernel_rfl)
      have hi0 : (0 : Int) ≤ (p : Int) := by omega
      have hi1 : (p : Int) < (l.length : Int) := by omega
      have SB : ∀ w', Below wr.heap.size wr w' → (w'.cell? ⟨bp, 0, none⟩ = some (.slice (some ad) l.length c) ∧ w'.cell? ⟨bm, 0, none⟩ = some (.int .i64 p) ∧ w'.cell? (ad.add (p * 4)) = some (.int .u16 code) ∧ w'.cell? ⟨(ad.add (p * 4)).block, (ad.add (p * 4)).off + 1, none⟩ = some (.int .u8 jt) ∧ w'.cell? ⟨(ad.add (p * 4)).block, (ad.add (p * 4)).off + 2, none⟩ = some (.int .u8 jf) ∧ w'.cell? ⟨(ad.add (p * 4)).block, (ad.add (p * 4)).off + 3, none⟩ = some (.int .u32 kk) ∧ w'.cell? ⟨bd, 0, none⟩ = some (.int .u32 nr) ∧ w'.cell? ⟨bd, 1, none⟩ = some (.int .u32 arch) ∧ w'.cell? ⟨bd, 2, none⟩ = some (.int .u64 ip) ∧ w'.cell? ⟨bd, 3, none⟩ = some (.int .u64 a0) ∧ w'.cell? ⟨bd, 4, none⟩ = some (.int .u64 a1) ∧ w'.cell? ⟨bd, 5, none⟩ = some (.int .u64 a2) ∧ w'.cell? ⟨bd, 6, none⟩ = some (.int .u64 a3) ∧ w'.cell? ⟨bd, 7, none⟩ = some (.int .u64 a4) ∧ w'.cell? ⟨bd, 8, none⟩ = some (.int .u64 a5) ∧ (loadCellsFrom ⟨bm, 0, none⟩ 0 m #[]).run Tryz.prog w' = .ok (mc p a) w') := fun w' h => ⟨cell_bel h q0, cell_bel h m0, cell_bel h e0, cell_bel h e1, cell_bel h e2, cell_bel h e3, cell_bel h d0, cell_bel h d1, cell_bel h d2, cell_bel h d3, cell_bel h d4, cell_bel h d5, cell_bel h d6, cell_bel h d7, cell_bel h d8, run_loadFrom_row (P := Tryz.prog) (w := w') bm 214 (mc p a) (0, 0) (blk_bel h hm.out) m hms⟩
      have HSB := Lib.hid SB
      clear SB
      gi_wp2
      refine wpIn_wide.2 ?_
      go_region_held3 (fun w' => w'.cell? ⟨bp, 0, none⟩ = some (.slice (some ad) l.length c) ∧ w'.cell? ⟨bm, 0, none⟩ = some (.int .i64 p) ∧ w'.cell? (ad.add (p * 4)) = some (.int .u16 code) ∧ w'.cell? ⟨(ad.add (p * 4)).block, (ad.add (p * 4)).off + 1, none⟩ = some (.int .u8 jt) ∧ w'.cell? ⟨(ad.add (p * 4)).block, (ad.add (p * 4)).off + 2, none⟩ = some (.int .u8 jf) ∧ w'.cell? ⟨(ad.add (p * 4)).block, (ad.add (p * 4)).off + 3, none⟩ = some (.int .u32 kk) ∧ w'.cell? ⟨bd, 0, none⟩ = some (.int .u32 nr) ∧ w'.cell? ⟨bd, 1, none⟩ = some (.int .u32 arch) ∧ w'.cell? ⟨bd, 2, none⟩ = some (.int .u64 ip) ∧ w'.cell? ⟨bd, 3, none⟩ = some (.int .u64 a0) ∧ w'.cell? ⟨bd, 4, none⟩ = some (.int .u64 a1) ∧ w'.cell? ⟨bd, 5, none⟩ = some (.int .u64 a2) ∧ w'.cell? ⟨bd, 6, none⟩ = some (.int .u64 a3) ∧ w'.cell? ⟨bd, 7, none⟩ = some (.int .u64 a4) ∧ w'.cell? ⟨bd, 8, none⟩ = some (.int .u64 a5) ∧ (loadCellsFrom ⟨bm, 0, none⟩ 0 m #[]).run Tryz.prog w' = .ok (mc p a) w')
        (first | exact HSB.out _ hW2 | exact HSB.out _ hW3 | exact HSB.out _ (hW2.alloc hW2.size _) | exact HSB.out _ (Below.refl _ _) | exact HSB.out _ (below_d1 (Below.refl _ _)) | exact HSB.out _ (below_al (below_d1 (Below.refl _ _)) _) | (trace_state; fail))
        (first
        | (go_at_call 193; (with_reducible refine (hstep _).mono ?_); rintro e w2 ⟨rfl, hB2⟩; have hW2 : Below wr.heap.size wr w2 := undrew hB2)
        | (go_at_call 193; (with_reducible refine (hstep _).mono ?_); rintro e w2 ⟨rfl, hB2⟩; have hW2 : Below wr.heap.size wr w2 := (below_al (below_d1 (Below.refl _ _)) _).trans (hB2.mono (by simp)); obtain ⟨WF, hs3, hW3'⟩ := run_storeCells_row (P := Tryz.prog) (w := w2) 214 wr.heap.size (mc pc' a') (mc 0 0) 214 (blk_bel hB2 (blk_new _ _)) (by kernel_rfl) rfl (by kernel_rfl); have hW3 : Below wr.heap.size wr WF := hW2.trans hW3'.bel))
      all_goals first
        | (have hg := hW3'.here; have hF := hW3; obtain ⟨g, hgd⟩ : ∃ g, g = wr.heap.size := ⟨_, rfl⟩; rw [← hgd] at hg ⊢; have hgle : wr.heap.size ≤ g := Nat.le_of_eq hgd.symm; clear hs3 hW3' hW3 hgd hB2 hW2)
        | (have hg := blk_new w2 (.cells (mc pc' a') 214); have hF := hW2.alloc hW2.size (.cells (mc pc' a') 214); have hgle := hW2.size; obtain ⟨WF, hWF⟩ : ∃ WF, w2.alloc (.cells (mc pc' a') 214) = WF := ⟨_, rfl⟩; rw [hWF] at hg hF ⊢; obtain ⟨g, hgd⟩ : ∃ g, g = w2.heap.size := ⟨_, rfl⟩; rw [← hgd] at hg hgle ⊢; clear hWF hgd)
      all_goals
        rename_i hHeld
        clear hHeld hsn hl0 d0 d1 d2 d3 d4 d5 d6 d7 d8 q0 m0 e0 e1 e2 e3 hstep HSB
        have hlt8 : b8 < bm := by rw [← HBM.out]; exact hb8
        have hm4 := blk_bel hF hm.out
        have hl4 := run_loadFrom_row (P := Tryz.prog) (w := WF) bm 214 (mc p a) (0, 0) hm4 m hms
        have hJF := HJ.out pre wr WF hJ.out (hF.mono (by rw [HBM.out]; omega))
        obtain ⟨fn, tmps, assign, body, hy, hR⟩ := HY.out pre (p, a, rr) WF hJF
        dsimp only at hy
        have HR := Lib.hid hR
        have HG := Lib.hid hg
        have HF := Lib.hid hF
        have HM4 := Lib.hid hm4
        clear hR hg hF hm4 hJF
        gi_wp2
        refine HR.out.mono ?_
        rintro e W5 ⟨rfl, hJ5, hk5⟩
        have hm5 := hk5.2 _ _ _ _ (by omega) HM4.out
        have hg5 := hk5.2 _ _ _ _ (by omega) HG.out
        cases ov with
        | true =>
          simp only [if_true, if_pos] at ht
          have HT := Lib.hid ht
          clear ht
          gi_wp2
          refine bodyPost_ret (results_none rfl _ _ _) rfl ?_
          exact ⟨⟨_, rfl⟩, by rw [← HT.out]; exact hJ5⟩
        | false =>
          simp only [Bool.false_eq_true, if_false, false_or] at ht hnext
          have HT := Lib.hid ht
          have HN := Lib.hid hnext
          clear ht hnext
          have hl5 := run_loadFrom_row (P := Tryz.prog) (w := W5) g 214 (mc pc' a') (0, 0) hg5 m hms'
          obtain ⟨W6, hs6, hW6⟩ := run_storeCells_row (P := Tryz.prog) (w := W5) 214 bm (mc pc' a') (mc p a) 214 hm5 (by kernel_rfl) rfl (by kernel_rfl)
          have HW6 := Lib.hid hW6
          have HK5 := Lib.hid hk5
          have HJ5 := Lib.hid hJ5
          clear hW6 hk5 hJ5 hm5 hg5
          gi_wp2
          go_roundw
          case rel =>
            have hK : Kp b8 wr W5 := ⟨Nat.le_trans HF.out.size HK5.out.1, fun q cs t f hq h => HK5.out.2 q cs t f hq (blk_bel HF.out h)⟩
            refine ⟨k + 1, pc', a', pre ++ [((p : Int), a, rr)], by omega, by go_num, HN.out, ?_, HJ.out _ _ _ HJ5.out (HW6.out.bel.mono (Nat.le_of_eq HBM.out)), HW6.out.here, ?_, ?_, ?_, ?_⟩
            · rw [List.append_assoc]; exact HT.out
            · exact (HW6.out.far bp (by have := blk_lt HBP.out; have := HBM.out; omega)).trans (hK.2 _ _ _ _ HP8.out hbp.out)
            · exact (HW6.out.far bd (by have := blk_lt HBD.out; have := HBM.out; omega)).trans (hK.2 _ _ _ _ HD8.out hbd.out)
            · refine (hic.out.kp hK).far HW6.out.far ?_
              obtain ⟨ad', e', _, h0, _⟩ := HIC.out p hpl
              have h0' := World.block_lt_of_cell? W _ h0
              rw [Kd.add_block, HBM.out] at h0'
              intro ad2 e2
              cases e2
              cases e'
              omega
            · rw [HW6.out.size]; exact Nat.lt_of_lt_of_le hbm hK.1
          case measure => simp [intOf]; omega
    · obtain rfl : k = l.length := by omega
      gi_wp2
      go_end0
      refine ⟨⟨_, rfl⟩, ?_⟩
      have h := htr.out
      rw [Nat.sub_self, trace, List.append_nil] at h
      rw [← h]
      exact hJ.out
end Go.Proofs.YtbojjjiggppnaaaGreat
