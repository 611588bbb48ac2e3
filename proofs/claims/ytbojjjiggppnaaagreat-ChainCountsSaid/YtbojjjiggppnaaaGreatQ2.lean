/- The walk of the reference's Take. -/
import Derived.Test.YtbojjjiggppnaaaGreatN9
import Derived.Test.YtbojjjiggppnaaaGreatQ1
namespace Go.Proofs.YtbojjjiggppnaaaGreat
open Go.RowKit Go.Shelf
set_option linter.unusedVariables false
set_option linter.unusedSimpArgs false

set_option maxRecDepth 100000 in
set_option maxHeartbeats 4000000 in
theorem c_refTake (xs : List Node) (c : Nat) (A : Option Addr) (t : Int) (ht : Kd.rng .i64 t) (ok : Nat → Prop) (w : World) (hC : kNode.Row w ok A xs) (hl : xs.length ≤ 1000) (hcnt : ∀ x ∈ xs, x.count ≤ 1099511627776) :
    Calls Tryz.prog 35 #[.agg #[.slice A xs.length c], .int .i64 t] w fun e w' => ∃ v, e = .returned (.tuple #[.agg #[v], .int .i64 (takeF xs t).2]) ∧ kPool.K w' (fun q => ok q ∨ w.heap.size ≤ q) ⟨(takeF xs t).1⟩ [v] ∧ Below w.heap.size w w' := by
  obtain ⟨n, hn⟩ : ∃ n, w.heap.size = n := ⟨_, rfl⟩
  have hxn := hC.1
  have hB1 : Below w.heap.size w ((w.alloc (.cells #[.slice A xs.length c] 31)).alloc (.cells #[.slice none 0 0] 31)) := below_al (below_al (Below.refl _ _) _) _
  have f1 : ((w.alloc (.cells #[.slice A xs.length c] 31)).alloc (.cells #[.slice none 0 0] 31)).heap[n]? = some (.cells #[.slice A xs.length c] 31) := by rw [← hn]; exact blk_al (blk_new _ _) _
  have f2 : ((w.alloc (.cells #[.slice A xs.length c] 31)).alloc (.cells #[.slice none 0 0] 31)).heap[n + 1]? = some (.cells #[.slice none 0 0] 31) := by
    have h := blk_new (w.alloc (.cells #[.slice A xs.length c] 31)) (.cells #[.slice none 0 0] 31)
    rwa [World.size_alloc, hn] at h
  have HROW := Lib.hid (hC.bound.bel hB1)
  have HB1 := Lib.hid hB1
  have F1 := Lib.hid f1
  have F2 := Lib.hid f2
  have HN := Lib.hid hn
  have HCNT := Lib.hid hcnt
  have HPE : Hid (poolE xs = 0 ∨ poolE xs = 190) := by unfold poolE; show _ ∨ _; split <;> simp
  have HTF : Hid (takeF xs t = (if poolE xs = 0 then (match findN xs t with | none => ([], 4) | some x => (putN xs (more1 x), 0)) else ([], 190) : List Node × Int)) := rfl
  have HZP : Hid (∀ (W : World) (ok' : Nat → Prop), kPool.K W ok' ⟨[]⟩ [.slice none 0 0]) := fun W ok' => kPool.mk (x := ⟨[]⟩) (A0 := none) (c0 := 0) ⟨by simp, by unfold maxLen; omega, Kd.Row.nil _ _ _ _⟩
  clear hC hB1 f1 f2 hcnt
  go_enter Tryz.func35, Tryz.ntmps35
  go_upto_region 1 with fail
  generalize ((w.alloc (.cells #[.slice A xs.length c] 31)).alloc (.cells #[.slice none 0 0] 31)) = W1 at *
  clear hn
  have p0 : W1.cell? ⟨n, 0, none⟩ = some (.slice A xs.length c) := blk_cell F1.out 0
  have HRI := Lib.hid (c_refRight xs c A _ W1 HROW.out (by omega))
  by_cases hp : poolE xs = 0
  · have hd : decide (poolE xs = 0) = true := decide_eq_true hp
    rw [hd] at HRI
    have htf := HTF.out
    rw [if_pos hp] at htf
    have HTF2 := Lib.hid htf
    have HCG : Hid (∀ x ∈ xs, 0 ≤ x.count) := fun x hx => by have := ((poolE_inv hp).2 x hx).1; omega
    clear htf HTF HPE hd hp
    go_wp2_with fail
    refine HRI.out.mono ?_
    rintro e w2 ⟨rfl, hB2⟩
    have HB2 := Lib.hid hB2
    have p2 := cell_bel hB2 p0
    have HR2 := Lib.hid (blk_bel hB2 F2.out)
    have HP2 := Lib.hid (blk_bel hB2 F1.out)
    have HFI := Lib.hid (c_refFind xs c A t _ w2 (HROW.out.bel hB2))
    clear hB2 p0 HRI
    cases hf : findN xs t with
    | none =>
      rw [hf] at HFI HTF2
      have HE := Lib.hid (show takeF xs t = ([], 4) from HTF2.out)
      clear hf HTF2
      go_wp2_with fail
      refine HFI.out.mono ?_
      rintro e w3 ⟨ds, rfl, hds, hB3⟩
      obtain ⟨A9, c9, rfl, -⟩ := kNode.opn hds
      have HR3 := Lib.hid (blk_al (blk_bel hB3 HR2.out) (.cells #[.int .i64 zNode.id, .int .i64 zNode.parent, .slice A9 zNode.program.length c9, .int .i64 zNode.size, .int .i64 zNode.count, .int .u64 zNode.one, .int .u64 zNode.two] 65))
      have HB3 : Hid (Below w.heap.size w (w3.alloc (.cells #[.int .i64 zNode.id, .int .i64 zNode.parent, .slice A9 zNode.program.length c9, .int .i64 zNode.size, .int .i64 zNode.count, .int .u64 zNode.one, .int .u64 zNode.two] 65))) := below_al ((HB1.out.trans (HB2.out.mono HB1.out.size)).trans (hB3.mono (HB1.out.trans (HB2.out.mono HB1.out.size)).size)) _
      clear hds hB3
      go_upto_region 5 with fail
      generalize hW4 : (w3.alloc (.cells #[.int .i64 zNode.id, .int .i64 zNode.parent, .slice A9 zNode.program.length c9, .int .i64 zNode.size, .int .i64 zNode.count, .int .u64 zNode.one, .int .u64 zNode.two] 65)) = W4 at *
      try rw [hW4]
      clear hW4
      go_wp2_with (first | (refine wpList_store_row (w := W4) rfl _ _ _ rfl (n + 1) #[.slice none 0 0] rfl rfl _ _ HR3.out (by kernel_rfl) (by rfl) (by kernel_rfl) ?_; intro W6 hW6))
      refine bodyPost_ret (results_ct rfl _ _ (n + 1) _ #[.slice none 0 0] _ _ rfl hW6.here Tryz.underlying31 rfl (by kernel_rfl)) rfl ?_
      exact ⟨.slice none 0 0, by rw [HE.out]; rfl, by rw [HE.out]; exact HZP.out _ _, HB3.out.trans (hW6.bel.mono (by rw [HN.out]; omega))⟩
    | some x =>
      rw [hf] at HFI HTF2
      have HE := Lib.hid (show takeF xs t = (putN xs (more1 x), 0) from HTF2.out)
      have hx := find_mem hf
      have hc1 := HCG.out x hx
      have hc2 := HCNT.out x hx
      clear hf HTF2 hx
      go_wp2_with fail
      refine HFI.out.mono ?_
      rintro e w3 ⟨ds, rfl, hds, hB3⟩
      obtain ⟨A9, c9, rfl, g0, g1, g2, g3, g4, g5, g6⟩ := kNode.opn hds
      obtain ⟨m, hm⟩ : ∃ m, w3.heap.size = m := ⟨_, rfl⟩
      have q2 := g2.2.2.1
      have hs2 : n + 2 ≤ w3.heap.size := by
        have h1 := HB2.out.size
        have h2 := hB3.size
        have h3 := blk_lt F2.out
        omega
      have H4 : Hid ((w3.alloc (.cells #[.int .i64 x.id, .int .i64 x.parent, .slice A9 x.program.length c9, .int .i64 x.size, .int .i64 x.count, .int .u64 x.one, .int .u64 x.two] 65)).heap[m]? = some (.cells #[.int .i64 x.id, .int .i64 x.parent, .slice A9 x.program.length c9, .int .i64 x.size, .int .i64 x.count, .int .u64 x.one, .int .u64 x.two] 65)) := by rw [← hm]; exact blk_new _ _
      have HR3 := Lib.hid (blk_al (blk_bel hB3 HR2.out) (.cells #[.int .i64 x.id, .int .i64 x.parent, .slice A9 x.program.length c9, .int .i64 x.size, .int .i64 x.count, .int .u64 x.one, .int .u64 x.two] 65))
      have HP3 := Lib.hid (blk_al (blk_bel hB3 HP2.out) (.cells #[.int .i64 x.id, .int .i64 x.parent, .slice A9 x.program.length c9, .int .i64 x.size, .int .i64 x.count, .int .u64 x.one, .int .u64 x.two] 65))
      have HB3 : Hid (Below w.heap.size w (w3.alloc (.cells #[.int .i64 x.id, .int .i64 x.parent, .slice A9 x.program.length c9, .int .i64 x.size, .int .i64 x.count, .int .u64 x.one, .int .u64 x.two] 65))) := below_al ((HB1.out.trans (HB2.out.mono HB1.out.size)).trans (hB3.mono (HB1.out.trans (HB2.out.mono HB1.out.size)).size)) _
      have HROW3 := Lib.hid (((HROW.out.bel HB2.out).bel hB3).bel (below_al (Below.refl _ _) (.cells #[.int .i64 x.id, .int .i64 x.parent, .slice A9 x.program.length c9, .int .i64 x.size, .int .i64 x.count, .int .u64 x.one, .int .u64 x.two] 65)))
      have hKm : kNode.K w3 (fun q => ok q ∧ q < w.heap.size) (more1 x) [.int .i64 x.id, .int .i64 x.parent, .slice A9 x.program.length c9, .int .i64 x.size, .int .i64 (x.count + 1), .int .u64 x.one, .int .u64 x.two] := kNode.mk (x := more1 x) g0 g1 g2 g3 ⟨by simp only [more1]; omega, by simp only [more1]; omega⟩ g5 g6
      have HKM := Lib.hid (kNode.bel hKm (below_al (Below.refl _ _) (.cells #[.int .i64 x.id, .int .i64 x.parent, .slice A9 x.program.length c9, .int .i64 x.size, .int .i64 x.count, .int .u64 x.one, .int .u64 x.two] 65)))
      have hadd : IntKind.i64.wrap (x.count + 1) = x.count + 1 := by rw [wrap_i64 (by omega)]
      have hmn : n + 2 ≤ m := by omega
      clear hds hB3 g0 g1 g2 g3 g4 g5 g6 hKm hs2
      go_upto_region 6 with fail
      generalize (w3.alloc (.cells #[.int .i64 x.id, .int .i64 x.parent, .slice A9 x.program.length c9, .int .i64 x.size, .int .i64 x.count, .int .u64 x.one, .int .u64 x.two] 65)) = W4 at *
      clear hm
      have z4 : W4.cell? ⟨m, 4, none⟩ = some (.int .i64 x.count) := blk_cell H4.out 4
      have f4 : W4.frozen? ⟨m, 4, none⟩ = false := blk_free H4.out 4
      have H5 : Hid ((W4.setCell ⟨m, 4, none⟩ (.int .i64 (x.count + 1))).heap[m]? = some (.cells #[.int .i64 x.id, .int .i64 x.parent, .slice A9 x.program.length c9, .int .i64 x.size, .int .i64 (x.count + 1), .int .u64 x.one, .int .u64 x.two] 65)) := blk_set (j := 4) H4.out _
      have HR5 : Hid ((W4.setCell ⟨m, 4, none⟩ (.int .i64 (x.count + 1))).heap[n + 1]? = some (.cells #[.slice none 0 0] 31)) := blk_far HR3.out (by simp only; omega) _
      have HP5 : Hid ((W4.setCell ⟨m, 4, none⟩ (.int .i64 (x.count + 1))).heap[n]? = some (.cells #[.slice A xs.length c] 31)) := blk_far HP3.out (by simp only; omega) _
      have HB5 : Hid (Below w.heap.size w (W4.setCell ⟨m, 4, none⟩ (.int .i64 (x.count + 1)))) := HB3.out.setCell (p := ⟨m, 4, none⟩) (by rw [HN.out]; simp only; omega) _
      have HROW5 : Hid (kNode.Row (W4.setCell ⟨m, 4, none⟩ (.int .i64 (x.count + 1))) (fun q => ok q ∧ q < w.heap.size) A xs) := Kd.Row.move HROW3.out (fun q hq _ => Below.heap_setCell _ _ _ q (by have := hq.2; have := HN.out; simp only; omega))
      have HKM5 : Hid (kNode.K (W4.setCell ⟨m, 4, none⟩ (.int .i64 (x.count + 1))) (fun q => ok q ∧ q < w.heap.size) (more1 x) [.int .i64 x.id, .int .i64 x.parent, .slice A9 x.program.length c9, .int .i64 x.size, .int .i64 (x.count + 1), .int .u64 x.one, .int .u64 x.two]) := Kd.far (d := kNode) HKM.out (p := ⟨m, 4, none⟩) (fun q hq => by have := hq.2; have := HN.out; simp only; omega) _
      go_upto_region 7 with fail
      generalize (W4.setCell ⟨m, 4, none⟩ (.int .i64 (x.count + 1))) = W5 at *
      clear z4 f4
      have p0 : W5.cell? ⟨n, 0, none⟩ = some (.slice A xs.length c) := blk_cell HP5.out 0
      have y0 : W5.cell? ⟨m, 0, none⟩ = some (.int .i64 x.id) := blk_cell H5.out 0
      have y1 : W5.cell? ⟨m, 1, none⟩ = some (.int .i64 x.parent) := blk_cell H5.out 1
      have y2 : W5.cell? ⟨m, 2, none⟩ = some (.slice A9 x.program.length c9) := blk_cell H5.out 2
      have y3 : W5.cell? ⟨m, 3, none⟩ = some (.int .i64 x.size) := blk_cell H5.out 3
      have y4 : W5.cell? ⟨m, 4, none⟩ = some (.int .i64 (x.count + 1)) := blk_cell H5.out 4
      have y5 : W5.cell? ⟨m, 5, none⟩ = some (.int .u64 x.one) := blk_cell H5.out 5
      have y6 : W5.cell? ⟨m, 6, none⟩ = some (.int .u64 x.two) := blk_cell H5.out 6
      have HPUT := Lib.hid (c_put xs c A (more1 x) _ [.int .i64 x.id, .int .i64 x.parent, .slice A9 x.program.length c9, .int .i64 x.size, .int .i64 (x.count + 1), .int .u64 x.one, .int .u64 x.two] W5 HROW5.out (by omega) HKM5.out)
      go_wp2_with (first | (go_at_call 97; refine HPUT.out.mono ?_; rintro e w7 ⟨v, rfl, hK7, hB7⟩; have hvf := (show ∃ Av lv cv, v = .slice Av lv cv by obtain ⟨Av, cv, hv, -, -, -⟩ := hK7; simp only [List.cons.injEq, and_true] at hv; exact ⟨_, _, _, hv⟩); obtain ⟨Av, lv, cv, hvf⟩ := hvf; subst hvf; have HR7 := Lib.hid (blk_bel hB7 HR5.out)) | (refine wpList_store_row rfl _ _ _ rfl (n + 1) #[.slice Av lv cv] rfl rfl _ _ HR7.out (by kernel_rfl) (by rfl) (by kernel_rfl) ?_; intro W6 hW6))
      refine bodyPost_ret (results_ct rfl _ _ (n + 1) _ #[.slice Av lv cv] _ _ rfl hW6.here Tryz.underlying31 rfl (by kernel_rfl)) rfl ?_
      refine ⟨.slice Av lv cv, by rw [HE.out]; rfl, ?_, (HB5.out.trans (hB7.mono HB5.out.size)).trans (hW6.bel.mono (by rw [HN.out]; omega))⟩
      rw [HE.out]
      refine kPool.mono (fun q hq => ?_) (Kd.move (d := kPool) (ok := fun q => (ok q ∧ q < w.heap.size) ∨ W5.heap.size ≤ q) hK7 (fun k hk _ => hW6.far k (by
        have h1 := blk_lt H5.out
        have := HN.out
        omega)))
      have h1 := HB5.out.size
      rcases hq with h | h
      · exact .inl h.1
      · exact .inr (by omega)
  · have hd : decide (poolE xs = 0) = false := decide_eq_false hp
    rw [hd] at HRI
    have HE : Hid (takeF xs t = ([], 190)) := HTF.out.trans (if_neg hp)
    clear HTF HPE hd hp
    go_wp2_with fail
    refine HRI.out.mono ?_
    rintro e w2 ⟨rfl, hB2⟩
    have HB2 := Lib.hid hB2
    have HR2 := Lib.hid (blk_bel hB2 F2.out)
    clear hB2 p0 HRI
    go_upto_region 2 with fail
    go_wp2_with (first | (refine wpList_store_row (w := w2) rfl _ _ _ rfl (n + 1) #[.slice none 0 0] rfl rfl _ _ HR2.out (by kernel_rfl) (by rfl) (by kernel_rfl) ?_; intro W6 hW6))
    refine bodyPost_ret (results_ct rfl _ _ (n + 1) _ #[.slice none 0 0] _ _ rfl hW6.here Tryz.underlying31 rfl (by kernel_rfl)) rfl ?_
    exact ⟨.slice none 0 0, by rw [HE.out]; rfl, by rw [HE.out]; exact HZP.out _ _, (HB1.out.trans (HB2.out.mono HB1.out.size)).trans (hW6.bel.mono (by rw [HN.out]; omega))⟩
end Go.Proofs.YtbojjjiggppnaaaGreat
