/- The walk of the reference's Same, at pools that are one. -/
import Derived.Test.YtbojjjiggppnaaaGreatN1
import Derived.Test.YtbojjjiggppnaaaGreatH0
import Derived.Test.YtbojjjiggppnaaaGreatM9
import Derived.Deep.Cut
import Derived.Deep.RegionHeld3
import Derived.Deep.CutRange
namespace Go.Proofs.YtbojjjiggppnaaaGreat
open Go.RowKit Go.Shelf
set_option linter.unusedVariables false
set_option linter.unusedSimpArgs false

set_option maxRecDepth 100000 in
set_option maxHeartbeats 8000000 in
theorem c_samePool (xs : List Node) (A B : Option Addr) (c d : Nat) (ok ok' : Nat → Prop) (w : World) (hA : kNode.Row w ok A xs) (hB : kNode.Row w ok' B xs) :
    Calls Tryz.prog 33 #[.agg #[.slice A xs.length c], .agg #[.slice B xs.length d]] w fun e w' => e = .returned (.bool true) ∧ Below w.heap.size w w' := by
  obtain ⟨n, hn⟩ : ∃ n, w.heap.size = n := ⟨_, rfl⟩
  have hxn := hA.1
  have hB1 : Below w.heap.size w ((w.alloc (.cells #[.slice A xs.length c] 31)).alloc (.cells #[.slice B xs.length d] 31)) := below_al (below_al (Below.refl _ _) _) _
  have f1 : ((w.alloc (.cells #[.slice A xs.length c] 31)).alloc (.cells #[.slice B xs.length d] 31)).heap[n]? = some (.cells #[.slice A xs.length c] 31) := by rw [← hn]; exact blk_al (blk_new _ _) _
  have f2 : ((w.alloc (.cells #[.slice A xs.length c] 31)).alloc (.cells #[.slice B xs.length d] 31)).heap[n + 1]? = some (.cells #[.slice B xs.length d] 31) := by
    have h := blk_new (w.alloc (.cells #[.slice A xs.length c] 31)) (.cells #[.slice B xs.length d] 31)
    rwa [World.size_alloc, hn] at h
  have HA := Lib.hid (hA.bel hB1)
  have HB := Lib.hid (hB.bel hB1)
  have HB1 := Lib.hid hB1
  have F1 := Lib.hid f1
  have F2 := Lib.hid f2
  have HN := Lib.hid hn
  clear hA hB hB1 f1 f2
  go_enter Tryz.func33, Tryz.ntmps33
  go_upto_region 1 with fail
  generalize ((w.alloc (.cells #[.slice A xs.length c] 31)).alloc (.cells #[.slice B xs.length d] 31)) = W1 at *
  clear hn
  have a0 : W1.cell? ⟨n, 0, none⟩ = some (.slice A xs.length c) := blk_cell F1.out 0
  have b0 : W1.cell? ⟨n + 1, 0, none⟩ = some (.slice B xs.length d) := blk_cell F2.out 0
  go_wp2_with fail
  clear a0 b0
  go_loopw [5, 6, 7] (fun i _ _ wr => ∃ k : Nat, k ≤ xs.length ∧ i = .int .i64 k ∧ Hid (Below W1.heap.size W1 wr)) (fun i _ _ _ => xs.length - (intOf i).toNat)
  case atStart => exact ⟨0, Nat.zero_le _, rfl, Below.refl _ _⟩
  case round =>
    obtain ⟨k, hk, rfl, hBr⟩ := hrel
    have a0 : wr.cell? ⟨n, 0, none⟩ = some (.slice A xs.length c) := blk_cell (blk_bel hBr.out F1.out) 0
    have b0 : wr.cell? ⟨n + 1, 0, none⟩ = some (.slice B xs.length d) := blk_cell (blk_bel hBr.out F2.out) 0
    by_cases hlt : k < xs.length
    · obtain ⟨ad, A2, c2, rfl, hok, ⟨g0, g1, g2, g3, g4, g5, g6⟩, e0, e1, e2, e3, e4, e5, e6⟩ := kNode.at_ (HA.out.bel hBr.out) hlt
      obtain ⟨bd, A3, c3, rfl, hok', ⟨h0, h1, h2, h3, h4, h5, h6⟩, d0, d1, d2, d3, d4, d5, d6⟩ := kNode.at_ (HB.out.bel hBr.out) hlt
      have hk0 : (0 : Int) ≤ (k : Int) := by omega
      have hk1 : (k : Int) < (xs.length : Int) := by omega
      have HPA := Lib.hid g2.2.2
      have HPB := Lib.hid h2.2.2
      have q2 := g2.2.2.1
      clear g0 g1 g2 g3 g4 g5 g6 h0 h1 h2 h3 h4 h5 h6
      generalize xs[k] = x at *
      go_upto_region 6 with fail
      obtain ⟨m, hm⟩ : ∃ m, wr.heap.size = m := ⟨_, rfl⟩
      have HS : Hid (∀ w', Below m wr w' → w'.cell? ⟨n, 0, none⟩ = some (.slice (some ad) xs.length c) ∧ w'.cell? ⟨n + 1, 0, none⟩ = some (.slice (some bd) xs.length d) ∧ w'.cell? (ad.add (k * 7)) = some (.int .i64 x.id) ∧ w'.cell? ⟨(ad.add (k * 7)).block, (ad.add (k * 7)).off + 1, none⟩ = some (.int .i64 x.parent) ∧ w'.cell? ⟨(ad.add (k * 7)).block, (ad.add (k * 7)).off + 2, none⟩ = some (.slice A2 x.program.length c2) ∧ w'.cell? ⟨(ad.add (k * 7)).block, (ad.add (k * 7)).off + 3, none⟩ = some (.int .i64 x.size) ∧ w'.cell? ⟨(ad.add (k * 7)).block, (ad.add (k * 7)).off + 4, none⟩ = some (.int .i64 x.count) ∧ w'.cell? ⟨(ad.add (k * 7)).block, (ad.add (k * 7)).off + 5, none⟩ = some (.int .u64 x.one) ∧ w'.cell? ⟨(ad.add (k * 7)).block, (ad.add (k * 7)).off + 6, none⟩ = some (.int .u64 x.two) ∧ w'.cell? (bd.add (k * 7)) = some (.int .i64 x.id) ∧ w'.cell? ⟨(bd.add (k * 7)).block, (bd.add (k * 7)).off + 1, none⟩ = some (.int .i64 x.parent) ∧ w'.cell? ⟨(bd.add (k * 7)).block, (bd.add (k * 7)).off + 2, none⟩ = some (.slice A3 x.program.length c3) ∧ w'.cell? ⟨(bd.add (k * 7)).block, (bd.add (k * 7)).off + 3, none⟩ = some (.int .i64 x.size) ∧ w'.cell? ⟨(bd.add (k * 7)).block, (bd.add (k * 7)).off + 4, none⟩ = some (.int .i64 x.count) ∧ w'.cell? ⟨(bd.add (k * 7)).block, (bd.add (k * 7)).off + 5, none⟩ = some (.int .u64 x.one) ∧ w'.cell? ⟨(bd.add (k * 7)).block, (bd.add (k * 7)).off + 6, none⟩ = some (.int .u64 x.two)) := fun w' h => by
        have h1 : Below wr.heap.size wr w' := by rw [hm]; exact h
        exact ⟨cell_bel h1 a0, cell_bel h1 b0, cell_bel h1 e0, cell_bel h1 e1, cell_bel h1 e2, cell_bel h1 e3, cell_bel h1 e4, cell_bel h1 e5, cell_bel h1 e6, cell_bel h1 d0, cell_bel h1 d1, cell_bel h1 d2, cell_bel h1 d3, cell_bel h1 d4, cell_bel h1 d5, cell_bel h1 d6⟩
      have HM := Lib.hid hm
      clear a0 b0 e0 e1 e2 e3 e4 e5 e6 d0 d1 d2 d3 d4 d5 d6 hm
      go_cut [6, 7] from 15 to 79 (fun s6 s7 wx => ∃ (b6 b7 : Nat), s6 = .pointer (some ⟨b6, 0, none⟩) ∧ s7 = .pointer (some ⟨b7, 0, none⟩) ∧ Hid (wx.heap[b6]? = some (.cells #[.int .i64 x.id, .int .i64 x.parent, .slice A2 x.program.length c2, .int .i64 x.size, .int .i64 x.count, .int .u64 x.one, .int .u64 x.two] 65)) ∧ Hid (wx.heap[b7]? = some (.cells #[.int .i64 x.id, .int .i64 x.parent, .slice A3 x.program.length c3, .int .i64 x.size, .int .i64 x.count, .int .u64 x.one, .int .u64 x.two] 65)) ∧ Hid (Below m wr wx))
      case first =>
        refine wp_region_held_drew (S := fun w' => w'.cell? ⟨n, 0, none⟩ = some (.slice (some ad) xs.length c) ∧ w'.cell? ⟨n + 1, 0, none⟩ = some (.slice (some bd) xs.length d) ∧ w'.cell? (ad.add (k * 7)) = some (.int .i64 x.id) ∧ w'.cell? ⟨(ad.add (k * 7)).block, (ad.add (k * 7)).off + 1, none⟩ = some (.int .i64 x.parent) ∧ w'.cell? ⟨(ad.add (k * 7)).block, (ad.add (k * 7)).off + 2, none⟩ = some (.slice A2 x.program.length c2) ∧ w'.cell? ⟨(ad.add (k * 7)).block, (ad.add (k * 7)).off + 3, none⟩ = some (.int .i64 x.size) ∧ w'.cell? ⟨(ad.add (k * 7)).block, (ad.add (k * 7)).off + 4, none⟩ = some (.int .i64 x.count) ∧ w'.cell? ⟨(ad.add (k * 7)).block, (ad.add (k * 7)).off + 5, none⟩ = some (.int .u64 x.one) ∧ w'.cell? ⟨(ad.add (k * 7)).block, (ad.add (k * 7)).off + 6, none⟩ = some (.int .u64 x.two) ∧ w'.cell? (bd.add (k * 7)) = some (.int .i64 x.id) ∧ w'.cell? ⟨(bd.add (k * 7)).block, (bd.add (k * 7)).off + 1, none⟩ = some (.int .i64 x.parent) ∧ w'.cell? ⟨(bd.add (k * 7)).block, (bd.add (k * 7)).off + 2, none⟩ = some (.slice A3 x.program.length c3) ∧ w'.cell? ⟨(bd.add (k * 7)).block, (bd.add (k * 7)).off + 3, none⟩ = some (.int .i64 x.size) ∧ w'.cell? ⟨(bd.add (k * 7)).block, (bd.add (k * 7)).off + 4, none⟩ = some (.int .i64 x.count) ∧ w'.cell? ⟨(bd.add (k * 7)).block, (bd.add (k * 7)).off + 5, none⟩ = some (.int .u64 x.one) ∧ w'.cell? ⟨(bd.add (k * 7)).block, (bd.add (k * 7)).off + 6, none⟩ = some (.int .u64 x.two)) (by kernel_rfl) (HS.out _ (below_d1 (Below.refl _ _))) (fun hHeld => ?_)
        refine wpAnyH_take (i := 0) (oi := ⟨some 22, _, _, _, _, _⟩) (v := ?_) rfl (by kernel_rfl) (by kernel_rfl) (by kernel_rfl) (fun _ _ _ h => h) (Or.inl ⟨by rfl, ?_⟩) (by assumption) ?_
        rotate_left
        · intro w hSw
          (try dsimp only at hSw)
          go_simp
          try with_reducible rfl
        (try simp only [Act.put, List.setIfInBounds_toArray, List.set_cons_zero, List.set_cons_succ])
        refine wpAnyH_take (i := 1) (oi := ⟨some 23, _, _, _, _, _⟩) (v := ?_) rfl (by kernel_rfl) (by kernel_rfl) (by kernel_rfl) (fun _ _ _ h => h) (Or.inl ⟨by rfl, ?_⟩) (by assumption) ?_
        rotate_left
        · intro w hSw
          (try dsimp only at hSw)
          go_simp
          try with_reducible rfl
        (try simp only [Act.put, List.setIfInBounds_toArray, List.set_cons_zero, List.set_cons_succ])
        refine wpAnyH_take (i := 2) (oi := ⟨some 24, _, _, _, _, _⟩) (v := ?_) rfl (by kernel_rfl) (by kernel_rfl) (by kernel_rfl) (fun _ _ _ h => h) (Or.inl ⟨by rfl, ?_⟩) (by assumption) ?_
        rotate_left
        · intro w hSw
          (try dsimp only at hSw)
          go_simp
          try with_reducible rfl
        (try simp only [Act.put, List.setIfInBounds_toArray, List.set_cons_zero, List.set_cons_succ])
        refine wpAnyH_take (i := 3) (oi := ⟨some 25, _, _, _, _, _⟩) (v := ?_) rfl (by kernel_rfl) (by kernel_rfl) (by kernel_rfl) (fun _ _ _ h => h) (Or.inl ⟨by rfl, ?_⟩) (by assumption) ?_
        rotate_left
        · intro w hSw
          (try dsimp only at hSw)
          go_simp
          try with_reducible rfl
        (try simp only [Act.put, List.setIfInBounds_toArray, List.set_cons_zero, List.set_cons_succ])
        refine wpAnyH_take (i := 4) (oi := ⟨some 26, _, _, _, _, _⟩) (v := ?_) rfl (by kernel_rfl) (by kernel_rfl) (by kernel_rfl) (fun _ _ _ h => h) (Or.inl ⟨by rfl, ?_⟩) (by assumption) ?_
        rotate_left
        · intro w hSw
          (try dsimp only at hSw)
          go_simp
          try with_reducible rfl
        (try simp only [Act.put, List.setIfInBounds_toArray, List.set_cons_zero, List.set_cons_succ])
        refine wpAnyH_take (i := 5) (oi := ⟨some 27, _, _, _, _, _⟩) (v := ?_) rfl (by kernel_rfl) (by kernel_rfl) (by kernel_rfl) (fun _ _ _ h => h) (Or.inl ⟨by rfl, ?_⟩) (by assumption) ?_
        rotate_left
        · intro w hSw
          (try dsimp only at hSw)
          go_simp
          try with_reducible rfl
        (try simp only [Act.put, List.setIfInBounds_toArray, List.set_cons_zero, List.set_cons_succ])
        refine wpAnyH_take (i := 6) (oi := ⟨some 28, _, _, _, _, _⟩) (v := ?_) rfl (by kernel_rfl) (by kernel_rfl) (by kernel_rfl) (fun _ _ _ h => h) (Or.inl ⟨by rfl, ?_⟩) (by assumption) ?_
        rotate_left
        · intro w hSw
          (try dsimp only at hSw)
          go_simp
          try with_reducible rfl
        (try simp only [Act.put, List.setIfInBounds_toArray, List.set_cons_zero, List.set_cons_succ])
        refine wpAnyH_take (i := 7) (oi := ⟨some 29, _, _, _, _, _⟩) (v := ?_) rfl (by kernel_rfl) (by kernel_rfl) (by kernel_rfl) (fun _ _ _ h => h) (Or.inl ⟨by rfl, ?_⟩) (by assumption) ?_
        rotate_left
        · intro w hSw
          (try dsimp only at hSw)
          go_simp
          try with_reducible rfl
        (try simp only [Act.put, List.setIfInBounds_toArray, List.set_cons_zero, List.set_cons_succ])
        refine wpAnyH_take (i := 8) (oi := ⟨some 30, _, _, _, _, _⟩) (v := ?_) rfl (by kernel_rfl) (by kernel_rfl) (by kernel_rfl) (fun _ _ _ h => h) (Or.inl ⟨by rfl, ?_⟩) (by assumption) ?_
        rotate_left
        · intro w hSw
          (try dsimp only at hSw)
          go_simp
          try with_reducible rfl
        (try simp only [Act.put, List.setIfInBounds_toArray, List.set_cons_zero, List.set_cons_succ])
        refine wpAnyH_take (i := 9) (oi := ⟨some 31, _, _, _, _, _⟩) (v := ?_) rfl (by kernel_rfl) (by kernel_rfl) (by kernel_rfl) (fun _ _ _ h => h) (Or.inl ⟨by rfl, ?_⟩) (by assumption) ?_
        rotate_left
        · intro w hSw
          (try dsimp only at hSw)
          go_simp
          try with_reducible rfl
        (try simp only [Act.put, List.setIfInBounds_toArray, List.set_cons_zero, List.set_cons_succ])
        clear hHeld
        have HB0 : Hid (Below m wr wr.drew) := below_d1 (Below.refl _ _)
        have HZ0 : Hid (wr.drew.heap.size = m) := HM.out
        generalize wr.drew = V0 at *
        refine wpAnyH_ready (rs := [10, 11]) (by kernel_rfl) (by simp) ?_
        refine AllReadyH.cons (o := ⟨some 6, _, _, _, _, _⟩) rfl (fun K hK => ?_) (AllReadyH.cons (o := ⟨some 7, _, _, _, _, _⟩) rfl (fun K hK => ?_) AllReadyH.nil)
        · have hz := HZ0.out
          go_simp
          have HF0 : Hid ((V0.alloc (.cells #[.int .i64 0, .int .i64 0, .slice none 0 0, .int .i64 0, .int .i64 0, .int .u64 0, .int .u64 0] 65)).heap[m + 0]? = some (.cells #[.int .i64 0, .int .i64 0, .slice none 0 0, .int .i64 0, .int .i64 0, .int .u64 0, .int .u64 0] 65)) := by have h := blk_new V0 (.cells #[.int .i64 0, .int .i64 0, .slice none 0 0, .int .i64 0, .int .i64 0, .int .u64 0, .int .u64 0] 65); rw [HZ0.out] at h; exact h
          have HB1 : Hid (Below m wr (V0.alloc (.cells #[.int .i64 0, .int .i64 0, .slice none 0 0, .int .i64 0, .int .i64 0, .int .u64 0, .int .u64 0] 65))) := HB0.out.alloc (by rw [HZ0.out]; omega) _
          have HZ1 : Hid ((V0.alloc (.cells #[.int .i64 0, .int .i64 0, .slice none 0 0, .int .i64 0, .int .i64 0, .int .u64 0, .int .u64 0] 65)).heap.size = m + 1) := by unfold Hid; rw [World.size_alloc, HZ0.out]
          refine hK.out _ _ (HS.out _ HB1.out) (fun hHeld => ?_)
          clear hK K hHeld hz
          (try simp only [Act.put, List.setIfInBounds_toArray, List.set_cons_zero, List.set_cons_succ])
          generalize (V0.alloc (.cells #[.int .i64 0, .int .i64 0, .slice none 0 0, .int .i64 0, .int .i64 0, .int .u64 0, .int .u64 0] 65)) = V1 at *
          refine wpAnyH_ready (rs := [11]) (by kernel_rfl) (by simp) ?_
          refine AllReadyH.cons (o := ⟨some 7, _, _, _, _, _⟩) rfl (fun K hK => ?_) AllReadyH.nil
          have hz := HZ1.out
          go_simp
          have HF1 : Hid ((V1.alloc (.cells #[.int .i64 0, .int .i64 0, .slice none 0 0, .int .i64 0, .int .i64 0, .int .u64 0, .int .u64 0] 65)).heap[m + 1]? = some (.cells #[.int .i64 0, .int .i64 0, .slice none 0 0, .int .i64 0, .int .i64 0, .int .u64 0, .int .u64 0] 65)) := by have h := blk_new V1 (.cells #[.int .i64 0, .int .i64 0, .slice none 0 0, .int .i64 0, .int .i64 0, .int .u64 0, .int .u64 0] 65); rw [HZ1.out] at h; exact h
          have HB2 : Hid (Below m wr (V1.alloc (.cells #[.int .i64 0, .int .i64 0, .slice none 0 0, .int .i64 0, .int .i64 0, .int .u64 0, .int .u64 0] 65))) := HB1.out.alloc (by rw [HZ1.out]; omega) _
          have HZ2 : Hid ((V1.alloc (.cells #[.int .i64 0, .int .i64 0, .slice none 0 0, .int .i64 0, .int .i64 0, .int .u64 0, .int .u64 0] 65)).heap.size = m + 2) := by unfold Hid; rw [World.size_alloc, HZ1.out]
          have HF0x : Hid ((V1.alloc (.cells #[.int .i64 0, .int .i64 0, .slice none 0 0, .int .i64 0, .int .i64 0, .int .u64 0, .int .u64 0] 65)).heap[m + 0]? = some (.cells #[.int .i64 0, .int .i64 0, .slice none 0 0, .int .i64 0, .int .i64 0, .int .u64 0, .int .u64 0] 65)) := blk_al HF0.out _
          refine hK.out _ _ (HS.out _ HB2.out) (fun hHeld => ?_)
          clear hK K hHeld hz
          (try simp only [Act.put, List.setIfInBounds_toArray, List.set_cons_zero, List.set_cons_succ])
          generalize (V1.alloc (.cells #[.int .i64 0, .int .i64 0, .slice none 0 0, .int .i64 0, .int .i64 0, .int .u64 0, .int .u64 0] 65)) = V2 at *
          refine wpAnyH_ready (rs := [12]) (by kernel_rfl) (by simp) ?_
          refine AllReadyH.cons (o := ⟨none, _, _, _, _, _⟩) rfl (fun K hK => ?_) AllReadyH.nil
          rw [if_pos (by rfl)]
          refine wp_store_row 65 _ _ rfl (m + 0) #[.int .i64 x.id, .int .i64 x.parent, .slice A2 x.program.length c2, .int .i64 x.size, .int .i64 x.count, .int .u64 x.one, .int .u64 x.two] rfl rfl _ _ HF0x.out (by kernel_rfl) (by rfl) (by kernel_rfl) ?_
          intro V3 hV3
          have HB3 : Hid (Below m wr V3) := HB2.out.trans (hV3.bel.mono (by omega))
          have HX : Hid (V3.heap[m + 0]? = some (.cells #[.int .i64 x.id, .int .i64 x.parent, .slice A2 x.program.length c2, .int .i64 x.size, .int .i64 x.count, .int .u64 x.one, .int .u64 x.two] 65)) := hV3.here
          have HY : Hid (V3.heap[m + 1]? = some (.cells #[.int .i64 0, .int .i64 0, .slice none 0 0, .int .i64 0, .int .i64 0, .int .u64 0, .int .u64 0] 65)) := (hV3.far _ (by omega)).trans HF1.out
          refine hK.out _ _ (HS.out _ HB3.out) (fun hHeld => ?_)
          clear hK K hHeld hV3
          (try simp only [Act.put, List.setIfInBounds_toArray, List.set_cons_zero, List.set_cons_succ])
          refine wpAnyH_ready (rs := [13]) (by kernel_rfl) (by simp) ?_
          refine AllReadyH.cons (o := ⟨none, _, _, _, _, _⟩) rfl (fun K hK => ?_) AllReadyH.nil
          rw [if_pos (by rfl)]
          refine wp_store_row 65 _ _ rfl (m + 1) #[.int .i64 x.id, .int .i64 x.parent, .slice A3 x.program.length c3, .int .i64 x.size, .int .i64 x.count, .int .u64 x.one, .int .u64 x.two] rfl rfl _ _ HY.out (by kernel_rfl) (by rfl) (by kernel_rfl) ?_
          intro V4 hV4
          have HB4 : Hid (Below m wr V4) := HB3.out.trans (hV4.bel.mono (by omega))
          have HX4 : Hid (V4.heap[m + 0]? = some (.cells #[.int .i64 x.id, .int .i64 x.parent, .slice A2 x.program.length c2, .int .i64 x.size, .int .i64 x.count, .int .u64 x.one, .int .u64 x.two] 65)) := (hV4.far _ (by omega)).trans HX.out
          have HY4 : Hid (V4.heap[m + 1]? = some (.cells #[.int .i64 x.id, .int .i64 x.parent, .slice A3 x.program.length c3, .int .i64 x.size, .int .i64 x.count, .int .u64 x.one, .int .u64 x.two] 65)) := hV4.here
          refine hK.out _ _ (HS.out _ HB4.out) (fun hHeld => ?_)
          clear hK K hHeld hV4
          (try simp only [Act.put, List.setIfInBounds_toArray, List.set_cons_zero, List.set_cons_succ])
          refine wpAnyH_done (by kernel_rfl) ?_ _
          go_wp2_with fail
          go_meet
          exact ⟨m + 0, m + 1, rfl, rfl, HX4.out, HY4.out, HB4.out⟩
        · have hz := HZ0.out
          go_simp
          have HF0 : Hid ((V0.alloc (.cells #[.int .i64 0, .int .i64 0, .slice none 0 0, .int .i64 0, .int .i64 0, .int .u64 0, .int .u64 0] 65)).heap[m + 0]? = some (.cells #[.int .i64 0, .int .i64 0, .slice none 0 0, .int .i64 0, .int .i64 0, .int .u64 0, .int .u64 0] 65)) := by have h := blk_new V0 (.cells #[.int .i64 0, .int .i64 0, .slice none 0 0, .int .i64 0, .int .i64 0, .int .u64 0, .int .u64 0] 65); rw [HZ0.out] at h; exact h
          have HB1 : Hid (Below m wr (V0.alloc (.cells #[.int .i64 0, .int .i64 0, .slice none 0 0, .int .i64 0, .int .i64 0, .int .u64 0, .int .u64 0] 65))) := HB0.out.alloc (by rw [HZ0.out]; omega) _
          have HZ1 : Hid ((V0.alloc (.cells #[.int .i64 0, .int .i64 0, .slice none 0 0, .int .i64 0, .int .i64 0, .int .u64 0, .int .u64 0] 65)).heap.size = m + 1) := by unfold Hid; rw [World.size_alloc, HZ0.out]
          refine hK.out _ _ (HS.out _ HB1.out) (fun hHeld => ?_)
          clear hK K hHeld hz
          (try simp only [Act.put, List.setIfInBounds_toArray, List.set_cons_zero, List.set_cons_succ])
          generalize (V0.alloc (.cells #[.int .i64 0, .int .i64 0, .slice none 0 0, .int .i64 0, .int .i64 0, .int .u64 0, .int .u64 0] 65)) = V1 at *
          refine wpAnyH_ready (rs := [10]) (by kernel_rfl) (by simp) ?_
          refine AllReadyH.cons (o := ⟨some 6, _, _, _, _, _⟩) rfl (fun K hK => ?_) AllReadyH.nil
          have hz := HZ1.out
          go_simp
          have HF1 : Hid ((V1.alloc (.cells #[.int .i64 0, .int .i64 0, .slice none 0 0, .int .i64 0, .int .i64 0, .int .u64 0, .int .u64 0] 65)).heap[m + 1]? = some (.cells #[.int .i64 0, .int .i64 0, .slice none 0 0, .int .i64 0, .int .i64 0, .int .u64 0, .int .u64 0] 65)) := by have h := blk_new V1 (.cells #[.int .i64 0, .int .i64 0, .slice none 0 0, .int .i64 0, .int .i64 0, .int .u64 0, .int .u64 0] 65); rw [HZ1.out] at h; exact h
          have HB2 : Hid (Below m wr (V1.alloc (.cells #[.int .i64 0, .int .i64 0, .slice none 0 0, .int .i64 0, .int .i64 0, .int .u64 0, .int .u64 0] 65))) := HB1.out.alloc (by rw [HZ1.out]; omega) _
          have HZ2 : Hid ((V1.alloc (.cells #[.int .i64 0, .int .i64 0, .slice none 0 0, .int .i64 0, .int .i64 0, .int .u64 0, .int .u64 0] 65)).heap.size = m + 2) := by unfold Hid; rw [World.size_alloc, HZ1.out]
          have HF0x : Hid ((V1.alloc (.cells #[.int .i64 0, .int .i64 0, .slice none 0 0, .int .i64 0, .int .i64 0, .int .u64 0, .int .u64 0] 65)).heap[m + 0]? = some (.cells #[.int .i64 0, .int .i64 0, .slice none 0 0, .int .i64 0, .int .i64 0, .int .u64 0, .int .u64 0] 65)) := blk_al HF0.out _
          refine hK.out _ _ (HS.out _ HB2.out) (fun hHeld => ?_)
          clear hK K hHeld hz
          (try simp only [Act.put, List.setIfInBounds_toArray, List.set_cons_zero, List.set_cons_succ])
          generalize (V1.alloc (.cells #[.int .i64 0, .int .i64 0, .slice none 0 0, .int .i64 0, .int .i64 0, .int .u64 0, .int .u64 0] 65)) = V2 at *
          refine wpAnyH_ready (rs := [12]) (by kernel_rfl) (by simp) ?_
          refine AllReadyH.cons (o := ⟨none, _, _, _, _, _⟩) rfl (fun K hK => ?_) AllReadyH.nil
          rw [if_pos (by rfl)]
          refine wp_store_row 65 _ _ rfl (m + 1) #[.int .i64 x.id, .int .i64 x.parent, .slice A2 x.program.length c2, .int .i64 x.size, .int .i64 x.count, .int .u64 x.one, .int .u64 x.two] rfl rfl _ _ HF1.out (by kernel_rfl) (by rfl) (by kernel_rfl) ?_
          intro V3 hV3
          have HB3 : Hid (Below m wr V3) := HB2.out.trans (hV3.bel.mono (by omega))
          have HX : Hid (V3.heap[m + 1]? = some (.cells #[.int .i64 x.id, .int .i64 x.parent, .slice A2 x.program.length c2, .int .i64 x.size, .int .i64 x.count, .int .u64 x.one, .int .u64 x.two] 65)) := hV3.here
          have HY : Hid (V3.heap[m + 0]? = some (.cells #[.int .i64 0, .int .i64 0, .slice none 0 0, .int .i64 0, .int .i64 0, .int .u64 0, .int .u64 0] 65)) := (hV3.far _ (by omega)).trans HF0x.out
          refine hK.out _ _ (HS.out _ HB3.out) (fun hHeld => ?_)
          clear hK K hHeld hV3
          (try simp only [Act.put, List.setIfInBounds_toArray, List.set_cons_zero, List.set_cons_succ])
          refine wpAnyH_ready (rs := [13]) (by kernel_rfl) (by simp) ?_
          refine AllReadyH.cons (o := ⟨none, _, _, _, _, _⟩) rfl (fun K hK => ?_) AllReadyH.nil
          rw [if_pos (by rfl)]
          refine wp_store_row 65 _ _ rfl (m + 0) #[.int .i64 x.id, .int .i64 x.parent, .slice A3 x.program.length c3, .int .i64 x.size, .int .i64 x.count, .int .u64 x.one, .int .u64 x.two] rfl rfl _ _ HY.out (by kernel_rfl) (by rfl) (by kernel_rfl) ?_
          intro V4 hV4
          have HB4 : Hid (Below m wr V4) := HB3.out.trans (hV4.bel.mono (by omega))
          have HX4 : Hid (V4.heap[m + 1]? = some (.cells #[.int .i64 x.id, .int .i64 x.parent, .slice A2 x.program.length c2, .int .i64 x.size, .int .i64 x.count, .int .u64 x.one, .int .u64 x.two] 65)) := (hV4.far _ (by omega)).trans HX.out
          have HY4 : Hid (V4.heap[m + 0]? = some (.cells #[.int .i64 x.id, .int .i64 x.parent, .slice A3 x.program.length c3, .int .i64 x.size, .int .i64 x.count, .int .u64 x.one, .int .u64 x.two] 65)) := hV4.here
          refine hK.out _ _ (HS.out _ HB4.out) (fun hHeld => ?_)
          clear hK K hHeld hV4
          (try simp only [Act.put, List.setIfInBounds_toArray, List.set_cons_zero, List.set_cons_succ])
          refine wpAnyH_done (by kernel_rfl) ?_ _
          go_wp2_with fail
          go_meet
          exact ⟨m + 1, m + 0, rfl, rfl, HX4.out, HY4.out, HB4.out⟩
      case rest =>
        obtain ⟨b6, b7, rfl, rfl, h6, h7, hbx⟩ := hcut
        have z0 : wc.cell? ⟨b6, 0, none⟩ = some (.int .i64 x.id) := blk_cell h6.out 0
        have y0 : wc.cell? ⟨b7, 0, none⟩ = some (.int .i64 x.id) := blk_cell h7.out 0
        have z1 : wc.cell? ⟨b6, 1, none⟩ = some (.int .i64 x.parent) := blk_cell h6.out 1
        have y1 : wc.cell? ⟨b7, 1, none⟩ = some (.int .i64 x.parent) := blk_cell h7.out 1
        have z2 : wc.cell? ⟨b6, 2, none⟩ = some (.slice A2 x.program.length c2) := blk_cell h6.out 2
        have y2 : wc.cell? ⟨b7, 2, none⟩ = some (.slice A3 x.program.length c3) := blk_cell h7.out 2
        have z3 : wc.cell? ⟨b6, 3, none⟩ = some (.int .i64 x.size) := blk_cell h6.out 3
        have y3 : wc.cell? ⟨b7, 3, none⟩ = some (.int .i64 x.size) := blk_cell h7.out 3
        have z4 : wc.cell? ⟨b6, 4, none⟩ = some (.int .i64 x.count) := blk_cell h6.out 4
        have y4 : wc.cell? ⟨b7, 4, none⟩ = some (.int .i64 x.count) := blk_cell h7.out 4
        have z5 : wc.cell? ⟨b6, 5, none⟩ = some (.int .u64 x.one) := blk_cell h6.out 5
        have y5 : wc.cell? ⟨b7, 5, none⟩ = some (.int .u64 x.one) := blk_cell h7.out 5
        have z6 : wc.cell? ⟨b6, 6, none⟩ = some (.int .u64 x.two) := blk_cell h6.out 6
        have y6 : wc.cell? ⟨b7, 6, none⟩ = some (.int .u64 x.two) := blk_cell h7.out 6
        have hbx2 : Below wr.heap.size wr wc := by rw [HM.out]; exact hbx.out
        have HSM := Lib.hid (c_same A2 A3 c2 c3 x.program _ _ wc (HPA.out.bel hbx2) (HPB.out.bel hbx2))
        have HBX := Lib.hid hbx2
        clear hbx hbx2 h6 h7
        go_wp2_with fail
        refine HSM.out.mono ?_
        rintro e w9 ⟨rfl, hB9⟩
        have HB9 := Lib.hid (below_tr HBX.out hB9)
        clear hB9
        go_wp2_with fail
        go_roundw
        case rel => exact ⟨k + 1, by omega, by go_num, below_tr hBr.out HB9.out⟩
        case measure => simp [intOf]; omega
    · obtain rfl : k = xs.length := by omega
      go_wp2_with fail
      go_ret
      exact ⟨rfl, HB1.out.trans (hBr.out.mono HB1.out.size)⟩
end Go.Proofs.YtbojjjiggppnaaaGreat
