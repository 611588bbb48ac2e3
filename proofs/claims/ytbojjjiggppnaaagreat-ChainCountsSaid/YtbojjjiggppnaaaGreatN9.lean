/- The walk of the reference's Right. -/
import Derived.Test.YtbojjjiggppnaaaGreatN8
import Derived.Test.YtbojjjiggppnaaaGreatN4
import Derived.Deep.RegionHeld3
import Derived.Deep.Cut
namespace Go.Proofs.YtbojjjiggppnaaaGreat
open Go.RowKit Go.Shelf
set_option linter.unusedVariables false
set_option linter.unusedSimpArgs false

/-- Right so far. -/
def rightTo (xs : List Node) (k : Nat) : Prop := idsTo xs k ∧ ∀ j (hj : j < xs.length), j < k → nodeR xs xs[j]
theorem rightTo.step {xs : List Node} {k : Nat} (h : rightTo xs k) (hk : k < xs.length) (h24 : k < 24) (h1 : 1 ≤ xs[k].id) (h2 : xs[k].id ≤ 24) (h3 : ∀ i (hi : i < xs.length), i + 1 = k → xs[i].id < xs[k].id) (h4 : nodeR xs xs[k]) : rightTo xs (k + 1) := by
  refine ⟨fun j hj hjk => ?_, fun j hj hjk => ?_⟩
  · rcases Nat.lt_succ_iff_lt_or_eq.1 hjk with h' | rfl
    · exact h.1 j hj h'
    · exact ⟨h24, h1, h2, h3⟩
  · rcases Nat.lt_succ_iff_lt_or_eq.1 hjk with h' | rfl
    · exact h.2 j hj h'
    · exact h4
theorem rightTo.all {xs : List Node} (h : rightTo xs xs.length) : idsTo xs xs.length ∧ ∀ x ∈ xs, nodeR xs x := ⟨h.1, fun x hx => by
  obtain ⟨i, hi, rfl⟩ := List.getElem_of_mem hx
  exact h.2 i hi hi⟩
theorem pool_no {xs : List Node} (h : ¬ poolR xs) : decide (poolE xs = 0) = false := decide_eq_false (fun e => h ((poolE_iff xs).1 e))
theorem pool_no_id {xs : List Node} {k : Nat} (hk : k < xs.length) (h : ¬ (k < 24 ∧ 1 ≤ xs[k].id ∧ xs[k].id ≤ 24 ∧ ∀ i (hi : i < xs.length), i + 1 = k → xs[i].id < xs[k].id)) : decide (poolE xs = 0) = false := pool_no (fun hp => h (hp.1 k hk hk))
theorem pool_no_node {xs : List Node} {k : Nat} (hk : k < xs.length) (h : ¬ nodeR xs xs[k]) : decide (poolE xs = 0) = false := pool_no (fun hp => h (hp.2.1 _ (List.getElem_mem hk)))
theorem pool_no_size {xs : List Node} {k : Nat} (hk : k < xs.length) (h : ¬ (sizedF xs 24 xs[k].id ≠ 0 ∧ sizedF xs 24 xs[k].id ≤ 256 ∧ xs[k].size = sizedF xs 24 xs[k].id)) : decide (poolE xs = 0) = false := pool_no (fun hp => h (hp.2.2 _ (List.getElem_mem hk)))
theorem pool_yes {xs : List Node} (h : rightTo xs xs.length) (h2 : ∀ j (hj : j < xs.length), j < xs.length → sizedF xs 24 xs[j].id ≠ 0 ∧ sizedF xs 24 xs[j].id ≤ 256 ∧ xs[j].size = sizedF xs 24 xs[j].id) : decide (poolE xs = 0) = true := decide_eq_true ((poolE_iff xs).2 ⟨h.all.1, h.all.2, fun x hx => by
  obtain ⟨i, hi, rfl⟩ := List.getElem_of_mem hx
  exact h2 i hi hi⟩)
set_option maxRecDepth 100000 in
set_option maxHeartbeats 8000000 in
theorem c_refRight (xs : List Node) (c : Nat) (A : Option Addr) (ok : Nat → Prop) (w : World) (hC : kNode.Row w ok A xs) (hl : xs.length ≤ 100000) :
    Calls Tryz.prog 44 #[.agg #[.slice A xs.length c]] w fun e w' => e = .returned (.bool (decide (poolE xs = 0))) ∧ Below w.heap.size w w' := by
  obtain ⟨n, hsz⟩ : ∃ n, w.heap.size = n := ⟨_, rfl⟩
  have hxn := hC.1
  have hB1 : Below w.heap.size w (w.alloc (.cells #[.slice A xs.length c] 31)) := below_al (Below.refl _ _) _
  have HF2 : Hid ((w.alloc (.cells #[.slice A xs.length c] 31)).heap[n]? = some (.cells #[.slice A xs.length c] 31)) := by rw [← hsz]; exact blk_new _ _
  have HC := Lib.hid (hC.bel hB1)
  have HB1 := Lib.hid hB1
  have HSZ := Lib.hid hsz
  clear hC hB1
  by_cases h24 : 24 < xs.length
  · have hb := pool_no (xs := xs) (fun hp => by have := hp.1.len; omega)
    rw [hb]
    have HB := Lib.hid hb
    clear hb
    go_enter Tryz.func44, Tryz.ntmps44
    go_wp2_with fail
    go_ret
    exact ⟨rfl, by have h := HB1.out; first | exact h | (rw [HSZ.out] at h; exact h)⟩
  · have HIDB : Hid (∀ k (hk : k < xs.length), ¬ (1 ≤ xs[k].id ∧ xs[k].id ≤ 24 ∧ ∀ i (hi : i < xs.length), i + 1 = k → xs[i].id < xs[k].id) → decide (poolE xs = 0) = false) := fun k hk h => pool_no_id hk (fun hh => h hh.2)
    have HNB : Hid (∀ k (hk : k < xs.length), ¬ nodeR xs xs[k] → decide (poolE xs = 0) = false) := fun k hk h => pool_no_node hk h
    have HSB : Hid (∀ k (hk : k < xs.length), ¬ (sizedF xs 24 xs[k].id ≠ 0 ∧ sizedF xs 24 xs[k].id ≤ 256 ∧ xs[k].size = sizedF xs 24 xs[k].id) → decide (poolE xs = 0) = false) := fun k hk h => pool_no_size hk h
    have HYES : Hid (rightTo xs xs.length → (∀ j (hj : j < xs.length), j < xs.length → sizedF xs 24 xs[j].id ≠ 0 ∧ sizedF xs 24 xs[j].id ≤ 256 ∧ xs[j].size = sizedF xs 24 xs[j].id) → decide (poolE xs = 0) = true) := pool_yes
    generalize decide (poolE xs = 0) = res at *
    go_enter Tryz.func44, Tryz.ntmps44
    go_upto_region 3 with fail
    generalize (w.alloc (.cells #[.slice A xs.length c] 31)) = W1 at *
    clear hsz
    go_wp2_with fail
    go_loopw [3, 4, 5, 6] (fun i _ _ _ wr => ∃ k : Nat, k ≤ xs.length ∧ i = .int .i64 k ∧ Hid (rightTo xs k) ∧ Hid (Below W1.heap.size W1 wr)) (fun i _ _ _ _ => xs.length - (intOf i).toNat)
    case atStart => exact ⟨0, Nat.zero_le _, rfl, ⟨fun j _ h => absurd h (Nat.not_lt_zero _), fun j _ h => absurd h (Nat.not_lt_zero _)⟩, Below.refl _ _⟩
    case round =>
      obtain ⟨k, hk, rfl, hto, hB⟩ := hrel
      have p0 : wr.cell? ⟨n, 0, none⟩ = some (.slice A xs.length c) := blk_cell (blk_bel hB.out HF2.out) 0
      by_cases hlt : k < xs.length
      · obtain ⟨ad, A2, c2, rfl, hok, ⟨g0, g1, g2, g3, g4, g5, g6⟩, e0, e1, e2, e3, e4, e5, e6⟩ := kNode.at_ (HC.out.bel hB.out) hlt
        have hprev : Hid (∀ q (hq : q < xs.length), q + 1 = k → wr.cell? (ad.add (q * 7)) = some (.int .i64 xs[q].id)) := fun q hq _ => by
          obtain ⟨ad', A2', c2', had, _, _, e0', _⟩ := kNode.at_ (HC.out.bel hB.out) hq
          cases had
          exact e0'
        have hk0 : (0 : Int) ≤ (k : Int) := by omega
        have hk1 : (k : Int) < (xs.length : Int) := by omega
        have q2 := g2.2.2.1
        have HIDk := Lib.hid (HIDB.out k hlt)
        have HNBk := Lib.hid (HNB.out k hlt)
        have HSTEP : Hid (1 ≤ xs[k].id → xs[k].id ≤ 24 → (∀ i (hi : i < xs.length), i + 1 = k → xs[i].id < xs[k].id) → nodeR xs xs[k] → rightTo xs (k + 1)) := fun h1 h2 h3 h4 => hto.out.step hlt (by omega) h1 h2 h3 h4
        have hnd : nodeR xs xs[k] = (1 ≤ xs[k].count ∧ (kids xs xs[k].id : Int) ≤ xs[k].count ∧ (checkL xs[k].program).2 = 0) := rfl
        rw [hnd] at HSTEP HNBk
        have HCHK := fun (W : World) (h : Below wr.heap.size wr W) => c_check04 A2 xs[k].program c2 ok W (g2.2.2.bel h)
        have hck : checkT xs[k].program = .tuple #[.int .i64 (checkL xs[k].program).1, .int .i64 (checkL xs[k].program).2] := rfl
        rw [hck] at HCHK
        have HCHK := Lib.hid HCHK
        have HKIDS := fun (W : World) (h : Below wr.heap.size wr W) => c_children xs c (some ad) xs[k].id ok W ((HC.out.bel hB.out).bel h)
        have HKIDS := Lib.hid HKIDS
        have hkl := kids_le xs xs[k].id
        clear g0 g1 g2 g3 g4 g5 g6 hnd hck hto
        generalize (checkL xs[k].program).1 = ck1 at *
        generalize (checkL xs[k].program).2 = ck2 at *
        generalize kids xs xs[k].id = kv at *
        generalize xs[k] = x at *
        obtain ⟨m, hm⟩ : ∃ m, wr.heap.size = m := ⟨_, rfl⟩
        have F1 : Hid ((wr.alloc (.cells #[.int .i64 x.id, .int .i64 x.parent, .slice A2 x.program.length c2, .int .i64 x.size, .int .i64 x.count, .int .u64 x.one, .int .u64 x.two] 65)).heap[m]? = some (.cells #[.int .i64 x.id, .int .i64 x.parent, .slice A2 x.program.length c2, .int .i64 x.size, .int .i64 x.count, .int .u64 x.one, .int .u64 x.two] 65)) := by rw [← hm]; exact blk_new _ _
        have F2 : Hid (Below wr.heap.size wr (wr.alloc (.cells #[.int .i64 x.id, .int .i64 x.parent, .slice A2 x.program.length c2, .int .i64 x.size, .int .i64 x.count, .int .u64 x.one, .int .u64 x.two] 65))) := below_al (Below.refl _ _) _
        have HP3 : Hid (∀ q (hq : q < xs.length), q + 1 = k → (wr.alloc (.cells #[.int .i64 x.id, .int .i64 x.parent, .slice A2 x.program.length c2, .int .i64 x.size, .int .i64 x.count, .int .u64 x.one, .int .u64 x.two] 65)).cell? (ad.add (q * 7)) = some (.int .i64 xs[q].id)) := fun q hq e => cell_al (hprev.out q hq e) _
        have HP0 : Hid ((wr.alloc (.cells #[.int .i64 x.id, .int .i64 x.parent, .slice A2 x.program.length c2, .int .i64 x.size, .int .i64 x.count, .int .u64 x.one, .int .u64 x.two] 65)).cell? ⟨n, 0, none⟩ = some (.slice (some ad) xs.length c)) := cell_al p0 _
        clear hprev
        go_upto_region 7 with fail
        generalize (wr.alloc (.cells #[.int .i64 x.id, .int .i64 x.parent, .slice A2 x.program.length c2, .int .i64 x.size, .int .i64 x.count, .int .u64 x.one, .int .u64 x.two] 65)) = W3 at *
        clear e0 e1 e2 e3 e4 e5 e6 hm p0
        have z0 : W3.cell? ⟨m, 0, none⟩ = some (.int .i64 x.id) := blk_cell F1.out 0
        have z2 : W3.cell? ⟨m, 2, none⟩ = some (.slice A2 x.program.length c2) := blk_cell F1.out 2
        have z4 : W3.cell? ⟨m, 4, none⟩ = some (.int .i64 x.count) := blk_cell F1.out 4
        have p0 := HP0.out
        have HBW : Hid (∀ W, Below W3.heap.size W3 W → Below w.heap.size w W) := fun W h => (HB1.out.trans (hB.out.mono HB1.out.size)).trans ((F2.out.trans (h.mono F2.out.size)).mono (Nat.le_trans HB1.out.size hB.out.size))
        have HBV : Hid (∀ W, Below W3.heap.size W3 W → Below wr.heap.size wr W) := fun W h => F2.out.trans (h.mono F2.out.size)
        have HCE : Hid (∀ W, Below W3.heap.size W3 W → W.cell? ⟨m, 0, none⟩ = some (.int .i64 x.id) ∧ W.cell? ⟨m, 2, none⟩ = some (.slice A2 x.program.length c2) ∧ W.cell? ⟨m, 4, none⟩ = some (.int .i64 x.count) ∧ W.cell? ⟨n, 0, none⟩ = some (.slice (some ad) xs.length c)) := fun W h => ⟨cell_bel h z0, cell_bel h z2, cell_bel h z4, cell_bel h p0⟩
        by_cases h1 : x.id < 1
        · have hd2 : decide (x.id < 1) = true := decide_eq_true h1
          go_quiet (fail)
          go_wp2_with fail
          go_ret
          exact ⟨ret_b (HIDk.out (fun h => absurd h.1 (by omega))).symm, by have h := HBW.out _ (below_dN (Below.refl _ _) nq); first | exact h | (rw [HSZ.out] at h; exact h)⟩
        · have hd2 : decide (x.id < 1) = false := decide_eq_false h1
          by_cases h2 : 24 < x.id
          · have hd3 : decide (24 < x.id) = true := decide_eq_true h2
            go_quiet (fail)
            go_wp2_with fail
            go_ret
            exact ⟨ret_b (HIDk.out (fun h => absurd h.2.1 (by omega))).symm, by have h := HBW.out _ (below_dN (Below.refl _ _) nq); first | exact h | (rw [HSZ.out] at h; exact h)⟩
          · have hd3 : decide (24 < x.id) = false := decide_eq_false h2
            rcases Nat.eq_zero_or_pos k with h0 | h0
            · have hd4 : decide (0 < (k : Int)) = false := by simp; omega
              have hd4' : (0 < (k : Int)) = False := by simp; omega
              have hd4'' : (0 < k) = False := by simp; omega
              by_cases h5 : x.count < 1
              · have hd6 : decide (x.count < 1) = true := decide_eq_true h5
                go_quiet (fail)
                go_wp2_with fail
                go_ret
                exact ⟨ret_b (HNBk.out (fun h => absurd h.1 (by omega))).symm, by have h := HBW.out _ (below_dN (Below.refl _ _) nq); first | exact h | (rw [HSZ.out] at h; exact h)⟩
              · have hd6 : decide (x.count < 1) = false := decide_eq_false h5
                refine wp_region_held_drew (S := fun w' => w'.cell? ⟨m, 0, none⟩ = some (.int .i64 x.id) ∧ w'.cell? ⟨m, 4, none⟩ = some (.int .i64 x.count) ∧ w'.cell? ⟨n, 0, none⟩ = some (.slice (some ad) xs.length c)) (by kernel_rfl) (⟨(HCE.out _ (below_d1 (Below.refl _ _))).1, (HCE.out _ (below_d1 (Below.refl _ _))).2.2.1, (HCE.out _ (below_d1 (Below.refl _ _))).2.2.2⟩) (fun hHeld => ?_)
                clear z0 z2 z4 p0
                refine wpAnyH_take (i := 0) (oi := ⟨some 26, _, _, _, _, _⟩) (v := ?_) rfl (by kernel_rfl) (by kernel_rfl) (by kernel_rfl) (fun _ _ _ h => h) (Or.inl ⟨by rfl, ?_⟩) (by assumption) ?_
                rotate_left
                · intro w hSw
                  (try dsimp only at hSw)
                  go_simp
                  try with_reducible rfl
                (try simp only [Act.put, List.setIfInBounds_toArray, List.set_cons_zero, List.set_cons_succ])
                refine wpAnyH_take (i := 1) (oi := ⟨some 27, _, _, _, _, _⟩) (v := ?_) rfl (by kernel_rfl) (by kernel_rfl) (by kernel_rfl) (fun _ _ _ h => h) (Or.inl ⟨by rfl, ?_⟩) (by assumption) ?_
                rotate_left
                · intro w hSw
                  (try dsimp only at hSw)
                  go_simp
                  try with_reducible rfl
                (try simp only [Act.put, List.setIfInBounds_toArray, List.set_cons_zero, List.set_cons_succ])
                refine wpAnyH_take (i := 2) (oi := ⟨some 28, _, _, _, _, _⟩) (v := ?_) rfl (by kernel_rfl) (by kernel_rfl) (by kernel_rfl) (fun _ _ _ h => h) (Or.inl ⟨by rfl, ?_⟩) (by assumption) ?_
                rotate_left
                · intro w hSw
                  (try dsimp only at hSw)
                  go_simp
                  try with_reducible rfl
                (try simp only [Act.put, List.setIfInBounds_toArray, List.set_cons_zero, List.set_cons_succ])
                refine wpAnyH_take (i := 3) (oi := ⟨some 29, _, _, _, _, _⟩) (v := ?_) rfl (by kernel_rfl) (by kernel_rfl) (by kernel_rfl) (fun _ _ _ h => h) (Or.inl ⟨by rfl, ?_⟩) (by assumption) ?_
                rotate_left
                · intro w hSw
                  (try dsimp only at hSw)
                  go_simp
                  try with_reducible rfl
                (try simp only [Act.put, List.setIfInBounds_toArray, List.set_cons_zero, List.set_cons_succ])
                refine wpAnyH_take (i := 4) (oi := ⟨some 30, _, _, _, _, _⟩) (v := ?_) rfl (by kernel_rfl) (by kernel_rfl) (by kernel_rfl) (fun _ _ _ h => h) (Or.inl ⟨by rfl, ?_⟩) (by assumption) ?_
                rotate_left
                · intro w hSw
                  (try dsimp only at hSw)
                  go_simp
                  try with_reducible rfl
                (try simp only [Act.put, List.setIfInBounds_toArray, List.set_cons_zero, List.set_cons_succ])
                refine wpAnyH_take (i := 5) (oi := ⟨some 31, _, _, _, _, _⟩) (v := ?_) rfl (by kernel_rfl) (by kernel_rfl) (by kernel_rfl) (fun _ _ _ h => h) (Or.inl ⟨by rfl, ?_⟩) (by assumption) ?_
                rotate_left
                · intro w hSw
                  (try dsimp only at hSw)
                  go_simp
                  try with_reducible rfl
                (try simp only [Act.put, List.setIfInBounds_toArray, List.set_cons_zero, List.set_cons_succ])
                refine wpAnyH_take (i := 6) (oi := ⟨some 32, _, _, _, _, _⟩) (v := ?_) rfl (by kernel_rfl) (by kernel_rfl) (by kernel_rfl) (fun _ _ _ h => h) (Or.inl ⟨by rfl, ?_⟩) (by assumption) ?_
                rotate_left
                · intro w hSw
                  (try dsimp only at hSw)
                  go_simp
                  try with_reducible rfl
                (try simp only [Act.put, List.setIfInBounds_toArray, List.set_cons_zero, List.set_cons_succ])
                refine wpAnyH_take (i := 7) (oi := ⟨some 33, _, _, _, _, _⟩) (v := ?_) rfl (by kernel_rfl) (by kernel_rfl) (by kernel_rfl) (fun _ _ _ h => h) (Or.inl ⟨by rfl, ?_⟩) (by assumption) ?_
                rotate_left
                · intro w hSw
                  (try dsimp only at hSw)
                  go_simp
                  try with_reducible rfl
                (try simp only [Act.put, List.setIfInBounds_toArray, List.set_cons_zero, List.set_cons_succ])
                refine wpAnyH_take (i := 8) (oi := ⟨some 34, _, _, _, _, _⟩) (v := ?_) rfl (by kernel_rfl) (by kernel_rfl) (by kernel_rfl) (fun _ _ _ h => h) (Or.inl ⟨by rfl, ?_⟩) (by assumption) ?_
                rotate_left
                · intro w hSw
                  (try dsimp only at hSw)
                  go_simp
                  try with_reducible rfl
                (try simp only [Act.put, List.setIfInBounds_toArray, List.set_cons_zero, List.set_cons_succ])
                refine wpAnyH_take (i := 9) (oi := ⟨some 35, _, _, _, _, _⟩) (v := ?_) rfl (by kernel_rfl) (by kernel_rfl) (by kernel_rfl) (fun _ _ _ h => h) (Or.inl ⟨by rfl, ?_⟩) (by assumption) ?_
                rotate_left
                · intro w hSw
                  (try dsimp only at hSw)
                  go_simp
                  try with_reducible rfl
                (try simp only [Act.put, List.setIfInBounds_toArray, List.set_cons_zero, List.set_cons_succ])
                refine wpAnyH_take (i := 10) (oi := ⟨some 36, _, _, _, _, _⟩) (v := ?_) rfl (by kernel_rfl) (by kernel_rfl) (by kernel_rfl) (fun _ _ _ h => h) (Or.inl ⟨by rfl, ?_⟩) (by assumption) ?_
                rotate_left
                · intro w hSw
                  (try dsimp only at hSw)
                  go_simp
                  try with_reducible rfl
                (try simp only [Act.put, List.setIfInBounds_toArray, List.set_cons_zero, List.set_cons_succ])
                refine wpAnyH_take (i := 11) (oi := ⟨some 37, _, _, _, _, _⟩) (v := ?_) rfl (by kernel_rfl) (by kernel_rfl) (by kernel_rfl) (fun _ _ _ h => h) (Or.inl ⟨by rfl, ?_⟩) (by assumption) ?_
                rotate_left
                · intro w hSw
                  (try dsimp only at hSw)
                  go_simp
                  try with_reducible rfl
                (try simp only [Act.put, List.setIfInBounds_toArray, List.set_cons_zero, List.set_cons_succ])
                refine wpAnyH_take (i := 12) (oi := ⟨some 38, _, _, _, _, _⟩) (v := undef) rfl (by kernel_rfl) (by kernel_rfl) (by kernel_rfl) (fun _ _ _ h => h) (Or.inr ⟨by rfl, rfl⟩) (by assumption) ?_
                (try simp only [Act.put, List.setIfInBounds_toArray, List.set_cons_zero, List.set_cons_succ])
                refine wpAnyH_take (i := 13) (oi := ⟨some 39, _, _, _, _, _⟩) (v := undef) rfl (by kernel_rfl) (by kernel_rfl) (by kernel_rfl) (fun _ _ _ h => h) (Or.inr ⟨by rfl, rfl⟩) (by assumption) ?_
                (try simp only [Act.put, List.setIfInBounds_toArray, List.set_cons_zero, List.set_cons_succ])
                refine wpAnyH_take (i := 14) (oi := ⟨some 40, _, _, _, _, _⟩) (v := undef) rfl (by kernel_rfl) (by kernel_rfl) (by kernel_rfl) (fun _ _ _ h => h) (Or.inr ⟨by rfl, rfl⟩) (by assumption) ?_
                (try simp only [Act.put, List.setIfInBounds_toArray, List.set_cons_zero, List.set_cons_succ])
                refine wpAnyH_take (i := 15) (oi := ⟨some 41, _, _, _, _, _⟩) (v := undef) rfl (by kernel_rfl) (by kernel_rfl) (by kernel_rfl) (fun _ _ _ h => h) (Or.inr ⟨by rfl, rfl⟩) (by assumption) ?_
                (try simp only [Act.put, List.setIfInBounds_toArray, List.set_cons_zero, List.set_cons_succ])
                refine wpAnyH_take (i := 16) (oi := ⟨some 42, _, _, _, _, _⟩) (v := undef) rfl (by kernel_rfl) (by kernel_rfl) (by kernel_rfl) (fun _ _ _ h => h) (Or.inr ⟨by rfl, rfl⟩) (by assumption) ?_
                (try simp only [Act.put, List.setIfInBounds_toArray, List.set_cons_zero, List.set_cons_succ])
                refine wpAnyH_take (i := 17) (oi := ⟨some 43, _, _, _, _, _⟩) (v := undef) rfl (by kernel_rfl) (by kernel_rfl) (by kernel_rfl) (fun _ _ _ h => h) (Or.inr ⟨by rfl, rfl⟩) (by assumption) ?_
                (try simp only [Act.put, List.setIfInBounds_toArray, List.set_cons_zero, List.set_cons_succ])
                refine wpAnyH_take (i := 18) (oi := ⟨some 44, _, _, _, _, _⟩) (v := undef) rfl (by kernel_rfl) (by kernel_rfl) (by kernel_rfl) (fun _ _ _ h => h) (Or.inr ⟨by rfl, rfl⟩) (by assumption) ?_
                (try simp only [Act.put, List.setIfInBounds_toArray, List.set_cons_zero, List.set_cons_succ])
                refine wpAnyH_take (i := 19) (oi := ⟨some 45, _, _, _, _, _⟩) (v := undef) rfl (by kernel_rfl) (by kernel_rfl) (by kernel_rfl) (fun _ _ _ h => h) (Or.inr ⟨by rfl, rfl⟩) (by assumption) ?_
                (try simp only [Act.put, List.setIfInBounds_toArray, List.set_cons_zero, List.set_cons_succ])
                refine wpAnyH_take (i := 20) (oi := ⟨some 46, _, _, _, _, _⟩) (v := undef) rfl (by kernel_rfl) (by kernel_rfl) (by kernel_rfl) (fun _ _ _ h => h) (Or.inr ⟨by rfl, rfl⟩) (by assumption) ?_
                (try simp only [Act.put, List.setIfInBounds_toArray, List.set_cons_zero, List.set_cons_succ])
                refine wpAnyH_take (i := 21) (oi := ⟨some 47, _, _, _, _, _⟩) (v := undef) rfl (by kernel_rfl) (by kernel_rfl) (by kernel_rfl) (fun _ _ _ h => h) (Or.inr ⟨by rfl, rfl⟩) (by assumption) ?_
                (try simp only [Act.put, List.setIfInBounds_toArray, List.set_cons_zero, List.set_cons_succ])
                refine wpAnyH_take (i := 22) (oi := ⟨some 48, _, _, _, _, _⟩) (v := ?_) rfl (by kernel_rfl) (by kernel_rfl) (by kernel_rfl) (fun _ _ _ h => h) (Or.inl ⟨by rfl, ?_⟩) (by assumption) ?_
                rotate_left
                · intro w hSw
                  (try dsimp only at hSw)
                  go_simp
                  try with_reducible rfl
                (try simp only [Act.put, List.setIfInBounds_toArray, List.set_cons_zero, List.set_cons_succ])
                refine wpAnyH_take (i := 23) (oi := ⟨some 49, _, _, _, _, _⟩) (v := ?_) rfl (by kernel_rfl) (by kernel_rfl) (by kernel_rfl) (fun _ _ _ h => h) (Or.inl ⟨by rfl, ?_⟩) (by assumption) ?_
                rotate_left
                · intro w hSw
                  (try dsimp only at hSw)
                  go_simp
                  try with_reducible rfl
                (try simp only [Act.put, List.setIfInBounds_toArray, List.set_cons_zero, List.set_cons_succ])
                refine wpAnyH_take (i := 24) (oi := ⟨some 50, _, _, _, _, _⟩) (v := ?_) rfl (by kernel_rfl) (by kernel_rfl) (by kernel_rfl) (fun _ _ _ h => h) (Or.inl ⟨by rfl, ?_⟩) (by assumption) ?_
                rotate_left
                · intro w hSw
                  (try dsimp only at hSw)
                  go_simp
                  try with_reducible rfl
                (try simp only [Act.put, List.setIfInBounds_toArray, List.set_cons_zero, List.set_cons_succ])
                refine wpAnyH_take (i := 25) (oi := ⟨some 51, _, _, _, _, _⟩) (v := ?_) rfl (by kernel_rfl) (by kernel_rfl) (by kernel_rfl) (fun _ _ _ h => h) (Or.inl ⟨by rfl, ?_⟩) (by assumption) ?_
                rotate_left
                · intro w hSw
                  (try dsimp only at hSw)
                  go_simp
                  try with_reducible rfl
                (try simp only [Act.put, List.setIfInBounds_toArray, List.set_cons_zero, List.set_cons_succ])
                refine wpAnyH_take (i := 26) (oi := ⟨some 52, _, _, _, _, _⟩) (v := ?_) rfl (by kernel_rfl) (by kernel_rfl) (by kernel_rfl) (fun _ _ _ h => h) (Or.inl ⟨by rfl, ?_⟩) (by assumption) ?_
                rotate_left
                · intro w hSw
                  (try dsimp only at hSw)
                  go_simp
                  try with_reducible rfl
                (try simp only [Act.put, List.setIfInBounds_toArray, List.set_cons_zero, List.set_cons_succ])
                refine wpAnyH_take (i := 27) (oi := ⟨some 53, _, _, _, _, _⟩) (v := ?_) rfl (by kernel_rfl) (by kernel_rfl) (by kernel_rfl) (fun _ _ _ h => h) (Or.inl ⟨by rfl, ?_⟩) (by assumption) ?_
                rotate_left
                · intro w hSw
                  (try dsimp only at hSw)
                  go_simp
                  try with_reducible rfl
                (try simp only [Act.put, List.setIfInBounds_toArray, List.set_cons_zero, List.set_cons_succ])
                refine wpAnyH_take (i := 28) (oi := ⟨some 54, _, _, _, _, _⟩) (v := ?_) rfl (by kernel_rfl) (by kernel_rfl) (by kernel_rfl) (fun _ _ _ h => h) (Or.inl ⟨by rfl, ?_⟩) (by assumption) ?_
                rotate_left
                · intro w hSw
                  (try dsimp only at hSw)
                  go_simp
                  try with_reducible rfl
                (try simp only [Act.put, List.setIfInBounds_toArray, List.set_cons_zero, List.set_cons_succ])
                refine wpAnyH_take (i := 29) (oi := ⟨some 55, _, _, _, _, _⟩) (v := ?_) rfl (by kernel_rfl) (by kernel_rfl) (by kernel_rfl) (fun _ _ _ h => h) (Or.inl ⟨by rfl, ?_⟩) (by assumption) ?_
                rotate_left
                · intro w hSw
                  (try dsimp only at hSw)
                  go_simp
                  try with_reducible rfl
                (try simp only [Act.put, List.setIfInBounds_toArray, List.set_cons_zero, List.set_cons_succ])
                refine wpAnyH_take (i := 30) (oi := ⟨some 56, _, _, _, _, _⟩) (v := ?_) rfl (by kernel_rfl) (by kernel_rfl) (by kernel_rfl) (fun _ _ _ h => h) (Or.inl ⟨by rfl, ?_⟩) (by assumption) ?_
                rotate_left
                · intro w hSw
                  (try dsimp only at hSw)
                  go_simp
                  try with_reducible rfl
                (try simp only [Act.put, List.setIfInBounds_toArray, List.set_cons_zero, List.set_cons_succ])
                refine wpAnyH_take (i := 31) (oi := ⟨some 57, _, _, _, _, _⟩) (v := ?_) rfl (by kernel_rfl) (by kernel_rfl) (by kernel_rfl) (fun _ _ _ h => h) (Or.inl ⟨by rfl, ?_⟩) (by assumption) ?_
                rotate_left
                · intro w hSw
                  (try dsimp only at hSw)
                  go_simp
                  try with_reducible rfl
                (try simp only [Act.put, List.setIfInBounds_toArray, List.set_cons_zero, List.set_cons_succ])
                refine wpAnyH_take (i := 32) (oi := ⟨some 58, _, _, _, _, _⟩) (v := ?_) rfl (by kernel_rfl) (by kernel_rfl) (by kernel_rfl) (fun _ _ _ h => h) (Or.inl ⟨by rfl, ?_⟩) (by assumption) ?_
                rotate_left
                · intro w hSw
                  (try dsimp only at hSw)
                  go_simp
                  try with_reducible rfl
                (try simp only [Act.put, List.setIfInBounds_toArray, List.set_cons_zero, List.set_cons_succ])
                refine wpAnyH_take (i := 33) (oi := ⟨some 59, _, _, _, _, _⟩) (v := ?_) rfl (by kernel_rfl) (by kernel_rfl) (by kernel_rfl) (fun _ _ _ h => h) (Or.inl ⟨by rfl, ?_⟩) (by assumption) ?_
                rotate_left
                · intro w hSw
                  (try dsimp only at hSw)
                  go_simp
                  try with_reducible rfl
                (try simp only [Act.put, List.setIfInBounds_toArray, List.set_cons_zero, List.set_cons_succ])
                refine wpAnyH_take (i := 34) (oi := ⟨some 60, _, _, _, _, _⟩) (v := ?_) rfl (by kernel_rfl) (by kernel_rfl) (by kernel_rfl) (fun _ _ _ h => h) (Or.inl ⟨by rfl, ?_⟩) (by assumption) ?_
                rotate_left
                · intro w hSw
                  (try dsimp only at hSw)
                  go_simp
                  try with_reducible rfl
                (try simp only [Act.put, List.setIfInBounds_toArray, List.set_cons_zero, List.set_cons_succ])
                refine wpAnyH_ready (rs := [35]) (by kernel_rfl) (by simp) ?_
                refine AllReadyH.cons (o := ⟨some 61, _, _, _, _, _⟩) rfl (fun K hK => ?_) AllReadyH.nil
                go_simp
                go_at_call 101
                (with_reducible refine (HKIDS.out _ (HBV.out _ (below_d1 (Below.refl _ _)))).mono ?_)
                rintro e w5 ⟨rfl, hb5'⟩
                have hb5 : Below W3.heap.size W3 w5 := undrew hb5'
                have HB5 := Lib.hid hb5
                refine hK.out _ _ (⟨(HCE.out _ hb5).1, (HCE.out _ hb5).2.2.1, (HCE.out _ hb5).2.2.2⟩) (fun hHeld2 => ?_)
                clear hK K hHeld hb5 hb5'
                (try simp only [Act.put, List.setIfInBounds_toArray, List.set_cons_zero, List.set_cons_succ])
                refine wpAnyH_take (i := 36) (oi := ⟨some 62, _, _, _, _, _⟩) (v := ?_) rfl (by kernel_rfl) (by kernel_rfl) (by kernel_rfl) (fun _ _ _ h => h) (Or.inl ⟨by rfl, ?_⟩) (by assumption) ?_
                rotate_left
                · intro w hSw
                  (try dsimp only at hSw)
                  go_simp
                  try with_reducible rfl
                (try simp only [Act.put, List.setIfInBounds_toArray, List.set_cons_zero, List.set_cons_succ])
                refine wpAnyH_take (i := 37) (oi := ⟨some 63, _, _, _, _, _⟩) (v := ?_) rfl (by kernel_rfl) (by kernel_rfl) (by kernel_rfl) (fun _ _ _ h => h) (Or.inl ⟨by rfl, ?_⟩) (by assumption) ?_
                rotate_left
                · intro w hSw
                  (try dsimp only at hSw)
                  go_simp
                  try with_reducible rfl
                (try simp only [Act.put, List.setIfInBounds_toArray, List.set_cons_zero, List.set_cons_succ])
                refine wpAnyH_done (by kernel_rfl) ?_ _
                clear hHeld2
                obtain ⟨z0, z2, z4, p0⟩ := HCE.out _ HB5.out
                by_cases h4 : x.count < (kv : Int)
                · have hd7 : decide (x.count < (kv : Int)) = true := decide_eq_true h4
                  go_wp2_with fail
                  go_ret
                  exact ⟨ret_b (HNBk.out (fun h => absurd h.2.1 (by omega))).symm, by have h := HBW.out _ HB5.out; first | exact h | (rw [HSZ.out] at h; exact h)⟩
                · have hd7 : decide (x.count < (kv : Int)) = false := decide_eq_false h4
                  have HCK := Lib.hid (HCHK.out w5 (HBV.out _ HB5.out))
                  go_wp2_with fail
                  refine HCK.out.mono ?_
                  rintro e w6 ⟨rfl, hB6⟩
                  have HB6 := Lib.hid (below_tr HB5.out hB6)
                  clear hB6 HCK
                  by_cases hck : ck2 = 0
                  · subst hck
                    go_wp2_with fail
                    go_roundw
                    case rel => exact ⟨k + 1, by omega, by go_num, HSTEP.out (by omega) (by omega) (fun i hi e => by omega) ⟨by omega, by omega, by first | exact trivial | rfl⟩, hB.out.trans ((HBV.out _ HB6.out).mono hB.out.size)⟩
                    case measure => simp [intOf]; omega
                  · go_wp2_with fail
                    go_ret
                    exact ⟨ret_b (HNBk.out (fun h => hck h.2.2)).symm, by have h := HBW.out _ HB6.out; first | exact h | (rw [HSZ.out] at h; exact h)⟩
            · obtain ⟨q, hqk⟩ : ∃ q, k = q + 1 := ⟨k - 1, by omega⟩
              have hql : q < xs.length := by omega
              have hd4 : decide (0 < (k : Int)) = true := by simp; omega
              have hsub : IntKind.i64.wrap ((k : Int) - 1) = (q : Int) := by rw [wrap_i64 (by omega)]; omega
              have u0 := HP3.out q hql hqk.symm
              have HWHY : Hid (xs[q].id < x.id → ∀ i (hi : i < xs.length), i + 1 = k → xs[i].id < x.id) := fun h i hi e => by
                obtain rfl : i = q := by omega
                exact h
              have HNOT : Hid (x.id ≤ xs[q].id → (∀ i (hi : i < xs.length), i + 1 = k → xs[i].id < x.id) → False) := fun h h' => by
                have := h' q hql hqk.symm
                omega
              generalize xs[q].id = pv at *
              clear hqk
              have hq0 : (0 : Int) ≤ (q : Int) := by omega
              have hq1 : (q : Int) < (xs.length : Int) := by omega
              by_cases h3 : x.id ≤ pv
              · have hd5 : decide (x.id ≤ pv) = true := decide_eq_true h3
                go_quiet (fail)
                go_wp2_with fail
                go_ret
                exact ⟨ret_b (HIDk.out (fun h => HNOT.out h3 h.2.2)).symm, by have h := HBW.out _ (below_dN (Below.refl _ _) nq); first | exact h | (rw [HSZ.out] at h; exact h)⟩
              · have hd5 : decide (x.id ≤ pv) = false := decide_eq_false h3
                by_cases h5 : x.count < 1
                · have hd6 : decide (x.count < 1) = true := decide_eq_true h5
                  go_quiet (fail)
                  go_wp2_with fail
                  go_ret
                  exact ⟨ret_b (HNBk.out (fun h => absurd h.1 (by omega))).symm, by have h := HBW.out _ (below_dN (Below.refl _ _) nq); first | exact h | (rw [HSZ.out] at h; exact h)⟩
                · have hd6 : decide (x.count < 1) = false := decide_eq_false h5
                  have u0x := u0
                  refine wp_region_held_drew (S := fun w' => w'.cell? ⟨m, 0, none⟩ = some (.int .i64 x.id) ∧ w'.cell? ⟨m, 4, none⟩ = some (.int .i64 x.count) ∧ w'.cell? ⟨n, 0, none⟩ = some (.slice (some ad) xs.length c) ∧ w'.cell? (ad.add (q * 7)) = some (.int .i64 pv)) (by kernel_rfl) (⟨(HCE.out _ (below_d1 (Below.refl _ _))).1, (HCE.out _ (below_d1 (Below.refl _ _))).2.2.1, (HCE.out _ (below_d1 (Below.refl _ _))).2.2.2, cell_bel (below_d1 (Below.refl _ _)) u0⟩) (fun hHeld => ?_)
                  clear z0 z2 z4 p0 u0
                  refine wpAnyH_take (i := 0) (oi := ⟨some 26, _, _, _, _, _⟩) (v := ?_) rfl (by kernel_rfl) (by kernel_rfl) (by kernel_rfl) (fun _ _ _ h => h) (Or.inl ⟨by rfl, ?_⟩) (by assumption) ?_
                  rotate_left
                  · intro w hSw
                    (try dsimp only at hSw)
                    go_simp
                    try with_reducible rfl
                  (try simp only [Act.put, List.setIfInBounds_toArray, List.set_cons_zero, List.set_cons_succ])
                  refine wpAnyH_take (i := 1) (oi := ⟨some 27, _, _, _, _, _⟩) (v := ?_) rfl (by kernel_rfl) (by kernel_rfl) (by kernel_rfl) (fun _ _ _ h => h) (Or.inl ⟨by rfl, ?_⟩) (by assumption) ?_
                  rotate_left
                  · intro w hSw
                    (try dsimp only at hSw)
                    go_simp
                    try with_reducible rfl
                  (try simp only [Act.put, List.setIfInBounds_toArray, List.set_cons_zero, List.set_cons_succ])
                  refine wpAnyH_take (i := 2) (oi := ⟨some 28, _, _, _, _, _⟩) (v := ?_) rfl (by kernel_rfl) (by kernel_rfl) (by kernel_rfl) (fun _ _ _ h => h) (Or.inl ⟨by rfl, ?_⟩) (by assumption) ?_
                  rotate_left
                  · intro w hSw
                    (try dsimp only at hSw)
                    go_simp
                    try with_reducible rfl
                  (try simp only [Act.put, List.setIfInBounds_toArray, List.set_cons_zero, List.set_cons_succ])
                  refine wpAnyH_take (i := 3) (oi := ⟨some 29, _, _, _, _, _⟩) (v := ?_) rfl (by kernel_rfl) (by kernel_rfl) (by kernel_rfl) (fun _ _ _ h => h) (Or.inl ⟨by rfl, ?_⟩) (by assumption) ?_
                  rotate_left
                  · intro w hSw
                    (try dsimp only at hSw)
                    go_simp
                    try with_reducible rfl
                  (try simp only [Act.put, List.setIfInBounds_toArray, List.set_cons_zero, List.set_cons_succ])
                  refine wpAnyH_take (i := 4) (oi := ⟨some 30, _, _, _, _, _⟩) (v := ?_) rfl (by kernel_rfl) (by kernel_rfl) (by kernel_rfl) (fun _ _ _ h => h) (Or.inl ⟨by rfl, ?_⟩) (by assumption) ?_
                  rotate_left
                  · intro w hSw
                    (try dsimp only at hSw)
                    go_simp
                    try with_reducible rfl
                  (try simp only [Act.put, List.setIfInBounds_toArray, List.set_cons_zero, List.set_cons_succ])
                  refine wpAnyH_take (i := 5) (oi := ⟨some 31, _, _, _, _, _⟩) (v := ?_) rfl (by kernel_rfl) (by kernel_rfl) (by kernel_rfl) (fun _ _ _ h => h) (Or.inl ⟨by rfl, ?_⟩) (by assumption) ?_
                  rotate_left
                  · intro w hSw
                    (try dsimp only at hSw)
                    go_simp
                    try with_reducible rfl
                  (try simp only [Act.put, List.setIfInBounds_toArray, List.set_cons_zero, List.set_cons_succ])
                  refine wpAnyH_take (i := 6) (oi := ⟨some 32, _, _, _, _, _⟩) (v := ?_) rfl (by kernel_rfl) (by kernel_rfl) (by kernel_rfl) (fun _ _ _ h => h) (Or.inl ⟨by rfl, ?_⟩) (by assumption) ?_
                  rotate_left
                  · intro w hSw
                    (try dsimp only at hSw)
                    go_simp
                    try with_reducible rfl
                  (try simp only [Act.put, List.setIfInBounds_toArray, List.set_cons_zero, List.set_cons_succ])
                  refine wpAnyH_take (i := 7) (oi := ⟨some 33, _, _, _, _, _⟩) (v := ?_) rfl (by kernel_rfl) (by kernel_rfl) (by kernel_rfl) (fun _ _ _ h => h) (Or.inl ⟨by rfl, ?_⟩) (by assumption) ?_
                  rotate_left
                  · intro w hSw
                    (try dsimp only at hSw)
                    go_simp
                    try with_reducible rfl
                  (try simp only [Act.put, List.setIfInBounds_toArray, List.set_cons_zero, List.set_cons_succ])
                  refine wpAnyH_take (i := 8) (oi := ⟨some 34, _, _, _, _, _⟩) (v := ?_) rfl (by kernel_rfl) (by kernel_rfl) (by kernel_rfl) (fun _ _ _ h => h) (Or.inl ⟨by rfl, ?_⟩) (by assumption) ?_
                  rotate_left
                  · intro w hSw
                    (try dsimp only at hSw)
                    go_simp
                    try with_reducible rfl
                  (try simp only [Act.put, List.setIfInBounds_toArray, List.set_cons_zero, List.set_cons_succ])
                  refine wpAnyH_take (i := 9) (oi := ⟨some 35, _, _, _, _, _⟩) (v := ?_) rfl (by kernel_rfl) (by kernel_rfl) (by kernel_rfl) (fun _ _ _ h => h) (Or.inl ⟨by rfl, ?_⟩) (by assumption) ?_
                  rotate_left
                  · intro w hSw
                    (try dsimp only at hSw)
                    go_simp
                    try with_reducible rfl
                  (try simp only [Act.put, List.setIfInBounds_toArray, List.set_cons_zero, List.set_cons_succ])
                  refine wpAnyH_take (i := 10) (oi := ⟨some 36, _, _, _, _, _⟩) (v := ?_) rfl (by kernel_rfl) (by kernel_rfl) (by kernel_rfl) (fun _ _ _ h => h) (Or.inl ⟨by rfl, ?_⟩) (by assumption) ?_
                  rotate_left
                  · intro w hSw
                    (try dsimp only at hSw)
                    go_simp
                    try with_reducible rfl
                  (try simp only [Act.put, List.setIfInBounds_toArray, List.set_cons_zero, List.set_cons_succ])
                  refine wpAnyH_take (i := 11) (oi := ⟨some 37, _, _, _, _, _⟩) (v := ?_) rfl (by kernel_rfl) (by kernel_rfl) (by kernel_rfl) (fun _ _ _ h => h) (Or.inl ⟨by rfl, ?_⟩) (by assumption) ?_
                  rotate_left
                  · intro w hSw
                    (try dsimp only at hSw)
                    go_simp
                    try with_reducible rfl
                  (try simp only [Act.put, List.setIfInBounds_toArray, List.set_cons_zero, List.set_cons_succ])
                  refine wpAnyH_take (i := 12) (oi := ⟨some 38, _, _, _, _, _⟩) (v := ?_) rfl (by kernel_rfl) (by kernel_rfl) (by kernel_rfl) (fun _ _ _ h => h) (Or.inl ⟨by rfl, ?_⟩) (by assumption) ?_
                  rotate_left
                  · intro w hSw
                    (try dsimp only at hSw)
                    go_simp
                    try with_reducible rfl
                  (try simp only [Act.put, List.setIfInBounds_toArray, List.set_cons_zero, List.set_cons_succ])
                  refine wpAnyH_take (i := 13) (oi := ⟨some 39, _, _, _, _, _⟩) (v := ?_) rfl (by kernel_rfl) (by kernel_rfl) (by kernel_rfl) (fun _ _ _ h => h) (Or.inl ⟨by rfl, ?_⟩) (by assumption) ?_
                  rotate_left
                  · intro w hSw
                    (try dsimp only at hSw)
                    go_simp
                    try with_reducible rfl
                  (try simp only [Act.put, List.setIfInBounds_toArray, List.set_cons_zero, List.set_cons_succ])
                  refine wpAnyH_take (i := 14) (oi := ⟨some 40, _, _, _, _, _⟩) (v := ?_) rfl (by kernel_rfl) (by kernel_rfl) (by kernel_rfl) (fun _ _ _ h => h) (Or.inl ⟨by rfl, ?_⟩) (by assumption) ?_
                  rotate_left
                  · intro w hSw
                    (try dsimp only at hSw)
                    go_simp
                    try with_reducible rfl
                  (try simp only [Act.put, List.setIfInBounds_toArray, List.set_cons_zero, List.set_cons_succ])
                  refine wpAnyH_take (i := 15) (oi := ⟨some 41, _, _, _, _, _⟩) (v := ?_) rfl (by kernel_rfl) (by kernel_rfl) (by kernel_rfl) (fun _ _ _ h => h) (Or.inl ⟨by rfl, ?_⟩) (by assumption) ?_
                  rotate_left
                  · intro w hSw
                    (try dsimp only at hSw)
                    go_simp
                    try with_reducible rfl
                  (try simp only [Act.put, List.setIfInBounds_toArray, List.set_cons_zero, List.set_cons_succ])
                  refine wpAnyH_take (i := 16) (oi := ⟨some 42, _, _, _, _, _⟩) (v := ?_) rfl (by kernel_rfl) (by kernel_rfl) (by kernel_rfl) (fun _ _ _ h => h) (Or.inl ⟨by rfl, ?_⟩) (by assumption) ?_
                  rotate_left
                  · intro w hSw
                    (try dsimp only at hSw)
                    go_simp
                    try with_reducible rfl
                  (try simp only [Act.put, List.setIfInBounds_toArray, List.set_cons_zero, List.set_cons_succ])
                  refine wpAnyH_take (i := 17) (oi := ⟨some 43, _, _, _, _, _⟩) (v := ?_) rfl (by kernel_rfl) (by kernel_rfl) (by kernel_rfl) (fun _ _ _ h => h) (Or.inl ⟨by rfl, ?_⟩) (by assumption) ?_
                  rotate_left
                  · intro w hSw
                    (try dsimp only at hSw)
                    go_simp
                    try with_reducible rfl
                  (try simp only [Act.put, List.setIfInBounds_toArray, List.set_cons_zero, List.set_cons_succ])
                  refine wpAnyH_take (i := 18) (oi := ⟨some 44, _, _, _, _, _⟩) (v := ?_) rfl (by kernel_rfl) (by kernel_rfl) (by kernel_rfl) (fun _ _ _ h => h) (Or.inl ⟨by rfl, ?_⟩) (by assumption) ?_
                  rotate_left
                  · intro w hSw
                    (try dsimp only at hSw)
                    go_simp
                    try with_reducible rfl
                  (try simp only [Act.put, List.setIfInBounds_toArray, List.set_cons_zero, List.set_cons_succ])
                  refine wpAnyH_take (i := 19) (oi := ⟨some 45, _, _, _, _, _⟩) (v := ?_) rfl (by kernel_rfl) (by kernel_rfl) (by kernel_rfl) (fun _ _ _ h => h) (Or.inl ⟨by rfl, ?_⟩) (by assumption) ?_
                  rotate_left
                  · intro w hSw
                    (try dsimp only at hSw)
                    go_simp
                    try with_reducible rfl
                  (try simp only [Act.put, List.setIfInBounds_toArray, List.set_cons_zero, List.set_cons_succ])
                  refine wpAnyH_take (i := 20) (oi := ⟨some 46, _, _, _, _, _⟩) (v := ?_) rfl (by kernel_rfl) (by kernel_rfl) (by kernel_rfl) (fun _ _ _ h => h) (Or.inl ⟨by rfl, ?_⟩) (by assumption) ?_
                  rotate_left
                  · intro w hSw
                    (try dsimp only at hSw)
                    go_simp
                    try with_reducible rfl
                  (try simp only [Act.put, List.setIfInBounds_toArray, List.set_cons_zero, List.set_cons_succ])
                  refine wpAnyH_take (i := 21) (oi := ⟨some 47, _, _, _, _, _⟩) (v := ?_) rfl (by kernel_rfl) (by kernel_rfl) (by kernel_rfl) (fun _ _ _ h => h) (Or.inl ⟨by rfl, ?_⟩) (by assumption) ?_
                  rotate_left
                  · intro w hSw
                    (try dsimp only at hSw)
                    go_simp
                    try with_reducible rfl
                  (try simp only [Act.put, List.setIfInBounds_toArray, List.set_cons_zero, List.set_cons_succ])
                  refine wpAnyH_take (i := 22) (oi := ⟨some 48, _, _, _, _, _⟩) (v := ?_) rfl (by kernel_rfl) (by kernel_rfl) (by kernel_rfl) (fun _ _ _ h => h) (Or.inl ⟨by rfl, ?_⟩) (by assumption) ?_
                  rotate_left
                  · intro w hSw
                    (try dsimp only at hSw)
                    go_simp
                    try with_reducible rfl
                  (try simp only [Act.put, List.setIfInBounds_toArray, List.set_cons_zero, List.set_cons_succ])
                  refine wpAnyH_take (i := 23) (oi := ⟨some 49, _, _, _, _, _⟩) (v := ?_) rfl (by kernel_rfl) (by kernel_rfl) (by kernel_rfl) (fun _ _ _ h => h) (Or.inl ⟨by rfl, ?_⟩) (by assumption) ?_
                  rotate_left
                  · intro w hSw
                    (try dsimp only at hSw)
                    go_simp
                    try with_reducible rfl
                  (try simp only [Act.put, List.setIfInBounds_toArray, List.set_cons_zero, List.set_cons_succ])
                  refine wpAnyH_take (i := 24) (oi := ⟨some 50, _, _, _, _, _⟩) (v := ?_) rfl (by kernel_rfl) (by kernel_rfl) (by kernel_rfl) (fun _ _ _ h => h) (Or.inl ⟨by rfl, ?_⟩) (by assumption) ?_
                  rotate_left
                  · intro w hSw
                    (try dsimp only at hSw)
                    go_simp
                    try with_reducible rfl
                  (try simp only [Act.put, List.setIfInBounds_toArray, List.set_cons_zero, List.set_cons_succ])
                  refine wpAnyH_take (i := 25) (oi := ⟨some 51, _, _, _, _, _⟩) (v := ?_) rfl (by kernel_rfl) (by kernel_rfl) (by kernel_rfl) (fun _ _ _ h => h) (Or.inl ⟨by rfl, ?_⟩) (by assumption) ?_
                  rotate_left
                  · intro w hSw
                    (try dsimp only at hSw)
                    go_simp
                    try with_reducible rfl
                  (try simp only [Act.put, List.setIfInBounds_toArray, List.set_cons_zero, List.set_cons_succ])
                  refine wpAnyH_take (i := 26) (oi := ⟨some 52, _, _, _, _, _⟩) (v := ?_) rfl (by kernel_rfl) (by kernel_rfl) (by kernel_rfl) (fun _ _ _ h => h) (Or.inl ⟨by rfl, ?_⟩) (by assumption) ?_
                  rotate_left
                  · intro w hSw
                    (try dsimp only at hSw)
                    go_simp
                    try with_reducible rfl
                  (try simp only [Act.put, List.setIfInBounds_toArray, List.set_cons_zero, List.set_cons_succ])
                  refine wpAnyH_take (i := 27) (oi := ⟨some 53, _, _, _, _, _⟩) (v := ?_) rfl (by kernel_rfl) (by kernel_rfl) (by kernel_rfl) (fun _ _ _ h => h) (Or.inl ⟨by rfl, ?_⟩) (by assumption) ?_
                  rotate_left
                  · intro w hSw
                    (try dsimp only at hSw)
                    go_simp
                    try with_reducible rfl
                  (try simp only [Act.put, List.setIfInBounds_toArray, List.set_cons_zero, List.set_cons_succ])
                  refine wpAnyH_take (i := 28) (oi := ⟨some 54, _, _, _, _, _⟩) (v := ?_) rfl (by kernel_rfl) (by kernel_rfl) (by kernel_rfl) (fun _ _ _ h => h) (Or.inl ⟨by rfl, ?_⟩) (by assumption) ?_
                  rotate_left
                  · intro w hSw
                    (try dsimp only at hSw)
                    go_simp
                    try with_reducible rfl
                  (try simp only [Act.put, List.setIfInBounds_toArray, List.set_cons_zero, List.set_cons_succ])
                  refine wpAnyH_take (i := 29) (oi := ⟨some 55, _, _, _, _, _⟩) (v := ?_) rfl (by kernel_rfl) (by kernel_rfl) (by kernel_rfl) (fun _ _ _ h => h) (Or.inl ⟨by rfl, ?_⟩) (by assumption) ?_
                  rotate_left
                  · intro w hSw
                    (try dsimp only at hSw)
                    go_simp
                    try with_reducible rfl
                  (try simp only [Act.put, List.setIfInBounds_toArray, List.set_cons_zero, List.set_cons_succ])
                  refine wpAnyH_take (i := 30) (oi := ⟨some 56, _, _, _, _, _⟩) (v := ?_) rfl (by kernel_rfl) (by kernel_rfl) (by kernel_rfl) (fun _ _ _ h => h) (Or.inl ⟨by rfl, ?_⟩) (by assumption) ?_
                  rotate_left
                  · intro w hSw
                    (try dsimp only at hSw)
                    go_simp
                    try with_reducible rfl
                  (try simp only [Act.put, List.setIfInBounds_toArray, List.set_cons_zero, List.set_cons_succ])
                  refine wpAnyH_take (i := 31) (oi := ⟨some 57, _, _, _, _, _⟩) (v := ?_) rfl (by kernel_rfl) (by kernel_rfl) (by kernel_rfl) (fun _ _ _ h => h) (Or.inl ⟨by rfl, ?_⟩) (by assumption) ?_
                  rotate_left
                  · intro w hSw
                    (try dsimp only at hSw)
                    go_simp
                    try with_reducible rfl
                  (try simp only [Act.put, List.setIfInBounds_toArray, List.set_cons_zero, List.set_cons_succ])
                  refine wpAnyH_take (i := 32) (oi := ⟨some 58, _, _, _, _, _⟩) (v := ?_) rfl (by kernel_rfl) (by kernel_rfl) (by kernel_rfl) (fun _ _ _ h => h) (Or.inl ⟨by rfl, ?_⟩) (by assumption) ?_
                  rotate_left
                  · intro w hSw
                    (try dsimp only at hSw)
                    go_simp
                    try with_reducible rfl
                  (try simp only [Act.put, List.setIfInBounds_toArray, List.set_cons_zero, List.set_cons_succ])
                  refine wpAnyH_take (i := 33) (oi := ⟨some 59, _, _, _, _, _⟩) (v := ?_) rfl (by kernel_rfl) (by kernel_rfl) (by kernel_rfl) (fun _ _ _ h => h) (Or.inl ⟨by rfl, ?_⟩) (by assumption) ?_
                  rotate_left
                  · intro w hSw
                    (try dsimp only at hSw)
                    go_simp
                    try with_reducible rfl
                  (try simp only [Act.put, List.setIfInBounds_toArray, List.set_cons_zero, List.set_cons_succ])
                  refine wpAnyH_take (i := 34) (oi := ⟨some 60, _, _, _, _, _⟩) (v := ?_) rfl (by kernel_rfl) (by kernel_rfl) (by kernel_rfl) (fun _ _ _ h => h) (Or.inl ⟨by rfl, ?_⟩) (by assumption) ?_
                  rotate_left
                  · intro w hSw
                    (try dsimp only at hSw)
                    go_simp
                    try with_reducible rfl
                  (try simp only [Act.put, List.setIfInBounds_toArray, List.set_cons_zero, List.set_cons_succ])
                  refine wpAnyH_ready (rs := [35]) (by kernel_rfl) (by simp) ?_
                  refine AllReadyH.cons (o := ⟨some 61, _, _, _, _, _⟩) rfl (fun K hK => ?_) AllReadyH.nil
                  go_simp
                  go_at_call 101
                  (with_reducible refine (HKIDS.out _ (HBV.out _ (below_d1 (Below.refl _ _)))).mono ?_)
                  rintro e w5 ⟨rfl, hb5'⟩
                  have hb5 : Below W3.heap.size W3 w5 := undrew hb5'
                  have HB5 := Lib.hid hb5
                  refine hK.out _ _ (⟨(HCE.out _ hb5).1, (HCE.out _ hb5).2.2.1, (HCE.out _ hb5).2.2.2, cell_bel hb5 u0x⟩) (fun hHeld2 => ?_)
                  clear hK K hHeld hb5 hb5'
                  (try simp only [Act.put, List.setIfInBounds_toArray, List.set_cons_zero, List.set_cons_succ])
                  refine wpAnyH_take (i := 36) (oi := ⟨some 62, _, _, _, _, _⟩) (v := ?_) rfl (by kernel_rfl) (by kernel_rfl) (by kernel_rfl) (fun _ _ _ h => h) (Or.inl ⟨by rfl, ?_⟩) (by assumption) ?_
                  rotate_left
                  · intro w hSw
                    (try dsimp only at hSw)
                    go_simp
                    try with_reducible rfl
                  (try simp only [Act.put, List.setIfInBounds_toArray, List.set_cons_zero, List.set_cons_succ])
                  refine wpAnyH_take (i := 37) (oi := ⟨some 63, _, _, _, _, _⟩) (v := ?_) rfl (by kernel_rfl) (by kernel_rfl) (by kernel_rfl) (fun _ _ _ h => h) (Or.inl ⟨by rfl, ?_⟩) (by assumption) ?_
                  rotate_left
                  · intro w hSw
                    (try dsimp only at hSw)
                    go_simp
                    try with_reducible rfl
                  (try simp only [Act.put, List.setIfInBounds_toArray, List.set_cons_zero, List.set_cons_succ])
                  refine wpAnyH_done (by kernel_rfl) ?_ _
                  clear hHeld2 u0x
                  obtain ⟨z0, z2, z4, p0⟩ := HCE.out _ HB5.out
                  by_cases h4 : x.count < (kv : Int)
                  · have hd7 : decide (x.count < (kv : Int)) = true := decide_eq_true h4
                    go_wp2_with fail
                    go_ret
                    exact ⟨ret_b (HNBk.out (fun h => absurd h.2.1 (by omega))).symm, by have h := HBW.out _ HB5.out; first | exact h | (rw [HSZ.out] at h; exact h)⟩
                  · have hd7 : decide (x.count < (kv : Int)) = false := decide_eq_false h4
                    have HCK := Lib.hid (HCHK.out w5 (HBV.out _ HB5.out))
                    go_wp2_with fail
                    refine HCK.out.mono ?_
                    rintro e w6 ⟨rfl, hB6⟩
                    have HB6 := Lib.hid (below_tr HB5.out hB6)
                    clear hB6 HCK
                    by_cases hck : ck2 = 0
                    · subst hck
                      go_wp2_with fail
                      go_roundw
                      case rel => exact ⟨k + 1, by omega, by go_num, HSTEP.out (by omega) (by omega) (HWHY.out (by omega)) ⟨by omega, by omega, by first | exact trivial | rfl⟩, hB.out.trans ((HBV.out _ HB6.out).mono hB.out.size)⟩
                      case measure => simp [intOf]; omega
                    · go_wp2_with fail
                      go_ret
                      exact ⟨ret_b (HNBk.out (fun h => hck h.2.2)).symm, by have h := HBW.out _ HB6.out; first | exact h | (rw [HSZ.out] at h; exact h)⟩
      · obtain rfl : k = xs.length := by omega
        have HP1 := Lib.hid (blk_bel hB.out HF2.out)
        have HROW := Lib.hid (HC.out.bel hB.out)
        have HBWr : Hid (Below w.heap.size w wr) := HB1.out.trans (hB.out.mono HB1.out.size)
        have HLEN : Hid (∀ x ∈ xs, x.program.length ≤ 1000) := fun x hx => by
          have := checkL_len ((hto.out.all.2 x hx).2.2)
          omega
        clear HIDB HNB
        go_wp2_with fail
        clear p0
        go_loopw [7, 8, 9] (fun i _ _ wq => ∃ (j : Nat), j ≤ xs.length ∧ i = .int .i64 j ∧ Hid (∀ q (hq : q < xs.length), q < j → sizedF xs 24 xs[q].id ≠ 0 ∧ sizedF xs 24 xs[q].id ≤ 256 ∧ xs[q].size = sizedF xs 24 xs[q].id) ∧ Hid (Below wr.heap.size wr wq)) (fun i _ _ _ => xs.length - (intOf i).toNat)
        case atStart => exact ⟨0, Nat.zero_le _, rfl, fun q _ h => absurd h (Nat.not_lt_zero _), Below.refl _ _⟩
        case round =>
          obtain ⟨j, hj, rfl, hgood, hBq⟩ := hrel
          have p0 : wr.cell? ⟨n, 0, none⟩ = some (.slice A xs.length c) := blk_cell (blk_bel hBq.out HP1.out) 0
          by_cases hltj : j < xs.length
          · obtain ⟨ad, A2, c2, rfl, hok, ⟨g0, g1, g2, g3, g4, g5, g6⟩, e0, e1, e2, e3, e4, e5, e6⟩ := kNode.at_ (HROW.out.bel hBq.out) hltj
            have hk0 : (0 : Int) ≤ (j : Int) := by omega
            have hk1 : (j : Int) < (xs.length : Int) := by omega
            have q2 := g2.2.2.1
            have HSBj := Lib.hid (HSB.out j hltj)
            have HGj : Hid ((sizedF xs 24 xs[j].id ≠ 0 ∧ sizedF xs 24 xs[j].id ≤ 256 ∧ xs[j].size = sizedF xs 24 xs[j].id) → ∀ q (hq : q < xs.length), q < j + 1 → sizedF xs 24 xs[q].id ≠ 0 ∧ sizedF xs 24 xs[q].id ≤ 256 ∧ xs[q].size = sizedF xs 24 xs[q].id) := fun h q hq hqj => by
              rcases Nat.lt_succ_iff_lt_or_eq.1 hqj with h' | rfl
              · exact hgood.out q hq h'
              · exact h
            have hcall := fun (W : World) (h : Below wr.heap.size wr W) => c_sized xs c (some ad) ok HLEN.out 24 (by decide) xs[j].id W ((HROW.out.bel hBq.out).bel h)
            have HCALL := Lib.hid hcall
            have hsb := sizedF_le HLEN.out 24 xs[j].id
            clear hcall g0 g1 g2 g3 g4 g5 g6 hgood
            generalize sizedF xs 24 xs[j].id = sz at *
            generalize xs[j] = x at *
            obtain ⟨m, hm⟩ : ∃ m, wr.heap.size = m := ⟨_, rfl⟩
            have F1 : Hid ((wr.alloc (.cells #[.int .i64 x.id, .int .i64 x.parent, .slice A2 x.program.length c2, .int .i64 x.size, .int .i64 x.count, .int .u64 x.one, .int .u64 x.two] 65)).heap[m]? = some (.cells #[.int .i64 x.id, .int .i64 x.parent, .slice A2 x.program.length c2, .int .i64 x.size, .int .i64 x.count, .int .u64 x.one, .int .u64 x.two] 65)) := by rw [← hm]; exact blk_new _ _
            have F2 : Hid (Below wr.heap.size wr (wr.alloc (.cells #[.int .i64 x.id, .int .i64 x.parent, .slice A2 x.program.length c2, .int .i64 x.size, .int .i64 x.count, .int .u64 x.one, .int .u64 x.two] 65))) := below_al (Below.refl _ _) _
            have HP0 : Hid ((wr.alloc (.cells #[.int .i64 x.id, .int .i64 x.parent, .slice A2 x.program.length c2, .int .i64 x.size, .int .i64 x.count, .int .u64 x.one, .int .u64 x.two] 65)).cell? ⟨n, 0, none⟩ = some (.slice (some ad) xs.length c)) := cell_al p0 _
            go_upto_region 16 with fail
            generalize (wr.alloc (.cells #[.int .i64 x.id, .int .i64 x.parent, .slice A2 x.program.length c2, .int .i64 x.size, .int .i64 x.count, .int .u64 x.one, .int .u64 x.two] 65)) = W3 at *
            clear e0 e1 e2 e3 e4 e5 e6 hm p0
            have z0 : W3.cell? ⟨m, 0, none⟩ = some (.int .i64 x.id) := blk_cell F1.out 0
            have p0 := HP0.out
            have HC3 := Lib.hid (HCALL.out W3 F2.out)
            clear HCALL
            go_wp2_with fail
            refine HC3.out.mono ?_
            rintro e w5 ⟨rfl, hb5⟩
            have z3 : w5.cell? ⟨m, 3, none⟩ = some (.int .i64 x.size) := blk_cell (blk_bel hb5 F1.out) 3
            have HB5 := Lib.hid (below_tr F2.out hb5)
            have HBW5 : Hid (Below w.heap.size w w5) := HBWr.out.trans ((hBq.out.trans (HB5.out.mono hBq.out.size)).mono HBWr.out.size)
            clear hb5 HC3 z0 p0
            by_cases s1 : sz = 0
            · have hd1 : (sz == 0) = true := by rw [beq_iff_eq]; exact s1
              have HS1 := Lib.hid s1
              clear s1
              go_wp2_with fail
              go_ret
              exact ⟨ret_b (HSBj.out (fun h => h.1 HS1.out)).symm, by have h := HBW5.out; first | exact h | (rw [HSZ.out] at h; exact h)⟩
            · have hd1 : (sz == 0) = false := by rw [beq_eq_false_iff_ne]; exact s1
              by_cases s2 : 256 < sz
              · have hd2 : decide (256 < sz) = true := decide_eq_true s2
                go_wp2_with fail
                go_ret
                exact ⟨ret_b (HSBj.out (fun h => by omega)).symm, by have h := HBW5.out; first | exact h | (rw [HSZ.out] at h; exact h)⟩
              · have hd2 : decide (256 < sz) = false := decide_eq_false s2
                obtain ⟨xs_, hxs⟩ : ∃ q, q = x.size := ⟨_, rfl⟩
                rw [← hxs] at z3 HSBj HGj
                clear hxs
                by_cases s3 : xs_ = sz
                · have hd3 : (xs_ == sz) = true := by rw [beq_iff_eq]; exact s3
                  have HS3 := Lib.hid s3
                  clear s3
                  go_wp2_with fail
                  go_roundw
                  case rel => exact ⟨j + 1, by omega, by go_num, HGj.out ⟨s1, by omega, HS3.out⟩, hBq.out.trans (HB5.out.mono hBq.out.size)⟩
                  case measure => simp [intOf]; omega
                · have hd3 : (xs_ == sz) = false := by rw [beq_eq_false_iff_ne]; exact s3
                  go_wp2_with fail
                  go_ret
                  exact ⟨ret_b (HSBj.out (fun h => s3 h.2.2)).symm, by have h := HBW5.out; first | exact h | (rw [HSZ.out] at h; exact h)⟩
          · obtain rfl : j = xs.length := by omega
            have HY := Lib.hid (HYES.out hto.out hgood.out)
            have HBE : Hid (Below w.heap.size w wr) := HBWr.out.trans (hBq.out.mono HBWr.out.size)
            clear hgood
            go_wp2_with fail
            go_ret
            exact ⟨ret_b HY.out.symm, by have h := HBE.out; first | exact h | (rw [HSZ.out] at h; exact h)⟩
end Go.Proofs.YtbojjjiggppnaaaGreat
