/- The walk of chain.Check. -/
import Derived.Test.YtbojjjiggppnaaaGreatM4
import Derived.Carry
import Derived.Deep.Cut
namespace Go.Proofs.YtbojjjiggppnaaaGreat
open Go.RowKit Go.Shelf
set_option linter.unusedVariables false
set_option linter.unusedSimpArgs false
attribute [local go_sem] max2_int max_two

theorem wrap_i64 {y : Int} (h : -9223372036854775808 ≤ y ∧ y < 9223372036854775808) : IntKind.i64.wrap y = y := by
  simp only [IntKind.wrap, IntKind.bits, IntKind.signed]
  simp
  omega
set_option maxRecDepth 100000 in
set_option maxHeartbeats 8000000 in
theorem c_checkPool (xs : List Node) (c : Nat) (A : Option Addr) (ok : Nat → Prop) (w : World) (hC : kNode.Row w ok A xs) (hl : xs.length ≤ 1000000) :
    Calls Tryz.prog 38 #[.agg #[.slice A xs.length c]] w fun e w' => e = .returned (.int .i64 (poolE xs)) ∧ Below w.heap.size w w' := by
  obtain ⟨n, hsz⟩ : ∃ n, w.heap.size = n := ⟨_, rfl⟩
  have HC := Lib.hid hC
  have hxn := hC.1
  clear hC
  have hmk : ∀ w, (Instr.makeMap 84 none).run Tryz.prog w = .ok (.map (some w.heap.size)) (w.alloc (.map #[] 0)) := fun w => run_makeMap _ w
  obtain ⟨res, hres⟩ : ∃ r, r = poolE xs := ⟨_, rfl⟩
  rw [← hres]
  have HBAD := Lib.hid (fun (k : Nat) (hk : k < xs.length) (h : ¬ (k < 24 ∧ 1 ≤ xs[k].id ∧ xs[k].id ≤ 24 ∧ ∀ i (hi : i < xs.length), i + 1 = k → xs[i].id < xs[k].id)) => hres.trans (poolE_bad hk h))
  have HWORSE := Lib.hid (fun (k : Nat) (hk : k < xs.length) (h : ¬ goodN xs xs[k]) => hres.trans (poolE_worse hk h))
  have HOK := Lib.hid (fun (h1 : idsTo xs xs.length) (h2 : ∀ j (hj : j < xs.length), goodN xs xs[j]) => hres.trans (poolE_ok h1 h2))
  clear hres
  have f1 : Below w.heap.size w (w.alloc (.cells #[.slice A xs.length c] 31)) := below_al (Below.refl _ _) _
  have f2 : (w.alloc (.cells #[.slice A xs.length c] 31)).heap[n]? = some (.cells #[.slice A xs.length c] 31) := by rw [← hsz]; exact blk_new _ _
  have f3 : (w.alloc (.cells #[.slice A xs.length c] 31)).heap.size = n + 1 := by rw [World.size_alloc, hsz]
  have HF1 := Lib.hid f1
  have HF2 := Lib.hid f2
  have HF3 := Lib.hid f3
  have HSZ := Lib.hid hsz
  clear f1 f2 f3
  go_enter Tryz.func38, Tryz.ntmps38
  go_upto_region 1 with fail
  generalize (w.alloc (.cells #[.slice A xs.length c] 31)) = W1 at *
  have hM0 := Counts.made W1
  have k0 : (W1.alloc (.map #[] 0)).cell? ⟨n, 0, none⟩ = some (.slice A xs.length c) := blk_cell (blk_al HF2.out _) 0
  have hs1 := HF3.out
  rw [hs1] at hM0
  have HM0 := Lib.hid hM0
  have HB7 : Hid (Below (n + 1) W1 (W1.alloc (.map #[] 0))) := by rw [← hs1]; exact below_al (Below.refl _ _) _
  clear hM0
  go_wp2_with fail
  go_loopw [4, 5, 12] (fun _ _ i wr => ∃ (k : Nat), k ≤ xs.length ∧ i = .int .i64 k ∧ Hid (idsTo xs k) ∧ Hid (Below (n + 1) W1 wr) ∧ Hid (Counts wr (n + 1) k (fun t => (kids (xs.take k) t : Int)))) (fun _ _ i _ => xs.length - (intOf i).toNat)
  case atStart => exact ⟨0, Nat.zero_le _, rfl, fun j _ h => absurd h (Nat.not_lt_zero _), HB7.out, by show Counts _ _ _ _; simpa [kids] using HM0.out⟩
  case round =>
    obtain ⟨k, hk, rfl, hids, hB, hM⟩ := hrel
    have hBw : Hid (Below w.heap.size w wr) := HF1.out.trans (hB.out.mono (by rw [HSZ.out]; omega))
    clear k0 HM0 HB7
    by_cases hlt : k < xs.length
    · have hrow := HC.out.bel hBw.out
      obtain ⟨ad, A2, c2, rfl, hok, ⟨g0, g1, g2, g3, g4, g5, g6⟩, e0, e1, e2, e3, e4, e5, e6⟩ := kNode.at_ hrow hlt
      have hprev : Hid (∀ q (hq : q < xs.length), q + 1 = k → wr.cell? (ad.add (q * 7)) = some (.int .i64 xs[q].id)) := fun q hq _ => by
        obtain ⟨ad', _, _, e, -, -, h, -⟩ := kNode.at_ hrow hq
        cases e
        exact h
      have hkid := kids_take hlt
      have hkl := kids_le (xs.take k) xs[k].parent
      rw [List.length_take] at hkl
      have HKID := Lib.hid hkid
      have HKL : Hid (kids (xs.take k) xs[k].parent ≤ k) := Nat.le_trans hkl (Nat.min_le_left _ _)
      have HSTEP : Hid (k < 24 → 1 ≤ xs[k].id → xs[k].id ≤ 24 → (∀ i (hi : i < xs.length), i + 1 = k → xs[i].id < xs[k].id) → idsTo xs (k + 1)) := fun a1 a2 a3 a4 j hj hjk => by
        rcases Nat.lt_succ_iff_lt_or_eq.1 hjk with h | rfl
        · exact hids.out j hj h
        · exact ⟨a1, a2, a3, a4⟩
      have hk24 : k ≤ 24 := by
        rcases Nat.eq_zero_or_pos k with h | h
        · omega
        · have := (hids.out (k - 1) (by omega) (by omega)).1; omega
      have HBADk := Lib.hid (HBAD.out k hlt)
      have q2 := g2.2.2.1
      clear hkid hkl hrow g2 g3 g4 g5 g6 hids
      generalize xs[k] = x at *
      simp only [Kd.rng] at g1
      obtain ⟨m, hm⟩ : ∃ m, wr.heap.size = m := ⟨_, rfl⟩
      have f1 : (wr.alloc (.cells #[.int .i64 x.id, .int .i64 x.parent, .slice A2 x.program.length c2, .int .i64 x.size, .int .i64 x.count, .int .u64 x.one, .int .u64 x.two] 65)).heap[m]? = some (.cells #[.int .i64 x.id, .int .i64 x.parent, .slice A2 x.program.length c2, .int .i64 x.size, .int .i64 x.count, .int .u64 x.one, .int .u64 x.two] 65) := by rw [← hm]; exact blk_new _ _
      have f2 : Below wr.heap.size wr (wr.alloc (.cells #[.int .i64 x.id, .int .i64 x.parent, .slice A2 x.program.length c2, .int .i64 x.size, .int .i64 x.count, .int .u64 x.one, .int .u64 x.two] 65)) := below_al (Below.refl _ _) _
      have hkn : (wr.alloc (.cells #[.int .i64 x.id, .int .i64 x.parent, .slice A2 x.program.length c2, .int .i64 x.size, .int .i64 x.count, .int .u64 x.one, .int .u64 x.two] 65)).cell? ⟨n, 0, none⟩ = some (.slice (some ad) xs.length c) := blk_cell (blk_al ((hB.out.block n (by omega)).trans HF2.out) _) 0
      have hcn := hM.out.bel f2
      have hbn : Below (n + 1) W1 (wr.alloc (.cells #[.int .i64 x.id, .int .i64 x.parent, .slice A2 x.program.length c2, .int .i64 x.size, .int .i64 x.count, .int .u64 x.one, .int .u64 x.two] 65)) := hB.out.trans (f2.mono (by have := hB.out.size; rw [HF3.out] at this; omega))
      have hpv : Hid (∀ q (hq : q < xs.length), q + 1 = k → (wr.alloc (.cells #[.int .i64 x.id, .int .i64 x.parent, .slice A2 x.program.length c2, .int .i64 x.size, .int .i64 x.count, .int .u64 x.one, .int .u64 x.two] 65)).cell? (ad.add (q * 7)) = some (.int .i64 xs[q].id)) := fun q hq e => cell_al (hprev.out q hq e) _
      have F1 := Lib.hid f1
      have HCN := Lib.hid hcn
      have HBN := Lib.hid hbn
      have HEND : Hid (∀ W, Below (wr.alloc (.cells #[.int .i64 x.id, .int .i64 x.parent, .slice A2 x.program.length c2, .int .i64 x.size, .int .i64 x.count, .int .u64 x.one, .int .u64 x.two] 65)).heap.size (wr.alloc (.cells #[.int .i64 x.id, .int .i64 x.parent, .slice A2 x.program.length c2, .int .i64 x.size, .int .i64 x.count, .int .u64 x.one, .int .u64 x.two] 65)) W → Below w.heap.size w W) := fun W h => (HF1.out.trans (HBN.out.mono (by rw [HSZ.out]; omega))).trans (h.mono (by have a := HBN.out.size; have b := HF1.out.size; omega))
      clear f1 f2 hcn hbn hprev hM hB hBw
      go_upto_region 5 with fail
      generalize (wr.alloc (.cells #[.int .i64 x.id, .int .i64 x.parent, .slice A2 x.program.length c2, .int .i64 x.size, .int .i64 x.count, .int .u64 x.one, .int .u64 x.two] 65)) = W3 at *
      have z0 : W3.cell? ⟨m, 0, none⟩ = some (.int .i64 x.id) := blk_cell F1.out 0
      have z1 : W3.cell? ⟨m, 1, none⟩ = some (.int .i64 x.parent) := blk_cell F1.out 1
      clear e0 e1 e2 e3 e4 e5 e6 hm
      clear hsz
      by_cases h24 : k = 24
      · have hd1 : ((k : Int) == 24) = true := by rw [beq_iff_eq]; omega
        go_quiet (fail)
        go_wp2_with fail
        go_ret
        exact ⟨ret_i (HBADk.out (fun h => absurd h.1 (by omega))).symm, by have h := HEND.out _ (below_dN (Below.refl _ _) nq); first | exact h | (rw [HSZ.out] at h; exact h)⟩
      · have hd1 : ((k : Int) == 24) = false := by rw [beq_eq_false_iff_ne]; omega
        by_cases h1 : x.id < 1
        · have hd2 : decide (x.id < 1) = true := decide_eq_true h1
          go_quiet (fail)
          go_wp2_with fail
          go_ret
          exact ⟨ret_i (HBADk.out (fun h => absurd h.2.1 (by omega))).symm, by have h := HEND.out _ (below_dN (Below.refl _ _) nq); first | exact h | (rw [HSZ.out] at h; exact h)⟩
        · have hd2 : decide (x.id < 1) = false := decide_eq_false h1
          by_cases h2 : 24 < x.id
          · have hd3 : decide (24 < x.id) = true := decide_eq_true h2
            go_quiet (fail)
            go_wp2_with fail
            go_ret
            exact ⟨ret_i (HBADk.out (fun h => absurd h.2.2.1 (by omega))).symm, by have h := HEND.out _ (below_dN (Below.refl _ _) nq); first | exact h | (rw [HSZ.out] at h; exact h)⟩
          · have hd3 : decide (24 < x.id) = false := decide_eq_false h2
            rcases Nat.eq_zero_or_pos k with h0 | h0
            · have hd4 : decide (0 < (k : Int)) = false := by simp; omega
              have HS := Lib.hid (HSTEP.out (by omega) (by omega) (by omega) (fun i hi e => by omega))
              go_quiet (fail)
              have z1' : (W3.drewN nq).cell? ⟨m, 1, none⟩ = some (.int .i64 x.parent) := z1
              have HCN' : Hid (Counts (W3.drewN nq) (n + 1) (k) (fun t => (kids (xs.take (k)) t : Int))) := HCN.out.same rfl
              have hlook := HCN'.out.look g1
              have hkl := HKL.out
              try simp only at hlook
              generalize hkv : kids (xs.take (k)) x.parent = kv at *
              have HKV := Lib.hid hkv
              clear hkv
              go_wp2_with (first | (at_mapUpdate; refine wp_count rfl _ _ _ rfl rfl x.parent ((kv : Int) + 1) rfl rfl g1 (by show (-9223372036854775808 : Int) ≤ (kv : Int) + 1 ∧ (kv : Int) + 1 < 9223372036854775808; omega) HCN'.out (by unfold maxLen; omega) ?_; intro w7 hM7 hg7))
              have hB7 : Below (n + 1) W1 w7 := (below_dN HBN.out nq).grown hg7 (by have := HBN.out.size; rw [HF3.out] at this; exact this) (fun q hq => by cases hq; exact Nat.le_refl _)
              have hM8 : Counts w7 (n + 1) (k + 1) (fun t => (kids (xs.take (k + 1)) t : Int)) := by
                rw [HKID.out]
                exact hM7
              go_roundw
              case rel => exact ⟨k + 1, by omega, by go_num, HS.out, hB7, hM8⟩
              case measure => simp [intOf]; omega
            · obtain ⟨q, hqk⟩ : ∃ q, k = q + 1 := ⟨k - 1, by omega⟩
              have hql : q < xs.length := by omega
              have hd4 : decide (0 < (k : Int)) = true := by simp; omega
              have hsub : IntKind.i64.wrap ((k : Int) - 1) = (q : Int) := by rw [wrap_i64 (by omega)]; omega
              have u0 := hpv.out q hql hqk.symm
              have HWHY : Hid (xs[q].id < x.id → ∀ i (hi : i < xs.length), i + 1 = k → xs[i].id < x.id) := fun h i hi e => by
                obtain rfl : i = q := by omega
                exact h
              have HNOT : Hid (x.id ≤ xs[q].id → (∀ i (hi : i < xs.length), i + 1 = k → xs[i].id < x.id) → False) := fun h h' => by
                have := h' q hql hqk.symm
                omega
              generalize xs[q].id = pv at *
              clear hqk
              have hq0 : (0 : Int) ≤ (q : Int) := by omega
              have hq1 : (q : Int) < (xs.length : Int) := by omega
              by_cases h3 : x.id ≤ pv
              · have hd5 : decide (x.id ≤ pv) = true := decide_eq_true h3
                go_quiet (fail)
                go_wp2_with fail
                go_ret
                exact ⟨ret_i (HBADk.out (fun h => HNOT.out h3 h.2.2.2)).symm, by have h := HEND.out _ (below_dN (Below.refl _ _) nq); first | exact h | (rw [HSZ.out] at h; exact h)⟩
              · have hd5 : decide (x.id ≤ pv) = false := decide_eq_false h3
                have HS := Lib.hid (HSTEP.out (by omega) (by omega) (by omega) (HWHY.out (by omega)))
                go_quiet (fail)
                have z1' : (W3.drewN nq).cell? ⟨m, 1, none⟩ = some (.int .i64 x.parent) := z1
                have HCN' : Hid (Counts (W3.drewN nq) (n + 1) (k) (fun t => (kids (xs.take (k)) t : Int))) := HCN.out.same rfl
                have hlook := HCN'.out.look g1
                have hkl := HKL.out
                try simp only at hlook
                generalize hkv : kids (xs.take (k)) x.parent = kv at *
                have HKV := Lib.hid hkv
                clear hkv
                go_wp2_with (first | (at_mapUpdate; refine wp_count rfl _ _ _ rfl rfl x.parent ((kv : Int) + 1) rfl rfl g1 (by show (-9223372036854775808 : Int) ≤ (kv : Int) + 1 ∧ (kv : Int) + 1 < 9223372036854775808; omega) HCN'.out (by unfold maxLen; omega) ?_; intro w7 hM7 hg7))
                have hB7 : Below (n + 1) W1 w7 := (below_dN HBN.out nq).grown hg7 (by have := HBN.out.size; rw [HF3.out] at this; exact this) (fun q hq => by cases hq; exact Nat.le_refl _)
                have hM8 : Counts w7 (n + 1) (k + 1) (fun t => (kids (xs.take (k + 1)) t : Int)) := by
                  rw [HKID.out]
                  exact hM7
                go_roundw
                case rel => exact ⟨k + 1, by omega, by go_num, HS.out, hB7, hM8⟩
                case measure => simp [intOf]; omega
    · obtain rfl : k = xs.length := by omega
      rw [List.take_length] at hM
      have HOK2 := Lib.hid (HOK.out hids.out)
      have HR := Lib.hid hids.out.rising
      have HROW := Lib.hid (HC.out.bel hBw.out)
      have hkn := blk_cell ((hB.out.block n (by omega)).trans HF2.out) 0
      simp only [List.getElem?_toArray, List.getElem?_cons_zero] at hkn
      clear HBAD HOK hids hB hsz
      go_wp2_with fail
      go_loopw [7, 54] (fun _ i wq => ∃ (j : Nat), j ≤ xs.length ∧ i = .int .i64 j ∧ Hid (∀ q (hq : q < xs.length), q < j → goodN xs xs[q]) ∧ Hid (Below wr.heap.size wr wq)) (fun _ i _ => xs.length - (intOf i).toNat)
      case atStart => exact ⟨0, Nat.zero_le _, rfl, fun q _ h => absurd h (Nat.not_lt_zero _), Below.refl _ _⟩
      case round =>
        obtain ⟨j, hj, rfl, hgood, hBq⟩ := hrel
        by_cases hltj : j < xs.length
        · have hrowj := HROW.out.bel hBq.out
          obtain ⟨ad, A2, c2, rfl, hok, ⟨g0, g1, g2, g3, g4, g5, g6⟩, e0, e1, e2, e3, e4, e5, e6⟩ := kNode.at_ hrowj hltj
          have HKx := Lib.hid (kNode.mk (x := xs[j]) g0 g1 g2 g3 g4 g5 g6)
          have HRJ := Lib.hid hrowj
          have q2 := g2.2.2.1
          have HWj := Lib.hid (HWORSE.out j hltj)
          have HGj : Hid (goodN xs xs[j] → ∀ q (hq : q < xs.length), q < j + 1 → goodN xs xs[q]) := fun h q hq hqj => by
            rcases Nat.lt_succ_iff_lt_or_eq.1 hqj with h' | rfl
            · exact hgood.out q hq h'
            · exact h
          have hknq := cell_bel hBq.out hkn
          have hMq := hM.out.bel hBq.out
          have HEQ := Lib.hid (hBw.out.trans (hBq.out.mono hBw.out.size))
          clear hrowj hgood g2 g3 g5 g6
          generalize xs[j] = x at *
          obtain ⟨m, hm⟩ : ∃ m, wr.heap.size = m := ⟨_, rfl⟩
          have f1 : (wr.alloc (.cells #[.int .i64 x.id, .int .i64 x.parent, .slice A2 x.program.length c2, .int .i64 x.size, .int .i64 x.count, .int .u64 x.one, .int .u64 x.two] 65)).heap[m]? = some (.cells #[.int .i64 x.id, .int .i64 x.parent, .slice A2 x.program.length c2, .int .i64 x.size, .int .i64 x.count, .int .u64 x.one, .int .u64 x.two] 65) := by rw [← hm]; exact blk_new _ _
          have f2 : Below wr.heap.size wr (wr.alloc (.cells #[.int .i64 x.id, .int .i64 x.parent, .slice A2 x.program.length c2, .int .i64 x.size, .int .i64 x.count, .int .u64 x.one, .int .u64 x.two] 65)) := below_al (Below.refl _ _) _
          have F1 := Lib.hid f1
          have hkn3 : (wr.alloc (.cells #[.int .i64 x.id, .int .i64 x.parent, .slice A2 x.program.length c2, .int .i64 x.size, .int .i64 x.count, .int .u64 x.one, .int .u64 x.two] 65)).cell? ⟨n, 0, none⟩ = some (.slice (some ad) xs.length c) := cell_al hknq _
          have hlook := (hMq.bel f2).look g0
          have HE3 := Lib.hid (below_tr hBq.out f2)
          have HEW := Lib.hid (HEQ.out.trans (f2.mono HEQ.out.size))
          have HRI := Lib.hid (c_rightN xs c (some ad) x ok ok _ _ (HRJ.out.bel f2) hl HR.out (Kd.bel (d := kNode) HKx.out f2))
          try simp only at hlook
          have hgd : goodN xs x ↔ (max (kids xs x.id : Int) 1 ≤ x.count ∧ rightN xs x = true) := Iff.rfl
          have hkl := kids_le xs x.id
          rw [hgd] at HWj HGj
          generalize kids xs x.id = kv at *
          generalize rightN xs x = rb at *
          clear f1 f2 hgd hMq HKx HRJ hknq hBq HEQ
          go_upto_region 12 with fail
          generalize (wr.alloc (.cells #[.int .i64 x.id, .int .i64 x.parent, .slice A2 x.program.length c2, .int .i64 x.size, .int .i64 x.count, .int .u64 x.one, .int .u64 x.two] 65)) = W3 at *
          have z0 : W3.cell? ⟨m, 0, none⟩ = some (.int .i64 x.id) := blk_cell F1.out 0
          have z1 : W3.cell? ⟨m, 1, none⟩ = some (.int .i64 x.parent) := blk_cell F1.out 1
          have z2 : W3.cell? ⟨m, 2, none⟩ = some (.slice A2 x.program.length c2) := blk_cell F1.out 2
          have z3 : W3.cell? ⟨m, 3, none⟩ = some (.int .i64 x.size) := blk_cell F1.out 3
          have z4 : W3.cell? ⟨m, 4, none⟩ = some (.int .i64 x.count) := blk_cell F1.out 4
          have z5 : W3.cell? ⟨m, 5, none⟩ = some (.int .u64 x.one) := blk_cell F1.out 5
          have z6 : W3.cell? ⟨m, 6, none⟩ = some (.int .u64 x.two) := blk_cell F1.out 6
          clear e0 e1 e2 e3 e4 e5 e6 hm
          by_cases hkv : (kv : Int) < 1
          · by_cases hcv : x.count < 1
            · go_wp2_with fail
              go_ret
              exact ⟨ret_i (HWj.out (fun h => by omega)).symm, by have h := HEW.out; first | exact h | (rw [HSZ.out] at h; exact h)⟩
            · go_wp2_with fail
              refine HRI.out.mono ?_
              rintro e w5 ⟨rfl, hB5⟩
              have HE5 := Lib.hid (HEW.out.trans (hB5.mono HEW.out.size))
              have HE6 := Lib.hid (below_tr HE3.out hB5)
              clear hB5 z0 z1 z2 z3 z4 z5 z6
              cases rb
              · go_wp2_with fail
                go_ret
                exact ⟨ret_i (HWj.out (fun h => by simp at h)).symm, by have h := HE5.out; first | exact h | (rw [HSZ.out] at h; exact h)⟩
              · go_wp2_with fail
                go_roundw
                case rel => exact ⟨j + 1, by omega, by go_num, HGj.out ⟨by omega, by first | exact trivial | rfl⟩, HE6.out⟩
                case measure => simp [intOf]; omega
          · by_cases hcv : x.count < (kv : Int)
            · go_wp2_with fail
              go_ret
              exact ⟨ret_i (HWj.out (fun h => by omega)).symm, by have h := HEW.out; first | exact h | (rw [HSZ.out] at h; exact h)⟩
            · go_wp2_with fail
              refine HRI.out.mono ?_
              rintro e w5 ⟨rfl, hB5⟩
              have HE5 := Lib.hid (HEW.out.trans (hB5.mono HEW.out.size))
              have HE6 := Lib.hid (below_tr HE3.out hB5)
              clear hB5 z0 z1 z2 z3 z4 z5 z6
              cases rb
              · go_wp2_with fail
                go_ret
                exact ⟨ret_i (HWj.out (fun h => by simp at h)).symm, by have h := HE5.out; first | exact h | (rw [HSZ.out] at h; exact h)⟩
              · go_wp2_with fail
                go_roundw
                case rel => exact ⟨j + 1, by omega, by go_num, HGj.out ⟨by omega, by first | exact trivial | rfl⟩, HE6.out⟩
                case measure => simp [intOf]; omega
        · obtain rfl : j = xs.length := by omega
          have hres := HOK2.out (fun q hq => hgood.out q hq hq)
          have HE := Lib.hid (hBw.out.trans (hBq.out.mono hBw.out.size))
          have HRES := Lib.hid hres
          clear hgood hres
          go_wp2_with fail
          go_ret
          exact ⟨ret_i HRES.out.symm, by have h := HE.out; first | exact h | (rw [HSZ.out] at h; exact h)⟩
end Go.Proofs.YtbojjjiggppnaaaGreat
