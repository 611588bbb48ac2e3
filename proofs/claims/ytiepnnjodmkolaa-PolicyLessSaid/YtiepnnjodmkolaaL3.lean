/- The walk of PolicyLess. -/
import Derived.Test.YtiepnnjodmkolaaL2
import Derived.Test.YtiepnnjodmkolaaF1
import Derived.Test.YtiepnnjodmkolaaH1
import Derived.Carry
import Derived.Deep.Cut
namespace Go.Proofs.Ytiepnnjodmkolaa
open Go.RowKit Go.Shelf
set_option linter.unusedVariables false
set_option linter.unusedSimpArgs false

set_option maxRecDepth 100000 in
set_option maxHeartbeats 8000000 in
theorem c_lessLaw (x : Policy) (d : Data) (hd : d.wf) (ok : Nat → Prop) (cs : List Value) (w : World) (hx : kPolicy.K w ok x cs) :
    Calls Try.prog 9 #[.agg cs.toArray, d.agg] w fun e w' => e = .returned (.bool true) ∧ Below w.heap.size w w' := by
  obtain ⟨n, hn⟩ : ∃ n, w.heap.size = n := ⟨_, rfl⟩
  obtain ⟨A0, c0, rfl, ⟨-, -, hrw⟩, hpe⟩ := kPolicy.opn hx
  have hrn := hrw.1
  have HRW := Lib.hid (Kd.Row.mono (ok' := fun q => q < w.heap.size) (fun _ h => h.2) hrw.bound)
  obtain ⟨rules, els⟩ := x
  have HKX := Lib.hid hx
  clear hx hrw
  have HOX := Lib.hid (fun w h => c_over ⟨rules, els⟩ ok [.slice A0 rules.length c0, .int .u32 els] w h)
  have HSH := Lib.hid (fun w h => c_shadowed ⟨rules, els⟩ ok [.slice A0 rules.length c0, .int .u32 els] w h)
  have HSY := Lib.hid (fun hc w h => c_says_yes ⟨rules, els⟩ d hd ok [.slice A0 rules.length c0, .int .u32 els] w h hc)
  have HSQ := Lib.hid (fun zs hc ok cs w h => c_says_yes ⟨zs, els⟩ d hd ok cs w h hc)
  have HLS := Lib.hid (less_says rules els d)
  obtain ⟨dd, hdd⟩ : ∃ dd, d = dd := ⟨_, rfl⟩
  obtain ⟨nr, arch, ip, a0, a1, a2, a3, a4, a5⟩ := d
  have hdagg : dd.agg = .agg #[.int .u32 nr, .int .u32 arch, .int .u64 ip, .int .u64 a0, .int .u64 a1, .int .u64 a2, .int .u64 a3, .int .u64 a4, .int .u64 a5] := by rw [← hdd]; rfl
  rw [hdd] at HSY HSQ HLS ⊢
  rw [hdagg] at HSY HSQ ⊢
  clear hdagg hdd hd
  simp only at *
  obtain ⟨W0, hW0⟩ : ∃ W, W = ((w.alloc (.cells #[.slice A0 rules.length c0, .int .u32 els] 25)).alloc (.cells #[.int .u32 nr, .int .u32 arch, .int .u64 ip, .int .u64 a0, .int .u64 a1, .int .u64 a2, .int .u64 a3, .int .u64 a4, .int .u64 a5] 47)) := ⟨_, rfl⟩
  have hB0 : Below w.heap.size w W0 := by rw [hW0]; exact below_al (below_al (Below.refl _ _) _) _
  have hP0 : W0.heap[n]? = some (.cells #[.slice A0 rules.length c0, .int .u32 els] 25) := by rw [hW0, ← hn]; exact blk_al (blk_new _ _) _
  have hD0 : W0.heap[n + 1]? = some (.cells #[.int .u32 nr, .int .u32 arch, .int .u64 ip, .int .u64 a0, .int .u64 a1, .int .u64 a2, .int .u64 a3, .int .u64 a4, .int .u64 a5] 47) := by
    rw [hW0, ← hn]
    have h := blk_new (w.alloc (.cells #[.slice A0 rules.length c0, .int .u32 els] 25)) (.cells #[.int .u32 nr, .int .u32 arch, .int .u64 ip, .int .u64 a0, .int .u64 a1, .int .u64 a2, .int .u64 a3, .int .u64 a4, .int .u64 a5] 47)
    rwa [World.size_alloc] at h
  have HW0 := Lib.hid hW0
  have HB0 := Lib.hid hB0
  have HP0 := Lib.hid hP0
  have HD0 := Lib.hid hD0
  have HN := Lib.hid hn
  have HPC : Hid (∀ W, Below W0.heap.size W0 W → W.cell? ⟨n, 0, none⟩ = some (.slice A0 rules.length c0) ∧ W.cell? ⟨n, 1, none⟩ = some (.int .u32 els)) := fun W h => ⟨blk_cell (blk_bel h HP0.out) 0, blk_cell (blk_bel h HP0.out) 1⟩
  have HDC : Hid (∀ w', Below W0.heap.size W0 w' → (w'.cell? ⟨n + 1, 0, none⟩ = some (.int .u32 nr) ∧ w'.cell? ⟨n + 1, 1, none⟩ = some (.int .u32 arch) ∧ w'.cell? ⟨n + 1, 2, none⟩ = some (.int .u64 ip) ∧ w'.cell? ⟨n + 1, 3, none⟩ = some (.int .u64 a0) ∧ w'.cell? ⟨n + 1, 4, none⟩ = some (.int .u64 a1) ∧ w'.cell? ⟨n + 1, 5, none⟩ = some (.int .u64 a2) ∧ w'.cell? ⟨n + 1, 6, none⟩ = some (.int .u64 a3) ∧ w'.cell? ⟨n + 1, 7, none⟩ = some (.int .u64 a4) ∧ w'.cell? ⟨n + 1, 8, none⟩ = some (.int .u64 a5))) := fun W h => ⟨blk_cell (blk_bel h HD0.out) 0, blk_cell (blk_bel h HD0.out) 1, blk_cell (blk_bel h HD0.out) 2, blk_cell (blk_bel h HD0.out) 3, blk_cell (blk_bel h HD0.out) 4, blk_cell (blk_bel h HD0.out) 5, blk_cell (blk_bel h HD0.out) 6, blk_cell (blk_bel h HD0.out) 7, blk_cell (blk_bel h HD0.out) 8⟩
  have HXB : Hid (∀ W, Below W0.heap.size W0 W → kPolicy.K W ok ⟨rules, els⟩ [.slice A0 rules.length c0, .int .u32 els]) := fun W h => Kd.bel (d := kPolicy) (Kd.bel (d := kPolicy) HKX.out HB0.out) h
  have HFIN : Hid (∀ W, Below W0.heap.size W0 W → Below w.heap.size w W) := fun W h => HB0.out.trans (h.mono HB0.out.size)
  clear hW0 hB0 hP0 hD0
  go_enter Try.func9, Try.ntmps9
  go_wp2_with fail
  rw [← HW0.out]
  clear hn
  refine (c_wakes W0).mono ?_
  rintro e w1 ⟨rfl, hB1'⟩
  have HB1 := Lib.hid hB1'
  clear hB1'
  obtain ⟨x0, x1⟩ := HPC.out _ HB1.out
  go_wp2_with fail
  refine (HOX.out w1 (HXB.out _ HB1.out)).mono ?_
  rintro e w2 ⟨rfl, hB2'⟩
  have HB2 := Lib.hid (below_tr HB1.out hB2')
  clear hB2' x0 x1
  generalize hox : overP ⟨rules, els⟩ = ox at *
  have HOV := Lib.hid hox
  clear hox
  obtain ⟨x0, x1⟩ := HPC.out _ HB2.out
  cases ox with
  | true =>
    go_wp2_with fail
    go_ret
    exact ⟨rfl, by have h := HFIN.out _ HB2.out; first | exact h | (rw [HN.out] at h; exact h)⟩
  | false =>
  go_wp2_with fail
  refine (HSH.out w2 (HXB.out _ HB2.out)).mono ?_
  rintro e w5 ⟨v5, rfl, hv5, hB5'⟩
  have HB5 := Lib.hid (below_tr HB2.out hB5')
  obtain ⟨A5, c5, e5, -, -, r5⟩ := hv5
  simp only [List.cons.injEq, and_true] at e5
  subst e5
  have HR5 := Lib.hid r5
  have h5n := r5.1
  clear hB5' r5 x0 x1
  have hmk : ∀ w, (Instr.makeMap 67 none).run Try.prog w = .ok (.map (some w.heap.size)) (w.alloc (.map #[] 0)) := fun w => run_makeMap _ w
  by_cases h0 : checkP ⟨rules, els⟩ = 0
  · have hsv : shadV ⟨rules, els⟩ = shadL rules rules.length := by unfold shadV; rw [if_pos h0]
    rw [hsv] at HR5 h5n ⊢
    rw [h0]
    have hr6 := (checkP_ok h0).2
    simp only at hr6
    have HSP := Lib.hid (HSY.out h0)
    have HSR := Lib.hid (HSQ.out _ (less_check h0))
    have hsl := shadL_len rules rules.length
    have HMEM : Hid (∀ k, k < rules.length → decide ((k : Int) ∈ shadL rules rules.length) = shadAt rules k) := fun k hk => by
      rw [Bool.eq_iff_iff, decide_eq_true_eq]
      exact mem_shadL hk
    clear HSY HSQ h0 hsv HSH HOX
    generalize shadL rules rules.length = sv at *
    obtain ⟨b, hb⟩ : ∃ b, w5.heap.size = b := ⟨_, rfl⟩
    have hM0 := Marks.made w5
    have hB7 : Below b w5 (w5.alloc (.map #[] 0)) := by rw [← hb]; exact below_al (Below.refl _ _) _
    rw [hb] at hM0
    have HM0 := Lib.hid hM0
    have HB7 := Lib.hid hB7
    clear hM0 hB7
    have HBE := Lib.hid hb
    go_wp2_with fail
    go_loopw [9, 36] (fun _ i wr => ∃ (j : Nat) (S : List Int), j ≤ sv.length ∧ i = .int .i64 j ∧ Hid (S = sv.take j) ∧ S.length ≤ j ∧ Hid (Below b w5 wr) ∧ Marks wr b S) (fun _ i _ => sv.length - (intOf i).toNat)
    case atStart => exact ⟨0, [], Nat.zero_le _, rfl, rfl, Nat.zero_le _, HB7.out, HM0.out⟩
    case round =>
      obtain ⟨j, S, hj, rfl, hS, hSl, hBr, hMr⟩ := hrel
      have HMR := Lib.hid hMr
      clear hMr
      have hBr5 : Hid (Below w5.heap.size w5 wr) := by rw [HBE.out]; exact hBr.out
      by_cases hlt : j < sv.length
      · obtain ⟨ad, rfl, -, hwf, e0⟩ := Kd.int_at (HR5.out.bel hBr5.out) hlt
        have hS' : Hid (S ++ [sv[j]] = sv.take (j + 1)) := by rw [List.take_succ_eq_append_getElem hlt, ← hS.out]; exact rfl
        generalize sv[j] = s at *
        go_wp2_with (first | (at_mapUpdate; refine wp_mark rfl _ _ _ rfl rfl s rfl rfl hwf HMR.out (by unfold maxLen; omega) ?_; intro w7 hM7 hg7))
        have hB7' : Below b w5 w7 := hBr.out.grown hg7 (by have := hBr.out.size; omega) (fun q hq => by cases hq; exact Nat.le_refl _)
        go_roundw
        case rel => exact ⟨j + 1, _, by omega, by go_num, hS', by simp; omega, hB7', hM7⟩
        case measure => simp [intOf]; omega
      · obtain rfl : j = sv.length := by omega
        rw [List.take_length] at hS
        have hS2 := hS.out
        subst hS2
        have HB8 := Lib.hid (below_tr HB5.out hBr5.out)
        obtain ⟨x0, x1⟩ := HPC.out _ HB8.out
        obtain ⟨bq, hbq⟩ : ∃ q, wr.heap.size = q := ⟨_, rfl⟩
        have hbb : b < bq := by rw [← hbq]; exact HMR.out.lt
        have HWQ : Hid (W0.heap.size ≤ bq) := by have h := HB8.out.size; rw [hbq] at h; exact h
        have hwb : w.heap.size ≤ b := by rw [← HBE.out]; exact (HFIN.out _ HB5.out).size
        have hq0 : (wr.alloc (.cells #[.slice none 0 0, .int .u32 els] 25)).heap[bq]? = some (.cells #[.slice none 0 0, .int .u32 els] 25) := by rw [← hbq]; exact blk_new _ _
        have hqs : (wr.alloc (.cells #[.slice none 0 0, .int .u32 els] 25)).heap.size = bq + 1 := by rw [World.size_alloc, hbq]
        have hqB : Below W0.heap.size W0 (wr.alloc (.cells #[.slice none 0 0, .int .u32 els] 25)) := below_al HB8.out _
        have hqM : Marks (wr.alloc (.cells #[.slice none 0 0, .int .u32 els] 25)) b S := HMR.out.bel (below_al (Below.refl _ _) _)
        obtain ⟨x0', -⟩ := HPC.out _ hqB
        have HQ0 := Lib.hid hq0
        have HQS := Lib.hid hqs
        have HQB := Lib.hid hqB
        have HQM := Lib.hid hqM
        clear hq0 hqs hqB hqM
        go_wp2_with fail
        generalize (wr.alloc (.cells #[.slice none 0 0, .int .u32 els] 25)) = W9 at *
        clear x0 x1 x0' hbq hBr hBr5 HMR HB8 HR5 HM0 HB7 HBE
        go_loopw [11, 12, 13, 49] (fun vi _ _ i wq => ∃ (k : Nat) (vz : Value) (zs : List Rule) (is : List Int), k ≤ rules.length ∧ i = .int .i64 k ∧ Hid (zs = keptR rules k) ∧ Hid (is = keptI rules k) ∧ zs.length ≤ k ∧ is.length ≤ k ∧ Hid (wq.heap[bq]? = some (.cells #[vz, .int .u32 els] 25 (0, 0))) ∧ Hid (Below W0.heap.size W0 wq) ∧ Hid (bq + 1 ≤ wq.heap.size) ∧ Hid (Marks wq b S) ∧ Hid ((Kd.int .i64).Own 3 wq (bq + 1) (fun _ => True) vi is) ∧ Hid (kRule.Own 51 wq (bq + 1) (fun q => some q ≠ vi.ownBlock ∧ (q < b ∨ bq + 1 ≤ q)) vz zs)) (fun _ _ _ i _ => rules.length - (intOf i).toNat)
        case atStart => exact ⟨0, .slice none 0 0, [], [], Nat.zero_le _, rfl, rfl, rfl, by simp, by simp, HQ0.out, HQB.out, by rw [HQS.out]; exact Nat.le_refl _, HQM.out, Kd.Own.nil _ _ _ _ _, Kd.Own.nil _ _ _ _ _⟩
        case round =>
          obtain ⟨k, vz, zs, is, hk, rfl, hzs, his, hzl, hil, hbx, hBq, hsq, hMq, hOI, hOR⟩ := hrel
          obtain ⟨Az, cz, rfl, -, -⟩ := hOR.out.form
          obtain ⟨Ai, ci, rfl, -, -⟩ := hOI.out.form
          obtain ⟨x0, x1⟩ := HPC.out _ hBq.out
          by_cases hlt : k < rules.length
          · obtain ⟨ad, B0, d0, B3, d3, rfl, hok, ⟨g0, g1, g2, g3, g4⟩, e0, e1, e2, e3, e4⟩ := kRule.at_ (HRW.out.bel (HFIN.out _ hBq.out)) hlt
            have HKr := Lib.hid (kRule.mk (x := rules[k]) g0 g1 g2 g3 g4)
            have hmem := HMEM.out k hlt
            have HYES := Lib.hid (keptN_yes (l := rules) (k := k))
            have HNO := Lib.hid (keptN_no (l := rules) (k := k))
            have HRK : Hid (rules.getD k zRule = rules[k]) := by simp [Hid, List.getD, hlt]
            have q03 := g0.2.2.1
            have q33 := g3.2.2.1
            clear g0 g3
            generalize rules[k] = rk at *
            generalize shadAt rules k = sb at *
            have hlook : (Instr.lookup 67 (.map (some b)) (.int .i64 k) false).run Try.prog (wr.alloc (.cells #[.slice B0 rk.archs.length d0, .int .u32 rk.lo, .int .u32 rk.hi, .slice B3 rk.tests.length d3, .int .u32 rk.word] 51)) = .ok (.bool sb) (wr.alloc (.cells #[.slice B0 rk.archs.length d0, .int .u32 rk.lo, .int .u32 rk.hi, .slice B3 rk.tests.length d3, .int .u32 rk.word] 51)) := by
              rw [← hmem]
              exact (hMq.out.bel (below_al (Below.refl _ _) _)).look (by show (-9223372036854775808 : Int) ≤ k ∧ (k : Int) < 9223372036854775808; omega)
            clear hmem
            clear x0 x1
            obtain ⟨m, hm⟩ : ∃ m, wr.heap.size = m := ⟨_, rfl⟩
            have hmb := hsq.out
            rw [hm] at hmb
            have f1 : (wr.alloc (.cells #[.slice B0 rk.archs.length d0, .int .u32 rk.lo, .int .u32 rk.hi, .slice B3 rk.tests.length d3, .int .u32 rk.word] 51)).heap[m]? = some (.cells #[.slice B0 rk.archs.length d0, .int .u32 rk.lo, .int .u32 rk.hi, .slice B3 rk.tests.length d3, .int .u32 rk.word] 51) := by rw [← hm]; exact blk_new _ _
            have f2 : (wr.alloc (.cells #[.slice B0 rk.archs.length d0, .int .u32 rk.lo, .int .u32 rk.hi, .slice B3 rk.tests.length d3, .int .u32 rk.word] 51)).heap.size = m + 1 := by rw [World.size_alloc, hm]
            have f3 : Below W0.heap.size W0 (wr.alloc (.cells #[.slice B0 rk.archs.length d0, .int .u32 rk.lo, .int .u32 rk.hi, .slice B3 rk.tests.length d3, .int .u32 rk.word] 51)) := below_al hBq.out _
            have f4 := hMq.out.bel (below_al (Below.refl wr.heap.size wr) (.cells #[.slice B0 rk.archs.length d0, .int .u32 rk.lo, .int .u32 rk.hi, .slice B3 rk.tests.length d3, .int .u32 rk.word] 51))
            have f5 := hOI.out.al (.cells #[.slice B0 rk.archs.length d0, .int .u32 rk.lo, .int .u32 rk.hi, .slice B3 rk.tests.length d3, .int .u32 rk.word] 51)
            have f6 := hOR.out.al (.cells #[.slice B0 rk.archs.length d0, .int .u32 rk.lo, .int .u32 rk.hi, .slice B3 rk.tests.length d3, .int .u32 rk.word] 51)
            have f7 := blk_al hbx.out (.cells #[.slice B0 rk.archs.length d0, .int .u32 rk.lo, .int .u32 rk.hi, .slice B3 rk.tests.length d3, .int .u32 rk.word] 51)
            have f8 : kRule.K (wr.alloc (.cells #[.slice B0 rk.archs.length d0, .int .u32 rk.lo, .int .u32 rk.hi, .slice B3 rk.tests.length d3, .int .u32 rk.word] 51)) (fun q => q < w.heap.size) rk [.slice B0 rk.archs.length d0, .int .u32 rk.lo, .int .u32 rk.hi, .slice B3 rk.tests.length d3, .int .u32 rk.word] := Kd.al (d := kRule) HKr.out _
            have F1 := Lib.hid f1
            have F2 := Lib.hid f2
            have F3 := Lib.hid f3
            have F4 := Lib.hid f4
            have F5 := Lib.hid f5
            have F6 := Lib.hid f6
            have F7 := Lib.hid f7
            have F8 := Lib.hid f8
            have hvi : Hid (∀ q, (Value.slice Ai is.length ci).ownBlock = some q → q < m) := fun q hq => by have := hOI.out.lt_ q hq; rwa [hm] at this
            clear f1 f2 f3 f4 f5 f6 f7 f8 hbx hBq hsq hMq hOI hOR HKr
            cases sb with
            | true =>
              go_wp2_with fail
              go_roundw
              case rel => exact ⟨k + 1, _, zs, is, by omega, by go_num, by rw [show keptR rules (k + 1) = keptR rules k from by unfold keptR; rw [HNO.out (by first | exact trivial | rfl)]]; exact hzs, by rw [show keptI rules (k + 1) = keptI rules k from by unfold keptI; rw [HNO.out (by first | exact trivial | rfl)]]; exact his, by omega, by omega, F7.out, F3.out, by rw [F2.out]; exact Nat.le_succ_of_le hmb, F4.out, F5.out, F6.out⟩
              case measure => simp [intOf]; omega
            | false =>
              go_upto_region 20 with fail
              generalize (wr.alloc (.cells #[.slice B0 rk.archs.length d0, .int .u32 rk.lo, .int .u32 rk.hi, .slice B3 rk.tests.length d3, .int .u32 rk.word] 51)) = W1 at *
              clear hlook e0 e1 e2 e3 e4
              have t0 : W1.cell? ⟨bq, 0, none⟩ = some (.slice Az zs.length cz) := blk_cell F7.out 0
              have r0 : W1.cell? ⟨m, 0, none⟩ = some (.slice B0 rk.archs.length d0) := blk_cell F1.out 0
              have r1 : W1.cell? ⟨m, 1, none⟩ = some (.int .u32 rk.lo) := blk_cell F1.out 1
              have r2 : W1.cell? ⟨m, 2, none⟩ = some (.int .u32 rk.hi) := blk_cell F1.out 2
              have r3 : W1.cell? ⟨m, 3, none⟩ = some (.slice B3 rk.tests.length d3) := blk_cell F1.out 3
              have r4 : W1.cell? ⟨m, 4, none⟩ = some (.int .u32 rk.word) := blk_cell F1.out 4
              have hLIT : kRule.Row (W1.alloc (.cells #[.slice B0 rk.archs.length d0, .int .u32 rk.lo, .int .u32 rk.hi, .slice B3 rk.tests.length d3, .int .u32 rk.word] 51)) (fun q => q < w.heap.size ∨ q = m + 1) (some ⟨W1.heap.size, 0, none⟩) [rk] := rule_row (e := 51) (kRule.mono (fun q hq => .inl hq) F8.out) (.inr F2.out)
              have HVI : Hid (∀ q, (Value.slice Ai is.length ci).ownBlock = some q → bq + 1 ≤ q ∧ q < m) := fun q hq => ⟨F5.out.le q hq, hvi.out q hq⟩
              have HVZ : Hid (∀ q, (Value.slice Az zs.length cz).ownBlock = some q → bq + 1 ≤ q ∧ q < m + 1 ∧ some q ≠ (Value.slice Ai is.length ci).ownBlock) := fun q hq => ⟨F6.out.le q hq, by have := F6.out.lt_ q hq; rwa [F2.out] at this, (F6.out.ok_ q hq).1⟩
              have hNE : ∀ (x : Rule) (cs : List Value), kRule.K (W1.alloc (.cells #[.slice B0 rk.archs.length d0, .int .u32 rk.lo, .int .u32 rk.hi, .slice B3 rk.tests.length d3, .int .u32 rk.word] 51)) (fun q => q < w.heap.size ∨ q = m + 1) x cs → kRule.K (W1.alloc (.cells #[.slice B0 rk.archs.length d0, .int .u32 rk.lo, .int .u32 rk.hi, .slice B3 rk.tests.length d3, .int .u32 rk.word] 51)) (fun q => (some q ≠ (Value.slice Ai is.length ci).ownBlock ∧ (q < b ∨ bq + 1 ≤ q)) ∧ some q ≠ (Value.slice Az zs.length cz).ownBlock) x cs := fun x cs h => kRule.mono (fun q hq => ⟨⟨fun e => by have := HVI.out q e.symm; omega, by omega⟩, fun e => by have := HVZ.out q e.symm; omega⟩) h
              have hO6 := F6.out.al (.cells #[.slice B0 rk.archs.length d0, .int .u32 rk.lo, .int .u32 rk.hi, .slice B3 rk.tests.length d3, .int .u32 rk.word] 51)
              have hs2 : (W1.alloc (.cells #[.slice B0 rk.archs.length d0, .int .u32 rk.lo, .int .u32 rk.hi, .slice B3 rk.tests.length d3, .int .u32 rk.word] 51)).heap.size = m + 2 := by rw [World.size_alloc, F2.out]
              have HLIT := Lib.hid hLIT
              have HNE := Lib.hid hNE
              have HO6 := Lib.hid hO6
              have HS2 := Lib.hid hs2
              have HI2 := Lib.hid (F5.out.al (.cells #[.slice B0 rk.archs.length d0, .int .u32 rk.lo, .int .u32 rk.hi, .slice B3 rk.tests.length d3, .int .u32 rk.word] 51))
              have HM2 := Lib.hid (F4.out.bel (below_al (Below.refl _ _) (.cells #[.slice B0 rk.archs.length d0, .int .u32 rk.lo, .int .u32 rk.hi, .slice B3 rk.tests.length d3, .int .u32 rk.word] 51)))
              have HQ2 := Lib.hid (blk_al F7.out (.cells #[.slice B0 rk.archs.length d0, .int .u32 rk.lo, .int .u32 rk.hi, .slice B3 rk.tests.length d3, .int .u32 rk.word] 51))
              have HB2' := Lib.hid (below_al F3.out (.cells #[.slice B0 rk.archs.length d0, .int .u32 rk.lo, .int .u32 rk.hi, .slice B3 rk.tests.length d3, .int .u32 rk.word] 51))
              have hkr : Kd.rng .i64 (k : Int) := by show (-9223372036854775808 : Int) ≤ k ∧ (k : Int) < 9223372036854775808; omega
              have HKR := Lib.hid hkr
              clear hLIT hNE hO6 hs2 hkr F1 F4 F5 F6 F7 F8 hvi
              go_wp2_with (first
              | (at_builtin; refine wp_append_kd (d := kRule) rfl _ _ 22 51 _ 64 rfl Try.underlying22 infoRule rfl (.slice Az zs.length cz) zs (some ⟨W1.heap.size, 0, none⟩) 1 1 [rk] rfl rfl HO6.out rfl HLIT.out HNE.out (by unfold maxLen; omega) (by omega) (by rw [HS2.out]; omega) (fun q hq => ⟨fun e => by have := HVI.out q e.symm; rw [HS2.out] at hq; omega, by rw [HS2.out] at hq; omega⟩) ?_; intro v1 w3 hO3 hg3 hat3; have HO3 := Lib.hid hO3; have HI3 := Lib.hid (HI2.out.stay (plain_int _) hg3 (fun q hq e => (HVZ.out q e).2.2 hq.symm)); have HQ3 := Lib.hid ((hg3.block bq (by rw [HS2.out]; omega) (fun e => by have := HVZ.out _ e.symm; omega)).trans HQ2.out); have HM3 := Lib.hid (HM2.out.grown hg3 (fun e => by have := HVZ.out _ e.symm; omega)); have HB3 := Lib.hid (HB2'.out.grown hg3 HB2'.out.size (fun q hq => by have := HVZ.out q hq; have := HWQ.out; omega)); have hs3 := hg3.size; rw [HS2.out] at hs3; have HS3 := Lib.hid hs3; obtain ⟨Az1, cz1, rfl, -, -⟩ := hO3.form; have HI3a := Lib.hid (HI3.out.al (.cells #[.int .i64 (k : Int)] 3)); have HL3 := Lib.hid (int_lit (w := w3) (e := 3) HKR.out); clear hO3 hg3 hat3 hs3 HI2 HQ2 HM2 HB2' HLIT HNE HO6 t0 r0 r1 r2 r3 r4)
              | (at_builtin; refine wp_append_kd (d := Kd.int .i64) rfl _ _ 63 3 _ 8 rfl Try.underlying63 infoInt rfl (.slice Ai is.length ci) is (some ⟨w3.heap.size, 0, none⟩) 1 1 [(k : Int)] rfl rfl HI3a.out rfl HL3.out (fun _ _ h => h) (by unfold maxLen; omega) (by omega) (by rw [World.size_alloc]; have := HS3.out; omega) (fun q hq => trivial) ?_; intro v2 w4 hO4 hg4 hat4; have q4 := (hg4.block bq (by rw [World.size_alloc]; have := HS3.out; omega) (fun e => by have := HVI.out _ e.symm; omega)).trans (blk_al HQ3.out _); have f0 : w4.frozen? ⟨bq, 0, none⟩ = false := blk_free q4 0; have t4 : w4.cell? ⟨bq, 0, none⟩ = some (.slice Az zs.length cz) := blk_cell q4 0; have HQ4 := Lib.hid q4; have HO4 := Lib.hid hO4; have HG4 := Lib.hid hg4; have HAT4 := Lib.hid hat4; clear q4 hO4 hg4 hat4 HI3a HL3))
              have hO3 := HO3.out.al (.cells #[.int .i64 (k : Int)] 3)
              simp only [List.length_append, List.length_cons, List.length_nil, Nat.zero_add] at hO3
              have hO5 := hO3.step (w1 := w4) (fun q hq hs => HG4.out.block q hs (fun e => hq.1 e))
              have hO6 : kRule.Own 51 w4 (bq + 1) (fun q => some q ≠ v2.ownBlock ∧ (q < b ∨ bq + 1 ≤ q)) (.slice Az1 (zs.length + 1) cz1) (zs ++ [rk]) := Kd.Own.mono (fun q hq => ⟨fun e => by
                rcases HAT4.out with h | h
                · rw [h] at e; exact hq.1.1 e
                · rw [h] at e
                  have := hq.2
                  simp only [Option.some.injEq] at e
                  omega, hq.1.2⟩) hO5
              have hs4 := HG4.out.size
              rw [World.size_alloc] at hs4
              have hs3 := HS3.out
              have hwq := HWQ.out
              have hB4 : Below W0.heap.size W0 w4 := (HB3.out.alloc HB3.out.size (.cells #[.int .i64 (k : Int)] 3)).grown HG4.out (by have := HB3.out.size; rw [World.size_alloc]; omega) (fun q hq => by have := HVI.out q hq; omega)
              have hM4 : Marks w4 b S := (HM3.out.bel (below_al (Below.refl _ _) (.cells #[.int .i64 (k : Int)] 3))).grown HG4.out (fun e => by have := HVI.out _ e.symm; omega)
              have hkz : Hid (zs ++ [rk] = keptR rules (k + 1)) := by
                unfold keptR
                rw [HYES.out (by first | exact trivial | rfl), List.map_append, List.map_cons, List.map_nil, HRK.out, hzs.out]
                exact rfl
              have hki : Hid (is ++ [(k : Int)] = keptI rules (k + 1)) := by
                unfold keptI
                rw [HYES.out (by first | exact trivial | rfl), List.map_append, his.out]
                exact rfl
              go_roundw
              case rel =>
                refine ⟨k + 1, _, zs ++ [rk], is ++ [(k : Int)], by omega, by go_num, hkz, hki, by simp; omega, by simp; omega, blk_set (j := 0) HQ4.out _, hB4.setCell (p := ⟨bq, 0, none⟩) (by show W0.heap.size ≤ bq; omega) _, by show bq + 1 ≤ _; rw [World.size_setCell]; omega, hM4.same (Below.heap_setCell _ _ _ _ (by show b ≠ bq; omega)), ?_, hO6.far (p := ⟨bq, 0, none⟩) (fun q hq => by show q ≠ bq; omega) _⟩
                exact HO4.out.shift (plain_int _) (fun q hq => ⟨Below.heap_setCell _ _ _ _ (by show q ≠ bq; have := HO4.out.le q hq; omega), trivial⟩)
              case measure => simp [intOf]; omega
          · obtain rfl : k = rules.length := by omega
            have hzs2 := hzs.out
            have his2 := his.out
            have hHSR := HSR.out
            have hHLS := HLS.out
            rw [← hzs2, ← his2] at hHLS
            rw [← hzs2] at hHSR
            have HSR2 := Lib.hid hHSR
            obtain ⟨hsw, hat⟩ := hHLS
            rw [hsw] at hHSR
            have HAT := Lib.hid hat
            have HSR3 := Lib.hid hHSR
            clear hsw hat hHSR HSR HSR2 HLS hzs his hzs2 his2 HMEM
            obtain ⟨sw, hsw⟩ : ∃ v, saysW ⟨rules, els⟩ dd = v := ⟨_, rfl⟩
            obtain ⟨sa, hsa⟩ : ∃ v, saysAt ⟨rules, els⟩ dd = v := ⟨_, rfl⟩
            obtain ⟨sq, hsq'⟩ : ∃ v, saysAt ⟨zs, els⟩ dd = v := ⟨_, rfl⟩
            rw [hsw, hsa] at HSP
            rw [hsw, hsq'] at HSR3
            rw [hsa, hsq'] at HAT
            clear hsw hsa hsq'
            have hKQ : kPolicy.K wr (fun _ => True) ⟨zs, els⟩ [.slice Az zs.length cz, .int .u32 els] := kPolicy.mono (fun _ _ => trivial) (kPolicy.mk (x := ⟨zs, els⟩) (own_row hOR.out) hpe)
            obtain ⟨-, -, hri⟩ := own_row hOI.out
            have HKQ := Lib.hid hKQ
            have HRI := Lib.hid hri
            have hin := hri.1
            have HBX := Lib.hid hbx.out
            obtain ⟨y0, y1, y2, y3, y4, y5, y6, y7, y8⟩ := HDC.out _ hBq.out
            clear hKQ hri hOR hOI hMq hsq hbx HQ0 HQS HQB HQM
            go_wp2_with fail
            refine (HSP.out wr (HXB.out _ hBq.out)).mono ?_
            rintro e w6 ⟨rfl, hB6⟩
            have HB6 := Lib.hid (below_tr hBq.out hB6)
            have HRI6 := Lib.hid (HRI.out.bel hB6)
            have HKQ6 := Lib.hid (Kd.bel (d := kPolicy) HKQ.out hB6)
            have hbx6 := blk_bel hB6 HBX.out
            have z0 : w6.cell? ⟨bq, 0, none⟩ = some (.slice Az zs.length cz) := blk_cell hbx6 0
            have z1 : w6.cell? ⟨bq, 1, none⟩ = some (.int .u32 els) := blk_cell hbx6 1
            clear hbx6 hB6 x0 x1 y0 y1 y2 y3 y4 y5 y6 y7 y8 HKQ HRI
            obtain ⟨y0, y1, y2, y3, y4, y5, y6, y7, y8⟩ := HDC.out _ HB6.out
            go_wp2_with fail
            refine (HSR3.out _ _ w6 HKQ6.out).mono ?_
            rintro e w7 ⟨rfl, hB7⟩
            have HB7 := Lib.hid (below_tr HB6.out hB7)
            have HRI7 := Lib.hid (HRI6.out.bel hB7)
            clear hB7 y0 y1 y2 y3 y4 y5 y6 y7 y8 z0 z1 HRI6 HKQ6
            rcases HAT.out with ⟨rfl, rfl⟩ | ⟨ka, ia, rfl, rfl, hia⟩
            · go_wp2_with fail
              go_ret
              exact ⟨rfl, by have h := HFIN.out _ HB7.out; first | exact h | (rw [HN.out] at h; exact h)⟩
            · have hial : ia < is.length := (List.getElem?_eq_some_iff.1 hia).1
              obtain ⟨ai, rfl, -, -, u0⟩ := Kd.int_at HRI7.out hial
              have hv : is[ia] = (ka : Int) := (List.getElem?_eq_some_iff.1 hia).2
              rw [hv] at u0
              have hi0 : (0 : Int) ≤ (ia : Int) := by omega
              have hk0 : (0 : Int) ≤ (ka : Int) := by omega
              have hi1 : (ia : Int) < (is.length : Int) := by omega
              clear hv hia
              go_wp2_with fail
              go_ret
              exact ⟨rfl, by have h := HFIN.out _ HB7.out; first | exact h | (rw [HN.out] at h; exact h)⟩
  · have hsv : shadV ⟨rules, els⟩ = [] := by unfold shadV; rw [if_neg h0]
    rw [hsv] at HR5 h5n ⊢
    rw [checkP_bad h0]
    go_wp2_with fail
    go_ret
    exact ⟨rfl, by have h := HFIN.out _ HB5.out; first | exact h | (rw [HN.out] at h; exact h)⟩
end Go.Proofs.Ytiepnnjodmkolaa
