/- The walk of PolicyRight. -/
import Derived.Test.YtiepnnjodmkolaaI4
import Derived.Test.YtiepnnjodmkolaaF1
namespace Go.Proofs.Ytiepnnjodmkolaa
open Go.RowKit Go.Shelf
set_option linter.unusedVariables false
set_option linter.unusedSimpArgs false

set_option maxRecDepth 100000 in
set_option maxHeartbeats 8000000 in
theorem c_rightLaw (x : Policy) (d : Data) (hd : d.wf) (ok : Nat → Prop) (cs : List Value) (w : World) (hx : kPolicy.K w ok x cs) :
    Calls Try.prog 7 #[.agg cs.toArray, d.agg] w fun e w' => e = .returned (.bool true) ∧ Below w.heap.size w w' := by
  obtain ⟨n, hn⟩ : ∃ n, w.heap.size = n := ⟨_, rfl⟩
  have hwf := kPolicy_wf hx
  obtain ⟨A0, c0, rfl, -, hpe⟩ := kPolicy.opn hx
  obtain ⟨rules, els⟩ := x
  have HSAY := Lib.hid (fun cs w hK => c_says ⟨rules, els⟩ d hd ok cs w hK)
  have HSIZ := Lib.hid (fun cs w hK => c_size ⟨rules, els⟩ ok cs w hK)
  have HCOM := Lib.hid (fun cs w hK => c_compile ⟨rules, els⟩ ok cs w hK)
  have hrun := fun (hc : checkP ⟨rules, els⟩ = 0) (hl : (progP ⟨rules, els⟩).length ≤ 64) => run_policy ⟨rules, els⟩ d hd hc hwf.1 hwf.2 hl
  have hchk := fun (hc : checkP ⟨rules, els⟩ = 0) (hl : (progP ⟨rules, els⟩).length ≤ 64) => check_policy ⟨rules, els⟩ hc hl
  have HRUN := Lib.hid hrun
  have HCHK := Lib.hid hchk
  have HVM := Lib.hid (fun l A c ok w hrow hc hr hl => c_run l d hd A c ok w hrow hc hr hl)
  have HKX := Lib.hid hx
  clear hwf hrun hchk hx
  obtain ⟨dd, hdd⟩ : ∃ dd, d = dd := ⟨_, rfl⟩
  have HDD := Lib.hid hdd
  obtain ⟨nr, arch, ip, a0, a1, a2, a3, a4, a5⟩ := d
  have hdagg : dd.agg = .agg #[.int .u32 nr, .int .u32 arch, .int .u64 ip, .int .u64 a0, .int .u64 a1, .int .u64 a2, .int .u64 a3, .int .u64 a4, .int .u64 a5] := by rw [← hdd]; rfl
  rw [hdd] at HSAY HRUN HVM ⊢
  rw [hdagg] at HSAY HVM ⊢
  clear hdagg hdd hd
  simp only at *
  obtain ⟨W0, hW0⟩ : ∃ W, W = ((w.alloc (.cells #[.slice A0 rules.length c0, .int .u32 els] 25)).alloc (.cells #[.int .u32 nr, .int .u32 arch, .int .u64 ip, .int .u64 a0, .int .u64 a1, .int .u64 a2, .int .u64 a3, .int .u64 a4, .int .u64 a5] 47)) := ⟨_, rfl⟩
  have hB0 : Below w.heap.size w W0 := by rw [hW0]; exact below_al (below_al (Below.refl _ _) _) _
  have hP0 : W0.heap[n]? = some (.cells #[.slice A0 rules.length c0, .int .u32 els] 25) := by rw [hW0, ← hn]; exact blk_al (blk_new _ _) _
  have hD0 : W0.heap[n + 1]? = some (.cells #[.int .u32 nr, .int .u32 arch, .int .u64 ip, .int .u64 a0, .int .u64 a1, .int .u64 a2, .int .u64 a3, .int .u64 a4, .int .u64 a5] 47) := by
    rw [hW0, ← hn]
    have h := blk_new (w.alloc (.cells #[.slice A0 rules.length c0, .int .u32 els] 25)) (.cells #[.int .u32 nr, .int .u32 arch, .int .u64 ip, .int .u64 a0, .int .u64 a1, .int .u64 a2, .int .u64 a3, .int .u64 a4, .int .u64 a5] 47)
    rwa [World.size_alloc] at h
  have HW0 := Lib.hid hW0
  have HB0 := Lib.hid hB0
  have HP0 := Lib.hid hP0
  have HD0 := Lib.hid hD0
  have HN := Lib.hid hn
  have HPC : Hid (∀ W, Below W0.heap.size W0 W → W.cell? ⟨n, 0, none⟩ = some (.slice A0 rules.length c0) ∧ W.cell? ⟨n, 1, none⟩ = some (.int .u32 els)) := fun W h => ⟨blk_cell (blk_bel h HP0.out) 0, blk_cell (blk_bel h HP0.out) 1⟩
  have HDC : Hid (∀ W, Below W0.heap.size W0 W → W.cell? ⟨n + 1, 0, none⟩ = some (.int .u32 nr) ∧ W.cell? ⟨n + 1, 1, none⟩ = some (.int .u32 arch) ∧ W.cell? ⟨n + 1, 2, none⟩ = some (.int .u64 ip) ∧ W.cell? ⟨n + 1, 3, none⟩ = some (.int .u64 a0) ∧ W.cell? ⟨n + 1, 4, none⟩ = some (.int .u64 a1) ∧ W.cell? ⟨n + 1, 5, none⟩ = some (.int .u64 a2) ∧ W.cell? ⟨n + 1, 6, none⟩ = some (.int .u64 a3) ∧ W.cell? ⟨n + 1, 7, none⟩ = some (.int .u64 a4) ∧ W.cell? ⟨n + 1, 8, none⟩ = some (.int .u64 a5)) := fun W h => ⟨blk_cell (blk_bel h HD0.out) 0, blk_cell (blk_bel h HD0.out) 1, blk_cell (blk_bel h HD0.out) 2, blk_cell (blk_bel h HD0.out) 3, blk_cell (blk_bel h HD0.out) 4, blk_cell (blk_bel h HD0.out) 5, blk_cell (blk_bel h HD0.out) 6, blk_cell (blk_bel h HD0.out) 7, blk_cell (blk_bel h HD0.out) 8⟩
  have HXB : Hid (∀ W, Below W0.heap.size W0 W → kPolicy.K W ok ⟨rules, els⟩ [.slice A0 rules.length c0, .int .u32 els]) := fun W h => Kd.bel (d := kPolicy) (Kd.bel (d := kPolicy) HKX.out HB0.out) h
  clear hW0 hB0 hP0 hD0
  go_enter Try.func7, Try.ntmps7
  go_wp2_with fail
  rw [← HW0.out]
  clear hn
  refine (c_wakes W0).mono ?_
  rintro e w1 ⟨rfl, hB1'⟩
  have HB1 := Lib.hid hB1'
  clear hB1'
  obtain ⟨x0, x1⟩ := HPC.out _ HB1.out
  go_wp2_with fail
  refine (c_over ⟨rules, els⟩ ok _ w1 (HXB.out _ HB1.out)).mono ?_
  rintro e w2 ⟨rfl, hB2'⟩
  have HB2 := Lib.hid (below_tr HB1.out hB2')
  clear hB2' x0 x1
  generalize hox : overP ⟨rules, els⟩ = ox
  have HOX := Lib.hid hox
  clear hox
  obtain ⟨x0, x1⟩ := HPC.out _ HB2.out
  cases ox with
  | true =>
    go_wp2_with fail
    go_ret
    exact ⟨rfl, by have h := HB0.out.trans (HB2.out.mono HB0.out.size); first | exact h | (rw [HN.out] at h; exact h)⟩
  | false =>
  go_wp2_with fail
  refine (HCOM.out _ w2 (HXB.out _ HB2.out)).mono ?_
  rintro e w3 ⟨v3, rfl, hv3, hB3'⟩
  obtain ⟨A3, c3, e3, -, -, r3⟩ := hv3
  simp only [List.cons.injEq, and_true] at e3
  subst e3
  have HB3 := Lib.hid (below_tr HB2.out hB3')
  have HR3 := Lib.hid r3
  clear hB3' x0 x1 r3
  obtain ⟨x0, x1⟩ := HPC.out _ HB3.out
  obtain ⟨y0, y1, y2, y3, y4, y5, y6, y7, y8⟩ := HDC.out _ HB3.out
  obtain ⟨ce, hce⟩ : ∃ v, compE ⟨rules, els⟩ = v := ⟨_, rfl⟩
  obtain ⟨cl, hcl⟩ : ∃ v, compL ⟨rules, els⟩ = v := ⟨_, rfl⟩
  obtain ⟨sv, hsv⟩ : ∃ v, saysV ⟨rules, els⟩ dd = v := ⟨_, rfl⟩
  obtain ⟨sz, hsz⟩ : ∃ v, (if checkP ⟨rules, els⟩ = 0 then ((progP ⟨rules, els⟩).length : Int) else 0) = v := ⟨_, rfl⟩
  obtain ⟨ck, hck⟩ : ∃ v, checkP ⟨rules, els⟩ = v := ⟨_, rfl⟩
  rw [hce, hcl]
  rw [hcl] at HR3
  have HSAY2 := HSAY.out
  have HSIZ2 := HSIZ.out
  simp only [hsv] at HSAY2
  simp only [hsz, hck] at HSIZ2
  have HSA := Lib.hid HSAY2
  have HSI := Lib.hid HSIZ2
  clear HSAY2 HSIZ2 HSAY HSIZ HCOM
  unfold compE at hce
  unfold compL at hcl
  unfold saysV at hsv
  by_cases h0 : checkP ⟨rules, els⟩ = 0
  · rw [if_pos h0] at hce hcl hsv hsz
    rw [h0] at hck
    subst hck hsv hsz
    by_cases h64 : 64 < (progP ⟨rules, els⟩).length
    · rw [if_pos h64] at hce hcl
      subst hce hcl
      have hl : (progP ⟨rules, els⟩).length ≤ 103 := progP_len h0
      clear HRUN HCHK HVM h0
      generalize (progP ⟨rules, els⟩).length = pl at *
      generalize saysW ⟨rules, els⟩ dd = sw at *
      generalize saysAt ⟨rules, els⟩ dd = sa at *
      go_wp2_with fail
      refine (HSA.out _ w3 (HXB.out _ HB3.out)).mono ?_
      rintro e w4 ⟨rfl, hB4⟩
      have HB4 := Lib.hid (below_tr HB3.out hB4)
      clear hB4 x0 x1 y0 y1 y2 y3 y4 y5 y6 y7 y8
      obtain ⟨x0, x1⟩ := HPC.out _ HB4.out
      go_wp2_with fail
      refine (HSI.out _ w4 (HXB.out _ HB4.out)).mono ?_
      rintro e w5 ⟨rfl, hB5⟩
      have HB5 := Lib.hid (below_tr HB4.out hB5)
      clear hB5 x0 x1
      go_wp2_with fail
      go_ret
      exact ⟨ret_b (decide_eq_true (by omega)), by have h := HB0.out.trans (HB5.out.mono HB0.out.size); first | exact h | (rw [HN.out] at h; exact h)⟩
    · rw [if_neg h64] at hce hcl
      subst hce hcl
      have hr := HRUN.out h0 (by omega)
      have hc := HCHK.out h0 (by omega)
      have hl : (progP ⟨rules, els⟩).length ≤ 64 := by omega
      clear HRUN HCHK h0 h64
      generalize (progP ⟨rules, els⟩) = l at *
      have hvm := fun A c ok w hrow => HVM.out l A c ok w hrow hc hr.1 (by omega)
      rw [hr.2] at hvm
      have HVM2 := Lib.hid hvm
      have HCL := Lib.hid (fun A c ok w hrow => c_checkL A l c ok w hrow)
      have HT : Hid (checkT l = .tuple #[.int .i64 (checkL l).1, .int .i64 0]) := by
        have : checkT l = .tuple #[.int .i64 (checkL l).1, .int .i64 0] := by unfold checkT; rw [hc]
        exact this
      clear hvm hr hc HVM
      generalize saysW ⟨rules, els⟩ dd = sw at *
      generalize saysAt ⟨rules, els⟩ dd = sa at *
      go_wp2_with fail
      refine (HSA.out _ w3 (HXB.out _ HB3.out)).mono ?_
      rintro e w4 ⟨rfl, hB4⟩
      have HB4 := Lib.hid (below_tr HB3.out hB4)
      have HR4 := Lib.hid (HR3.out.bel hB4)
      clear hB4 x0 x1 y0 y1 y2 y3 y4 y5 y6 y7 y8
      obtain ⟨x0, x1⟩ := HPC.out _ HB4.out
      go_wp2_with fail
      refine (HSI.out _ w4 (HXB.out _ HB4.out)).mono ?_
      rintro e w5 ⟨rfl, hB5⟩
      have HB5 := Lib.hid (below_tr HB4.out hB5)
      have HR5 := Lib.hid (HR4.out.bel hB5)
      clear hB5 x0 x1
      go_wp2_with fail
      refine (HCL.out _ _ _ w5 HR5.out).mono ?_
      rintro e w6 ⟨rfl, hB6⟩
      rw [HT.out]
      have HB6 := Lib.hid (below_tr HB5.out hB6)
      have HR6 := Lib.hid (HR5.out.bel hB6)
      clear hB6
      obtain ⟨y0, y1, y2, y3, y4, y5, y6, y7, y8⟩ := HDC.out _ HB6.out
      go_wp2_with fail
      refine (HVM2.out _ _ _ w6 HR6.out).mono ?_
      rintro e w7 ⟨rfl, hB7⟩
      have HB7 := Lib.hid (below_tr HB6.out hB7)
      clear hB7 y0 y1 y2 y3 y4 y5 y6 y7 y8
      go_wp2_with fail
      go_ret
      exact ⟨rfl, by have h := HB0.out.trans (HB7.out.mono HB0.out.size); first | exact h | (rw [HN.out] at h; exact h)⟩
  · rw [if_neg h0] at hce hcl hsv hsz
    rw [checkP_bad h0] at hck
    subst hck hsv hsz hce hcl
    clear HRUN HCHK HVM h0
    go_wp2_with fail
    refine (HSA.out _ w3 (HXB.out _ HB3.out)).mono ?_
    rintro e w4 ⟨rfl, hB4⟩
    have HB4 := Lib.hid (below_tr HB3.out hB4)
    clear hB4 x0 x1 y0 y1 y2 y3 y4 y5 y6 y7 y8
    obtain ⟨x0, x1⟩ := HPC.out _ HB4.out
    go_wp2_with fail
    refine (HSI.out _ w4 (HXB.out _ HB4.out)).mono ?_
    rintro e w5 ⟨rfl, hB5⟩
    have HB5 := Lib.hid (below_tr HB4.out hB5)
    clear hB5 x0 x1
    go_wp2_with fail
    go_ret
    exact ⟨rfl, by have h := HB0.out.trans (HB5.out.mono HB0.out.size); first | exact h | (rw [HN.out] at h; exact h)⟩
end Go.Proofs.Ytiepnnjodmkolaa
