/- The walk of PolicyPrograms. -/
import Derived.Test.YtiepnnjodmkolaaH1
import Derived.Test.YtiepnnjodmkolaaH5
import Derived.Test.YtiepnnjodmkolaaH6
namespace Go.Proofs.Ytiepnnjodmkolaa
open Go.RowKit Go.Shelf
set_option linter.unusedVariables false
set_option linter.unusedSimpArgs false

set_option maxRecDepth 100000 in
set_option maxHeartbeats 8000000 in
theorem c_programs (x : Policy) (ok : Nat → Prop) (cs : List Value) (w : World) (hx : kPolicy.K w ok x cs) :
    Calls Try.prog 3 #[.agg cs.toArray] w fun e w' => e = .returned (.bool true) ∧ Below w.heap.size w w' := by
  have hB0 : Below w.heap.size w (w.alloc (.cells cs.toArray 25)) := below_al (Below.refl _ _) _
  have hR0 : (w.alloc (.cells cs.toArray 25)).heap[w.heap.size]? = some (.cells cs.toArray 25) := blk_new _ _
  obtain ⟨A0, c0, rfl, -, -⟩ := kPolicy.opn hx
  obtain ⟨rx, ex⟩ := x
  simp only at *
  have hX := Kd.bel (d := kPolicy) hx hB0
  clear hx
  obtain ⟨n, hn⟩ : ∃ n, w.heap.size = n := ⟨_, rfl⟩
  rw [hn] at hR0
  go_enter Try.func3, Try.ntmps3
  go_wp2_with fail
  generalize (w.alloc (.cells #[.slice A0 rx.length c0, .int .u32 ex] 25)) = W0 at *
  have HX := Lib.hid hX
  have HRX := Lib.hid hR0
  have HB0 := Lib.hid hB0
  have HN := Lib.hid hn
  clear hX hR0 hB0 hn
  have HP : Hid (∀ W, Below W0.heap.size W0 W → W.cell? ⟨n, 0, none⟩ = some (.slice A0 rx.length c0) ∧ W.cell? ⟨n, 1, none⟩ = some (.int .u32 ex)) := fun W h => ⟨blk_cell (blk_bel h HRX.out) 0, blk_cell (blk_bel h HRX.out) 1⟩
  refine (c_wakes W0).mono ?_
  rintro e w1 ⟨rfl, hB1'⟩
  have HB1 := Lib.hid hB1'
  clear hB1'
  obtain ⟨x0, x1⟩ := HP.out _ HB1.out
  go_wp2_with fail
  refine (c_over ⟨rx, ex⟩ ok _ w1 (Kd.bel (d := kPolicy) HX.out HB1.out)).mono ?_
  rintro e w2 ⟨rfl, hB2'⟩
  have HB2 := Lib.hid (below_tr HB1.out hB2')
  clear hB2' x0 x1
  obtain ⟨x0, x1⟩ := HP.out _ HB2.out
  generalize hox : overP ⟨rx, ex⟩ = ox
  have HOX := Lib.hid hox
  clear hox
  cases ox with
  | true =>
    go_wp2_with fail
    go_ret
    exact ⟨rfl, HB0.out.trans (HB2.out.mono HB0.out.size)⟩
  | false =>
  go_wp2_with fail
  refine (c_copied ⟨rx, ex⟩ ok _ w2 (Kd.bel (d := kPolicy) HX.out HB2.out) HOX.out).mono ?_
  rintro e w3 ⟨ds, rfl, hds, hB3'⟩
  have HB3 := Lib.hid (below_tr HB2.out hB3')
  have HDS := Lib.hid hds
  clear hB3' x0 x1 hds
  go_wp2_with fail
  refine (c_size ⟨rx, ex⟩ _ ds w3 HDS.out).mono ?_
  rintro e w4 ⟨rfl, hB4'⟩
  have HB4 := Lib.hid (below_tr HB3.out hB4')
  generalize hsz : (if checkP ⟨rx, ex⟩ = 0 then ((progP ⟨rx, ex⟩).length : Int) else 0) = sz
  generalize hck : checkP ⟨rx, ex⟩ = ck
  have HSZ := Lib.hid hsz
  have HCK := Lib.hid hck
  clear hB4' HDS hsz hck
  obtain ⟨x0, x1⟩ := HP.out _ HB4.out
  go_wp2_with fail
  refine (c_copied ⟨rx, ex⟩ ok _ w4 (Kd.bel (d := kPolicy) HX.out HB4.out) HOX.out).mono ?_
  rintro e w5 ⟨ds5, rfl, hds, hB5'⟩
  have HB5 := Lib.hid (below_tr HB4.out hB5')
  have HDS := Lib.hid hds
  clear hB5' x0 x1 hds
  go_wp2_with fail
  refine (c_compile ⟨rx, ex⟩ _ ds5 w5 HDS.out).mono ?_
  rintro e w6 ⟨v6, rfl, hv6, hB6'⟩
  generalize hce : compE ⟨rx, ex⟩ = ce
  generalize hcl : compL ⟨rx, ex⟩ = cl at hv6
  have HCE := Lib.hid hce
  have HCL := Lib.hid hcl
  clear hce hcl
  have HB6 := Lib.hid (below_tr HB5.out hB6')
  obtain ⟨A6, c6, e6, l6, m6, r6⟩ := hv6
  simp only [List.cons.injEq, and_true] at e6
  subst e6
  have R6 := Lib.hid r6
  clear hB6' HDS r6 l6 m6
  obtain ⟨x0, x1⟩ := HP.out _ HB6.out
  go_wp2_with fail
  refine (c_right ⟨rx, ex⟩ ok _ w6 (Kd.bel (d := kPolicy) HX.out HB6.out)).mono ?_
  rintro e w7 ⟨rfl, hB7'⟩
  have HB7 := Lib.hid (below_tr HB6.out hB7')
  have R7 := Lib.hid (R6.out.bel hB7')
  clear hB7' x0 x1 R6
  obtain ⟨x0, x1⟩ := HP.out _ HB7.out
  have hrc := rightB_iff ⟨rx, ex⟩
  have hsz := HSZ.out
  have hce := HCE.out
  have hcl := HCL.out
  have hck := HCK.out
  by_cases h0 : checkP ⟨rx, ex⟩ = 0
  · rw [hrc.2 h0]
    obtain ⟨hbad, hlen⟩ := checkP_ok h0
    have hl := progP_len h0
    have hpos : 1 ≤ (progP ⟨rx, ex⟩).length := by simp [progP]
    by_cases h64 : 64 < (progP ⟨rx, ex⟩).length
    · have e1 : compL ⟨rx, ex⟩ = [] := by unfold compL; rw [if_pos h0, if_pos h64]
      have e2 : compE ⟨rx, ex⟩ = 3 := by unfold compE; rw [if_pos h0, if_pos h64]
      rw [if_pos h0] at hsz
      rw [e2] at hce
      rw [e1] at hcl
      rw [h0] at hck
      subst hsz hce hcl hck
      have HRP := Lib.hid (c_refProgram ⟨rx, ex⟩ ok _ w7 (Kd.bel (d := kPolicy) HX.out HB7.out) hbad hlen)
      generalize (progP ⟨rx, ex⟩) = l at *
      clear e1 e2 h0 hrc hbad hlen HSZ HCE HCL HCK
      go_wp2_with fail
      refine HRP.out.mono ?_
      rintro e w8 ⟨v8, rfl, hv8, hB8'⟩
      obtain ⟨A8, c8, e8, -, -, r8⟩ := hv8
      simp only [List.cons.injEq, and_true] at e8
      subst e8
      have HB8 := Lib.hid (below_tr HB7.out hB8')
      clear hB8' r8
      go_wp2_with fail
      go_ret
      exact ⟨rfl, HB0.out.trans (HB8.out.mono HB0.out.size)⟩
    · have e1 : compL ⟨rx, ex⟩ = progP ⟨rx, ex⟩ := by unfold compL; rw [if_pos h0, if_neg h64]
      have e2 : compE ⟨rx, ex⟩ = 0 := by unfold compE; rw [if_pos h0, if_neg h64]
      rw [if_pos h0] at hsz
      rw [e2] at hce
      rw [e1] at hcl
      rw [h0] at hck
      subst hsz hce hcl hck
      have HRP := Lib.hid (c_refProgram ⟨rx, ex⟩ ok _ w7 (Kd.bel (d := kPolicy) HX.out HB7.out) hbad hlen)
      generalize (progP ⟨rx, ex⟩) = l at *
      clear e1 e2 h0 hrc hbad hlen HSZ HCE HCL HCK
      go_wp2_with fail
      refine HRP.out.mono ?_
      rintro e w8 ⟨v8, rfl, hv8, hB8'⟩
      obtain ⟨A8, c8, e8, -, -, r8⟩ := hv8
      simp only [List.cons.injEq, and_true] at e8
      subst e8
      have HB8 := Lib.hid (below_tr HB7.out hB8')
      have HSA := Lib.hid (c_same A6 A8 c6 c8 l _ _ w8 (R7.out.bel hB8') r8)
      clear hB8' r8
      go_wp2_with fail
      refine HSA.out.mono ?_
      rintro e w9 ⟨rfl, hB9⟩
      have HB9 := Lib.hid (below_tr HB8.out hB9)
      clear hB9
      go_wp2_with fail
      go_ret
      exact ⟨rfl, HB0.out.trans (HB9.out.mono HB0.out.size)⟩
  · have hrf : rightB ⟨rx, ex⟩ = false := by
      cases hb : rightB ⟨rx, ex⟩ with
      | false => rfl
      | true => exact absurd (hrc.1 hb) h0
    have e1 : compL ⟨rx, ex⟩ = [] := by unfold compL; rw [if_neg h0]
    have e2 : compE ⟨rx, ex⟩ = 330 := by unfold compE; rw [if_neg h0]
    rw [if_neg h0] at hsz
    rw [e2] at hce
    rw [e1] at hcl
    rw [checkP_bad h0] at hck
    subst hsz hce hcl hck
    rw [hrf]
    clear e1 e2 h0 hrc hrf HSZ HCE HCL HCK
    go_wp2_with fail
    go_ret
    exact ⟨rfl, HB0.out.trans (HB7.out.mono HB0.out.size)⟩
end Go.Proofs.Ytiepnnjodmkolaa
