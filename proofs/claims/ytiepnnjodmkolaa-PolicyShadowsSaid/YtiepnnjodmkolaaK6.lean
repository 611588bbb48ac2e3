/- The walk of PolicyShadows. -/
import Derived.Test.YtiepnnjodmkolaaK5
import Derived.Test.YtiepnnjodmkolaaH1
import Derived.Test.YtiepnnjodmkolaaH2
namespace Go.Proofs.Ytiepnnjodmkolaa
open Go.RowKit Go.Shelf
set_option linter.unusedVariables false
set_option linter.unusedSimpArgs false

open Classical in
theorem c_samePolicyD (p q : Policy) (ok ok' : Nat → Prop) (cs ds : List Value) (w : World) (hK : kPolicy.K w ok p cs) (hL : kPolicy.K w ok' q ds) :
    Calls Try.prog 27 #[.agg cs.toArray, .agg ds.toArray] w fun e w' => e = .returned (.bool (decide (p = q))) ∧ Below w.heap.size w w' :=
  (c_samePolicy p q ok ok' cs ds w hK hL).mono (fun e w' ⟨b, h1, h2, h3⟩ => ⟨by rw [h1]; congr 2; rw [Bool.eq_iff_iff, h2]; simp, h3⟩)
set_option maxRecDepth 100000 in
set_option maxHeartbeats 8000000 in
theorem c_shadowsLaw (x y : Policy) (ok ok' : Nat → Prop) (cs ds : List Value) (w : World) (hx : kPolicy.K w ok x cs) (hy : kPolicy.K w ok' y ds) :
    Calls Try.prog 8 #[.agg cs.toArray, .agg ds.toArray] w fun e w' => e = .returned (.bool true) ∧ Below w.heap.size w w' := by
  obtain ⟨n, hn⟩ : ∃ n, w.heap.size = n := ⟨_, rfl⟩
  obtain ⟨A0, c0, rfl, ⟨-, -, hrw⟩, -⟩ := kPolicy.opn hx
  obtain ⟨B0, d0, rfl, ⟨-, -, hrv⟩, -⟩ := kPolicy.opn hy
  have hrn := hrw.1
  have HRW := Lib.hid hrw
  have HKX := Lib.hid hx
  have HKY := Lib.hid hy
  clear hx hy hrw hrv
  have HS1 := Lib.hid (fun ok' ds w h h' => c_samePolicyD x x ok ok' [.slice A0 x.rules.length c0, .int .u32 x.els] ds w h h')
  have HS2 := Lib.hid (fun w h h' => c_samePolicyD x y ok ok' [.slice A0 x.rules.length c0, .int .u32 x.els] [.slice B0 y.rules.length d0, .int .u32 y.els] w h h')
  have HS3 := Lib.hid (fun w h h' => c_samePolicyD y x ok' ok [.slice B0 y.rules.length d0, .int .u32 y.els] [.slice A0 x.rules.length c0, .int .u32 x.els] w h h')
  have hsy : (@decide (y = x) (Classical.propDecidable _)) = (@decide (x = y) (Classical.propDecidable _)) := by rw [decide_eq_decide]; exact eq_comm
  have hsx : (@decide (x = x) (Classical.propDecidable _)) = true := by simp
  rw [hsy] at HS3
  rw [hsx] at HS1
  clear hsy hsx
  generalize (@decide (x = y) (Classical.propDecidable _)) = sb at *
  have HOX := Lib.hid (fun w h => c_over x ok [.slice A0 x.rules.length c0, .int .u32 x.els] w h)
  have HOY := Lib.hid (fun w h => c_over y ok' [.slice B0 y.rules.length d0, .int .u32 y.els] w h)
  have HCP := Lib.hid (fun w h h' => c_copied x ok [.slice A0 x.rules.length c0, .int .u32 x.els] w h h')
  have HSH := Lib.hid (fun ok cs w h => c_shadowed x ok cs w h)
  have HRT := Lib.hid (fun w h => c_right x ok [.slice A0 x.rules.length c0, .int .u32 x.els] w h)
  have HIFF := Lib.hid (rightB_iff x)
  have HSV := Lib.hid (show shadV x = _ from rfl)
  obtain ⟨rules, els⟩ := x
  obtain ⟨rules', els'⟩ := y
  simp only at *
  obtain ⟨W0, hW0⟩ : ∃ W, W = ((w.alloc (.cells #[.slice A0 rules.length c0, .int .u32 els] 25)).alloc (.cells #[.slice B0 rules'.length d0, .int .u32 els'] 25)) := ⟨_, rfl⟩
  have hB0 : Below w.heap.size w W0 := by rw [hW0]; exact below_al (below_al (Below.refl _ _) _) _
  have hP0 : W0.heap[n]? = some (.cells #[.slice A0 rules.length c0, .int .u32 els] 25) := by rw [hW0, ← hn]; exact blk_al (blk_new _ _) _
  have hD0 : W0.heap[n + 1]? = some (.cells #[.slice B0 rules'.length d0, .int .u32 els'] 25) := by
    rw [hW0, ← hn]
    have h := blk_new (w.alloc (.cells #[.slice A0 rules.length c0, .int .u32 els] 25)) (.cells #[.slice B0 rules'.length d0, .int .u32 els'] 25)
    rwa [World.size_alloc] at h
  have HW0 := Lib.hid hW0
  have HB0 := Lib.hid hB0
  have HP0 := Lib.hid hP0
  have HD0 := Lib.hid hD0
  have HN := Lib.hid hn
  have HPC : Hid (∀ W, Below W0.heap.size W0 W → W.cell? ⟨n, 0, none⟩ = some (.slice A0 rules.length c0) ∧ W.cell? ⟨n, 1, none⟩ = some (.int .u32 els) ∧ W.cell? ⟨n + 1, 0, none⟩ = some (.slice B0 rules'.length d0) ∧ W.cell? ⟨n + 1, 1, none⟩ = some (.int .u32 els')) := fun W h => ⟨blk_cell (blk_bel h HP0.out) 0, blk_cell (blk_bel h HP0.out) 1, blk_cell (blk_bel h HD0.out) 0, blk_cell (blk_bel h HD0.out) 1⟩
  have HXB : Hid (∀ W, Below W0.heap.size W0 W → kPolicy.K W ok ⟨rules, els⟩ [.slice A0 rules.length c0, .int .u32 els]) := fun W h => Kd.bel (d := kPolicy) (Kd.bel (d := kPolicy) HKX.out HB0.out) h
  have HYB : Hid (∀ W, Below W0.heap.size W0 W → kPolicy.K W ok' ⟨rules', els'⟩ [.slice B0 rules'.length d0, .int .u32 els']) := fun W h => Kd.bel (d := kPolicy) (Kd.bel (d := kPolicy) HKY.out HB0.out) h
  have HFIN : Hid (∀ W, Below W0.heap.size W0 W → Below w.heap.size w W) := fun W h => HB0.out.trans (h.mono HB0.out.size)
  clear hW0 hB0 hP0 hD0
  go_enter Try.func8, Try.ntmps8
  go_wp2_with fail
  rw [← HW0.out]
  clear hn
  refine (c_wakes W0).mono ?_
  rintro e w1 ⟨rfl, hB1'⟩
  have HB1 := Lib.hid hB1'
  clear hB1'
  obtain ⟨x0, x1, y0, y1⟩ := HPC.out _ HB1.out
  go_wp2_with fail
  refine (HOX.out w1 (HXB.out _ HB1.out)).mono ?_
  rintro e w2 ⟨rfl, hB2'⟩
  have HB2 := Lib.hid (below_tr HB1.out hB2')
  clear hB2' x0 x1 y0 y1
  generalize hox : overP ⟨rules, els⟩ = ox at *
  have HOV := Lib.hid hox
  clear hox
  obtain ⟨x0, x1, y0, y1⟩ := HPC.out _ HB2.out
  cases ox with
  | true =>
    go_wp2_with fail
    go_ret
    exact ⟨rfl, by have h := HFIN.out _ HB2.out; first | exact h | (rw [HN.out] at h; exact h)⟩
  | false =>
  go_wp2_with fail
  refine (HOY.out w2 (HYB.out _ HB2.out)).mono ?_
  rintro e w3 ⟨rfl, hB3'⟩
  have HB3 := Lib.hid (below_tr HB2.out hB3')
  clear hB3' x0 x1 y0 y1
  generalize hoy : overP ⟨rules', els'⟩ = oy at *
  have HOW := Lib.hid hoy
  clear hoy
  obtain ⟨x0, x1, y0, y1⟩ := HPC.out _ HB3.out
  cases oy with
  | true =>
    go_wp2_with fail
    go_ret
    exact ⟨rfl, by have h := HFIN.out _ HB3.out; first | exact h | (rw [HN.out] at h; exact h)⟩
  | false =>
  go_wp2_with fail
  refine (HCP.out w3 (HXB.out _ HB3.out) (by first | exact trivial | rfl)).mono ?_
  rintro e w4 ⟨ds4, rfl, hds4, hB4'⟩
  have HB4 := Lib.hid (below_tr HB3.out hB4')
  have HDS4 := Lib.hid hds4
  clear hB4' hds4 x0 x1 y0 y1
  go_wp2_with fail
  refine (HSH.out _ ds4 w4 HDS4.out).mono ?_
  rintro e w5 ⟨v5, rfl, hv5, hB5'⟩
  have HB5 := Lib.hid (below_tr HB4.out hB5')
  obtain ⟨A5, c5, e5, -, -, r5⟩ := hv5
  simp only [List.cons.injEq, and_true] at e5
  subst e5
  have HR5 := Lib.hid r5
  have h5n := r5.1
  clear hB5' r5
  generalize hsv : shadV ⟨rules, els⟩ = sv at *
  generalize hck : checkP ⟨rules, els⟩ = ck at *
  have HCV := Lib.hid hsv
  have HCK := Lib.hid hck
  clear hsv hck HSV HSH
  have HSB : Hid (∀ w', Below w5.heap.size w5 w' → (fun w' => w'.cell? ⟨n, 0, none⟩ = some (.slice A0 rules.length c0) ∧ w'.cell? ⟨n, 1, none⟩ = some (.int .u32 els) ∧ w'.cell? ⟨n + 1, 0, none⟩ = some (.slice B0 rules'.length d0) ∧ w'.cell? ⟨n + 1, 1, none⟩ = some (.int .u32 els')) w') := fun w' h => HPC.out w' (below_tr HB5.out h)
  have HX5 : Hid (∀ W, Below w5.heap.size w5 W → kPolicy.K W ok ⟨rules, els⟩ [.slice A0 rules.length c0, .int .u32 els]) := fun W h => HXB.out W (below_tr HB5.out h)
  have HY5 : Hid (∀ W, Below w5.heap.size w5 W → kPolicy.K W ok' ⟨rules', els'⟩ [.slice B0 rules'.length d0, .int .u32 els']) := fun W h => HYB.out W (below_tr HB5.out h)
  go_wp2_with fail
  go_region_held3 (fun w' => w'.cell? ⟨n, 0, none⟩ = some (.slice A0 rules.length c0) ∧ w'.cell? ⟨n, 1, none⟩ = some (.int .u32 els) ∧ w'.cell? ⟨n + 1, 0, none⟩ = some (.slice B0 rules'.length d0) ∧ w'.cell? ⟨n + 1, 1, none⟩ = some (.int .u32 els'))
    (first | exact HSB.out _ hb9 | exact HSB.out _ hb8 | exact HSB.out _ hb7 | exact HSB.out _ hb6 | exact HSB.out _ (below_d1 (Below.refl _ _)) | exact HSB.out _ (Below.refl _ _))
    (first
    | (go_at_call 13; (with_reducible refine (HCP.out _ (HX5.out _ (below_d1 (Below.refl _ _))) trivial).mono ?_); rintro e w6 ⟨ds, rfl, hds, hb6'⟩; have hb6 : Below w5.heap.size w5 w6 := undrew hb6')
    | (go_at_call 27; (with_reducible refine (HS2.out _ (HX5.out _ hb7) (HY5.out _ hb7)).mono ?_); rintro e w8 ⟨rfl, hb8'⟩; have hb8 : Below w5.heap.size w5 w8 := below_tr hb7 hb8')
    | (go_at_call 27; (with_reducible refine (HS3.out _ (HY5.out _ hb8) (HX5.out _ hb8)).mono ?_); rintro e w9 ⟨rfl, hb9'⟩; have hb9 : Below w5.heap.size w5 w9 := below_tr hb8 hb9')
    | (go_at_call 27; (with_reducible refine (HS1.out _ _ _ (HX5.out _ hb6) hds).mono ?_); rintro e w7 ⟨rfl, hb7'⟩; have hb7 : Below w5.heap.size w5 w7 := below_tr hb6 hb7'))
  rename_i hHeld
  have HB9 := Lib.hid (below_tr HB5.out hb9)
  have HR9 := Lib.hid (HR5.out.bel hb9)
  clear hHeld hds hb6' hb6 hb7' hb7 hb8' hb8 hb9' hb9 HSB HX5 HY5 HR5
  clear HS1 HS2 HS3 HCP HOX HOY HYB HKY HDS4
  obtain ⟨x0, x1, y0, y1⟩ := HPC.out _ HB9.out
  go_wp2_with fail
  refine (HRT.out w9 (HXB.out _ HB9.out)).mono ?_
  rintro e w10 ⟨rfl, hB10⟩
  have HB10 := Lib.hid (below_tr HB9.out hB10)
  have HR10 := Lib.hid (HR9.out.bel hB10)
  clear hB10 HR9 x0 x1 y0 y1
  obtain ⟨x0, x1, -, -⟩ := HPC.out _ HB10.out
  generalize hrb : rightB ⟨rules, els⟩ = rb at *
  have HRB := Lib.hid hrb
  clear hrb
  cases rb with
  | false =>
    have hne : checkP ⟨rules, els⟩ ≠ 0 := fun h => by
      have h2 := HIFF.out.2 (HCK.out.symm.trans h)
      simp at h2
    have h330 := HCK.out.symm.trans (checkP_bad hne)
    have hsl : sv = [] := by rw [← HCV.out]; unfold shadV; rw [if_neg hne]
    subst h330 hsl
    go_wp2_with fail
    go_ret
    exact ⟨rfl, by have h := HFIN.out _ HB10.out; first | exact h | (rw [HN.out] at h; exact h)⟩
  | true =>
    have h0 : ck = 0 := HIFF.out.1 (by first | exact trivial | rfl)
    have hc0 : checkP ⟨rules, els⟩ = 0 := HCK.out.trans h0
    have hsl : Hid (sv = shadL rules rules.length) := by rw [← HCV.out]; unfold shadV; rw [if_pos hc0]; exact rfl
    have hr6 := (checkP_ok hc0).2
    simp only at hr6
    have hsvl : sv.length ≤ 6 := by rw [hsl.out]; exact Nat.le_trans (shadL_len _ _) hr6
    clear hc0
    subst h0
    go_wp2_with fail
    go_loopw [7, 8, 9, 52, 56] (fun v _ _ i _ wr => ∃ (k : Nat) (zs : List Int), k ≤ rules.length ∧ i = .int .i64 k ∧ Hid (zs = shadL rules k) ∧ zs.length ≤ k ∧ Below w10.heap.size w10 wr ∧ (Kd.int .i64).Own 3 wr w10.heap.size (fun q => w10.heap.size ≤ q) v zs) (fun _ _ _ i _ _ => rules.length - (intOf i).toNat)
    case atStart => exact ⟨0, [], Nat.zero_le _, rfl, rfl, by simp, Below.refl _ _, Kd.Own.nil _ _ _ _ _⟩
    case round =>
      obtain ⟨k, zs, hk, rfl, hzs, hzl, hB, hO⟩ := hrel
      obtain ⟨Av, cv, rfl, -, -⟩ := hO.form
      have HBk := Lib.hid hB
      have HOk := Lib.hid hO
      clear hB hO
      clear x0 x1
      by_cases hlt : k < rules.length
      · have HY := Lib.hid (shadL_yes hlt)
        have HNO := Lib.hid (shadL_no hlt)
        have hk0 : (0 : Int) ≤ (k : Int) := by omega
        have hk1 : (k : Int) < (rules.length : Int) := by omega
        go_wp2_with fail
        go_loopw [7, 9, 56] (fun v _ i wq => ∃ (m : Nat), m ≤ k ∧ v = .slice Av zs.length cv ∧ i = .int .i64 m ∧ Below wr.heap.size wr wq ∧ Hid (∀ j (hj : j < rules.length), j < m → shadR rules[j] rules[k] = false)) (fun _ _ i _ => k - (intOf i).toNat)
        case atStart => exact ⟨0, Nat.zero_le _, rfl, rfl, Below.refl _ _, fun j _ hj => absurd hj (Nat.not_lt_zero _)⟩
        case round =>
          obtain ⟨m, hm, rfl, rfl, hBq, hnoq⟩ := hrel
          have HBQ := Lib.hid hBq
          clear hBq
          by_cases hltm : m < k
          · have hltr : m < rules.length := by omega
            have HBA := Lib.hid (below_tr HB10.out (below_tr HBk.out HBQ.out))
            have hrow := HRW.out.bel (HFIN.out _ HBA.out)
            have HKq := Lib.hid (kRule.at_ hrow hlt)
            obtain ⟨ad, C0, e0, C3, e3, rfl, hok, ⟨g0, g1, g2, g3, g4⟩, a0, a1, a2, a3, a4⟩ := kRule.at_ hrow hltr
            obtain ⟨ad', D0, f0, D3, f3, had, hok', ⟨i0, i1, i2, i3, i4⟩, b0, b1, b2, b3, b4⟩ := HKq.out
            simp only [Option.some.injEq] at had
            subst had
            have HKX1 := Lib.hid (kRule.mk (x := rules[m]) g0 g1 g2 g3 g4)
            have HKX2 := Lib.hid (kRule.mk (x := rules[k]) i0 i1 i2 i3 i4)
            have hm0 : (0 : Int) ≤ (m : Int) := by omega
            have hm1 : (m : Int) < (rules.length : Int) := by omega
            have q03 := g0.2.2.1
            have q33 := g3.2.2.1
            have q13 := i0.2.2.1
            have q43 := i3.2.2.1
            obtain ⟨x0, x1, -, -⟩ := HPC.out _ HBA.out
            have HSHD := Lib.hid (c_refShadows rules[m] rules[k] ok ok [.slice C0 rules[m].archs.length e0, .int .u32 rules[m].lo, .int .u32 rules[m].hi, .slice C3 rules[m].tests.length e3, .int .u32 rules[m].word] [.slice D0 rules[k].archs.length f0, .int .u32 rules[k].lo, .int .u32 rules[k].hi, .slice D3 rules[k].tests.length f3, .int .u32 rules[k].word])
            have hyes : Hid (shadR rules[m] rules[k] = true → shadL rules (k + 1) = shadL rules k ++ [(k : Int)]) := fun h => HY.out (List.any_eq_true.2 ⟨_, List.mem_take_iff_getElem.2 ⟨m, by omega, rfl⟩, h⟩)
            have hno2 : Hid (shadR rules[m] rules[k] = false → ∀ j (hj : j < rules.length), j < m + 1 → shadR rules[j] rules[k] = false) := fun h j hj hjm => by
              rcases Nat.lt_succ_iff_lt_or_eq.1 hjm with h' | rfl
              · exact hnoq.out j hj h'
              · exact h
            have hcells : Hid (∀ W, Below wr.heap.size wr W → True) := fun _ _ => trivial
            clear hnoq HY HNO g0 g3 i0 i3 HKq hcells hrow
            generalize rules[m] = rm at *
            generalize rules[k] = rk at *
            have HSB : Hid (∀ w', Below wr.heap.size wr w' → (fun w' => w'.cell? ⟨n, 0, none⟩ = some (.slice (some ad) rules.length c0) ∧ w'.cell? (ad.add (m * 5)) = some (.slice C0 rm.archs.length e0) ∧ w'.cell? ⟨(ad.add (m * 5)).block, (ad.add (m * 5)).off + 1, none⟩ = some (.int .u32 rm.lo) ∧ w'.cell? ⟨(ad.add (m * 5)).block, (ad.add (m * 5)).off + 2, none⟩ = some (.int .u32 rm.hi) ∧ w'.cell? ⟨(ad.add (m * 5)).block, (ad.add (m * 5)).off + 3, none⟩ = some (.slice C3 rm.tests.length e3) ∧ w'.cell? ⟨(ad.add (m * 5)).block, (ad.add (m * 5)).off + 4, none⟩ = some (.int .u32 rm.word) ∧ w'.cell? (ad.add (k * 5)) = some (.slice D0 rk.archs.length f0) ∧ w'.cell? ⟨(ad.add (k * 5)).block, (ad.add (k * 5)).off + 1, none⟩ = some (.int .u32 rk.lo) ∧ w'.cell? ⟨(ad.add (k * 5)).block, (ad.add (k * 5)).off + 2, none⟩ = some (.int .u32 rk.hi) ∧ w'.cell? ⟨(ad.add (k * 5)).block, (ad.add (k * 5)).off + 3, none⟩ = some (.slice D3 rk.tests.length f3) ∧ w'.cell? ⟨(ad.add (k * 5)).block, (ad.add (k * 5)).off + 4, none⟩ = some (.int .u32 rk.word)) w') := fun w' h => ⟨cell_bel h x0, cell_bel h a0, cell_bel h a1, cell_bel h a2, cell_bel h a3, cell_bel h a4, cell_bel h b0, cell_bel h b1, cell_bel h b2, cell_bel h b3, cell_bel h b4⟩
            generalize shadR rm rk = sh at *
            clear hok hok' g1 g2 g4 i1 i2 i4 x1
            go_wp2_with fail
            go_region_held3 (fun w' => w'.cell? ⟨n, 0, none⟩ = some (.slice (some ad) rules.length c0) ∧ w'.cell? (ad.add (m * 5)) = some (.slice C0 rm.archs.length e0) ∧ w'.cell? ⟨(ad.add (m * 5)).block, (ad.add (m * 5)).off + 1, none⟩ = some (.int .u32 rm.lo) ∧ w'.cell? ⟨(ad.add (m * 5)).block, (ad.add (m * 5)).off + 2, none⟩ = some (.int .u32 rm.hi) ∧ w'.cell? ⟨(ad.add (m * 5)).block, (ad.add (m * 5)).off + 3, none⟩ = some (.slice C3 rm.tests.length e3) ∧ w'.cell? ⟨(ad.add (m * 5)).block, (ad.add (m * 5)).off + 4, none⟩ = some (.int .u32 rm.word) ∧ w'.cell? (ad.add (k * 5)) = some (.slice D0 rk.archs.length f0) ∧ w'.cell? ⟨(ad.add (k * 5)).block, (ad.add (k * 5)).off + 1, none⟩ = some (.int .u32 rk.lo) ∧ w'.cell? ⟨(ad.add (k * 5)).block, (ad.add (k * 5)).off + 2, none⟩ = some (.int .u32 rk.hi) ∧ w'.cell? ⟨(ad.add (k * 5)).block, (ad.add (k * 5)).off + 3, none⟩ = some (.slice D3 rk.tests.length f3) ∧ w'.cell? ⟨(ad.add (k * 5)).block, (ad.add (k * 5)).off + 4, none⟩ = some (.int .u32 rk.word))
              (first | exact HSB.out _ hb11 | exact HSB.out _ (below_d1 (Below.refl _ _)) | exact HSB.out _ (Below.refl _ _))
              (first
              | (go_at_call 28; (with_reducible refine (HSHD.out _ (Kd.bel (d := kRule) HKX1.out (below_d1 (Below.refl _ _))) (Kd.bel (d := kRule) HKX2.out (below_d1 (Below.refl _ _)))).mono ?_); rintro e w11 ⟨rfl, hb11'⟩; have hb11 : Below wr.heap.size wr w11 := undrew hb11'))
            rename_i hHeld
            have HBQ2 := Lib.hid (below_tr HBQ.out hb11)
            clear hHeld hb11' hb11 HSB HBQ HBA x0 a0 a1 a2 a3 a4 b0 b1 b2 b3 b4 HKX1 HKX2 HSHD
            cases sh with
            | false =>
              go_wp2_with fail
              go_roundw
              case rel => exact ⟨m + 1, by omega, rfl, by go_num, HBQ2.out, hno2.out (by first | exact trivial | rfl)⟩
              case measure => simp [intOf]; omega
            | true =>
              have HBR := Lib.hid (below_tr HBk.out HBQ2.out)
              have HOR := Lib.hid (HOk.out.bel HBQ2.out)
              have hO3 := HOR.out.al (.cells #[.int .i64 k] 3)
              have hlit := int_lit (w := w11) (e := 3) (x := (k : Int)) (by show (-9223372036854775808 : Int) ≤ k ∧ (k : Int) < 9223372036854775808; omega)
              have hsw := HBR.out.size
              have hzs' : Hid (zs ++ [(k : Int)] = shadL rules (k + 1)) := by rw [hyes.out (by first | exact trivial | rfl), hzs.out]; exact rfl
              clear hyes hno2
              go_wp2_with (at_builtin; refine wp_append_kd rfl _ _ 63 3 _ 8 rfl Try.underlying63 infoInt rfl (.slice Av zs.length cv) zs (some ⟨w11.heap.size, 0, none⟩) 1 1 [(k : Int)] rfl rfl hO3 rfl hlit (fun _ _ h => h) (by unfold maxLen; omega) (by omega) (by simp; omega) (fun q hq => by simp at hq; omega) ?_; intro v1 w12 hO4 hg4 hat4)
              have hB4 : Below w10.heap.size w10 w12 := (HBR.out.alloc (by omega) _).grown hg4 (by simp; omega) (fun q hq => HOR.out.le q hq)
              go_roundw
              case rel => exact ⟨k + 1, _, by omega, by go_num, hzs', by simp; omega, hB4, hO4⟩
              case measure => simp [intOf]; omega
          · obtain rfl : m = k := by omega
            have hany : ((rules.take m).any fun r => shadR r rules[m]) = false := by
              rw [List.any_eq_false]
              intro y hy
              obtain ⟨i, hi, rfl⟩ := List.getElem_of_mem hy
              rw [List.length_take] at hi
              rw [List.getElem_take, hnoq.out i (by omega) (by omega)]
              simp
            have hzs' : Hid (zs = shadL rules (m + 1)) := by rw [HNO.out hany]; exact hzs
            have HBR := Lib.hid (below_tr HBk.out HBQ.out)
            have HOR := Lib.hid (HOk.out.bel HBQ.out)
            clear hany hnoq HY HNO
            go_wp2_with fail
            go_roundw
            case rel => exact ⟨m + 1, zs, by omega, by go_num, hzs', by omega, HBR.out, HOR.out⟩
            case measure => simp [intOf]; omega
      · obtain rfl : k = rules.length := by omega
        have hzz : zs = sv := hzs.out.trans hsl.out.symm
        subst hzz
        obtain ⟨_, _, ek, -, -, rk⟩ := HOk.out.K
        simp only [List.cons.injEq, Value.slice.injEq, and_true] at ek
        obtain ⟨rfl, -, rfl⟩ := ek
        have RW := Lib.hid rk
        have RS := Lib.hid (HR10.out.bel HBk.out)
        clear rk HOk HR10
        clear hsl hzs
        go_wp2_with fail
        go_loopw [10, 87] (fun _ i wq => ∃ (m : Nat), m ≤ zs.length ∧ i = .int .i64 m ∧ Below wr.heap.size wr wq) (fun _ i _ => zs.length - (intOf i).toNat)
        case atStart => exact ⟨0, Nat.zero_le _, rfl, Below.refl _ _⟩
        case round =>
          obtain ⟨m, hm, rfl, hBq⟩ := hrel
          by_cases hltm : m < zs.length
          · obtain ⟨ad, rfl, -, -, a0⟩ := Kd.int_at (RW.out.bel hBq) hltm
            obtain ⟨bd, rfl, -, -, b0⟩ := Kd.int_at (RS.out.bel hBq) hltm
            have hm0 : (0 : Int) ≤ (m : Int) := by omega
            have hm1 : (m : Int) < (zs.length : Int) := by omega
            generalize zs[m] = v at *
            have HBQ := Lib.hid hBq
            clear hBq
            go_wp2_with fail
            go_quiet (fail)
            go_wp2_with fail
            go_roundw
            case rel => exact ⟨m + 1, by omega, by go_num, below_dN HBQ.out nq⟩
            case measure => simp [intOf]; omega
          · obtain rfl : m = zs.length := by omega
            have HE := Lib.hid (HFIN.out _ (below_tr HB10.out (below_tr HBk.out hBq)))
            clear hBq
            go_wp2_with fail
            go_ret
            exact ⟨rfl, by have h := HE.out; first | exact h | (rw [HN.out] at h; exact h)⟩
end Go.Proofs.Ytiepnnjodmkolaa
