/- The walk of the reference's Program. -/
import Derived.Test.YtiepnnjodmkolaaH3
import Derived.Test.YtiepnnjodmkolaaH4
import Derived.Test.YtiepnnjodmkolaaD6
import Derived.Deep.Cut
namespace Go.Proofs.Ytiepnnjodmkolaa
open Go.RowKit Go.Shelf
set_option linter.unusedVariables false
set_option linter.unusedSimpArgs false

def testsTo (l : List Test) (j : Nat) : List Insn := (l.zipIdx.take j).flatMap fun p => testR l.length p.2 p.1
theorem testsTo_all (l : List Test) : testsTo l l.length = testsR l := by
  unfold testsTo testsR
  rw [List.take_of_length_le (by simp)]
theorem testsTo_step (l : List Test) (j : Nat) (hj : j < l.length) : testsTo l (j + 1) = testsTo l j ++ testR l.length j l[j] := by
  unfold testsTo
  rw [List.take_succ_eq_append_getElem (by simpa using hj), List.flatMap_append]
  simp
theorem refR_len (r : Rule) (ha : r.archs.length ≤ 2) (ht : r.tests.length ≤ 3) : (refR r).length ≤ 17 := by
  rw [refR_eq r ha ht]
  have h2 := ofR_length r
  have h3 := archBlk_len r.archs
  omega
set_option maxRecDepth 100000 in
set_option maxHeartbeats 16000000 in
theorem c_refProgram (x : Policy) (ok : Nat → Prop) (cs : List Value) (w : World) (hK : kPolicy.K w ok x cs) (hbad : x.rules.any ruleBad = false) (hlen : x.rules.length ≤ 6) :
    Calls Try.prog 16 #[.agg cs.toArray] w fun e w' => ∃ v, e = .returned v ∧ kInsn.slice.K w' (fun k => w.heap.size ≤ k) (progP x) [v] ∧ Below w.heap.size w w' := by
  obtain ⟨A0, c0, rfl, ⟨l0, m0, r0⟩, g1⟩ := kPolicy.opn hK
  obtain ⟨rules, els⟩ := x
  simp only at *
  have HBad := Lib.hid hbad
  obtain ⟨n, hsz⟩ : ∃ n, w.heap.size = n := ⟨_, rfl⟩
  obtain ⟨bx0, hst, hbn, -⟩ := St.more' (bx := fun _ => none) (w := w) (n := n) (v := .slice none 0 0) (xs := []) ⟨hsz, Below.refl _ _, fun b o h => (by cases h), Kd.Own.nil _ _ _ _ _⟩ (.cells #[.slice A0 rules.length c0, .int .u32 els] 25) n hsz
  have HST := Lib.hid hst
  have HBN := Lib.hid hbn
  have HSZ := Lib.hid hsz
  have HR0 := Lib.hid r0
  clear hst hbad hK l0 m0 r0 hsz hbn
  go_enter Try.func16, Try.ntmps16
  go_wp2_with fail
  have e0 := HSZ.out
  generalize (w.alloc (.cells #[.slice A0 rules.length c0, .int .u32 els] 25)) = W1 at *
  rw [e0]
  clear e0
  go_loopw [3, 4, 5, 6, 7, 8, 9] (fun v i _ _ _ _ _ wr => ∃ (k : Nat) (zs : List Insn), k ≤ rules.length ∧ i = .int .i64 k ∧ Hid (zs = (rules.take k).flatMap refR) ∧ zs.length ≤ 102 ∧ Hid (St w n bx0 wr v zs)) (fun _ i _ _ _ _ _ _ => rules.length - (intOf i).toNat)
  case atStart => exact ⟨0, [], Nat.zero_le _, rfl, rfl, by simp, HST.out⟩
  case round =>
    obtain ⟨k, zs, hk, rfl, hzs, hzl, hS⟩ := hrel
    obtain ⟨Av, cv, rfl, -, -⟩ := hS.out.own.form
    have p0 : wr.cell? ⟨n, 0, none⟩ = some (.slice A0 rules.length c0) := hS.out.cell HBN.out rfl
    by_cases hlt : k < rules.length
    · obtain ⟨ad, B0, d0, B3, d3, rfl, hok, ⟨h0, h1, h2, h3, h4⟩, e0', e1', e2', e3', e4'⟩ := kRule.at_ HR0.out hlt
      have hbw := hS.out.bel
      rw [← HSZ.out] at hbw
      have e0 := cell_bel hbw e0'
      have e1 := cell_bel hbw e1'
      have e2 := cell_bel hbw e2'
      have e3 := cell_bel hbw e3'
      have e4 := cell_bel hbw e4'
      clear e0' e1' e2' e3' e4'
      have hrb := any_get HBad.out hlt
      simp only [ruleBad, Bool.or_eq_false_iff, decide_eq_false_iff_not] at hrb
      obtain ⟨⟨⟨hra, hrl⟩, hrt⟩, hrtb⟩ := hrb
      obtain ⟨r, hr⟩ : ∃ r, rules[k] = r := ⟨_, rfl⟩
      rw [hr] at h0 h1 h2 h3 h4 e0 e1 e2 e3 e4 hra hrt hrtb
      have HRK := Lib.hid hr
      clear hrl hbw
      have HRTB := Lib.hid hrtb
      have HKR := Lib.hid (kRule.mk (x := r) h0 h1 h2 h3 h4)
      obtain ⟨archs, lo, hi, tests, word⟩ := r
      simp only at h0 h1 h2 h3 h4 e0 e1 e2 e3 e4 hra hrt
      have HRA := Lib.hid h0.2.2
      have HRT := Lib.hid h3.2.2
      have hra' : archs.length ≤ 2 := by omega
      have hrt' : tests.length ≤ 3 := by omega
      have hzk : zs.length ≤ 85 := by
        have h := flat_length (any_take HBad.out k)
        rw [hzs.out, flat_ref (any_take HBad.out k)]
        have : (rules.take k).length ≤ 5 := by rw [List.length_take]; omega
        omega
      clear hr hrtb h0 h3 hra hrt
      obtain ⟨m, hm⟩ : ∃ m, wr.heap.size = m := ⟨_, rfl⟩
      obtain ⟨bx1, hS1, hbm, hdown⟩ := St.more' hS.out (.cells #[.slice B0 archs.length d0, .int .u32 lo, .int .u32 hi, .slice B3 tests.length d3, .int .u32 word] 51) m hm
      have HS0 := Lib.hid hS1
      have HBM := Lib.hid hbm
      have HDN := Lib.hid hdown
      have HM := Lib.hid hm
      clear hS1 hbm hdown hm
      rcases Nat.lt_or_ge 0 archs.length with hap | hap
      ·
        go_wp2_with fail
        have hm := HM.out
        simp only [hm]
        clear hm e0 e1 e2 e3 e4 p0
        generalize (wr.alloc (.cells #[.slice B0 archs.length d0, .int .u32 lo, .int .u32 hi, .slice B3 tests.length d3, .int .u32 word] 51)) = W5 at *
        refine (c_length ⟨archs, lo, hi, tests, word⟩ ok _ W5 (Kd.bel (d := kRule) HKR.out (by rw [HSZ.out]; exact HS0.out.bel)) (by show archs.length ≤ 1000; omega) (by show tests.length ≤ 1000; omega)).mono ?_
        rintro e W6 ⟨rfl, hB6⟩
        have HS := Lib.hid (HS0.out.call hB6)
        clear HS0 hB6
        have q0 : W6.cell? ⟨m, 0, none⟩ = some (.slice B0 archs.length d0) := HS.out.cell HBM.out rfl
        have hL : lenR ⟨archs, lo, hi, tests, word⟩ = 4 + 3 * tests.length + (if archs.length = 0 then 0 else 2 + archs.length) := rfl
        generalize lenR ⟨archs, lo, hi, tests, word⟩ = L at *
        have hLb : L ≤ 20 := by rw [hL]; split <;> omega
        have HL := Lib.hid hL
        clear hL
        obtain ⟨E, hE⟩ : ∃ E : Int, (zs.length : Int) + (L : Int) = E := ⟨_, rfl⟩
        have hE0 : 0 ≤ E := by omega
        have hE1 : E ≤ 200 := by omega
        have HE := Lib.hid hE
        have HSa := Lib.hid (HS.out.alloc (.cells #[.int .u16 32, .int .u8 0, .int .u8 0, .int .u32 4] 39))
        have HLIT := Lib.hid (lit_row (w := W6) (e := 39) [insn 32 4] _ rfl (wf1 (insn_wf (by decide) (by decide))) (by simp))
        go_wp2_with (first | (at_builtin; refine wp_append_kd rfl _ _ 32 39 _ 8 rfl Try.underlying32 infoInsn rfl (.slice Av zs.length cv) zs (some ⟨W6.heap.size, 0, none⟩) 1 1 [insn 32 4] rfl rfl HSa.out.own rfl HLIT.out (fun _ _ h => h) (by unfold maxLen; omega) (by omega) HSa.out.size (fun q hq => HSa.out.new hq) ?_; intro v1 W7 hO1 hg1 hat1; have HS' := Lib.hid (HSa.out.push hO1 hg1); obtain ⟨A7, c7, rfl, -, -⟩ := hO1.form; have hyl : (zs ++ [insn 32 4]).length ≤ 86 := (by rw [List.length_append]; simp only [List.length_cons, List.length_nil]; omega); generalize hys : zs ++ [insn 32 4] = y1 at *; have HY := Lib.hid hys; clear hys hO1 hg1 hat1 HSa HLIT))
        go_loopw [3, 7] (fun v i wr => ∃ (j : Nat) (ys : List Insn), j ≤ archs.length ∧ i = .int .i64 j ∧ Hid (ys = zs ++ insn 32 4 :: (archIns archs).take j) ∧ ys.length ≤ 86 + j ∧ Hid (St w n bx1 wr v ys)) (fun _ i _ => archs.length - (intOf i).toNat)
        case atStart => exact ⟨0, y1, Nat.zero_le _, rfl, (by rw [← HY.out, List.take_zero]; exact rfl), by omega, HS'.out⟩
        case round =>
          obtain ⟨j, ys, hj, rfl, hys, hyb, hSj⟩ := hrel
          obtain ⟨Aj, cj, rfl, -, -⟩ := hSj.out.own.form
          have q0 : wr.cell? ⟨m, 0, none⟩ = some (.slice B0 archs.length d0) := hSj.out.cell HBM.out rfl
          by_cases hja : j < archs.length
          · obtain ⟨bd, rfl, hokb, hra1, x0'⟩ := Kd.int_at HRA.out hja
            have hbw := hSj.out.bel
            rw [← HSZ.out] at hbw
            have x0 := cell_bel hbw x0'
            have HX0 := Lib.hid x0'
            clear x0' hbw
            have HSB : Hid (∀ (W' : World) (v' : Value) (ys' : List Insn), St w n bx1 W' v' ys' → (W'.cell? ⟨m, 0, none⟩ = some (.slice (some bd) archs.length d0) ∧ W'.cell? (bd.add j) = some (.int .u32 archs[j]))) := fun W' v' ys' h => ⟨h.cell HBM.out rfl, cell_bel (by rw [HSZ.out]; exact h.bel) HX0.out⟩
            obtain ⟨D, hD⟩ : ∃ D : Int, D = (archs.length : Int) - j := ⟨_, rfl⟩
            have hD0 : 0 ≤ D := by omega
            have hD2 : D ≤ 2 := by omega
            have hsub : IntKind.i64.wrap ((archs.length : Int) - (j : Int)) = D := by rw [hD]; exact wrap_i64 (by omega)
            have hu8 : IntKind.u8.wrap D = D := IntWalk.u8_in _ ⟨by omega, by omega⟩
            have hj0 : (0 : Int) ≤ (j : Int) := by omega
            have hj1 : (j : Int) < (archs.length : Int) := by omega
            have HD := Lib.hid hD
            clear hD
            simp only [Kd.rng] at hra1
            go_wp2_with fail
            have HSa := Lib.hid (hSj.out.alloc (.cells #[.int .u16 21, .int .u8 D, .int .u8 0, .int .u32 archs[j]] 39)).drew
            have HLIT := Lib.hid ((lit_row (w := wr) (e := 39) [(⟨21, D, 0, archs[j]⟩ : Insn)] _ rfl (wf1 (⟨(by decide : (0 : Int) ≤ 21 ∧ (21 : Int) < 65536), (show (0 : Int) ≤ D ∧ D < 256 by omega), (by decide : (0 : Int) ≤ 0 ∧ (0 : Int) < 256), hra1⟩)) (by simp)).bel (below_d1 (Below.refl _ _)))
            go_region_held3 ((fun w' => w'.cell? ⟨m, 0, none⟩ = some (.slice (some bd) archs.length d0) ∧ w'.cell? (bd.add j) = some (.int .u32 archs[j]))) (first | exact HSB.out _ _ _ hst1 | exact HSB.out _ _ _ HSa.out | exact HSB.out _ _ _ hSj.out.drew)
              (first | (refine step_append_kd rfl (.tmp 42) (.tmp 55) 32 39 _ 8 rfl Try.underlying32 infoInsn rfl (.slice Aj ys.length cj) ys (some ⟨wr.heap.size, 0, none⟩) 1 1 [(⟨21, D, 0, archs[j]⟩ : Insn)] (by rfl) (by rfl) HSa.out.own rfl HLIT.out (fun _ _ h => h) (by unfold maxLen; omega) (by omega) HSa.out.size (fun q hq => HSa.out.new hq) ?_; intro v1 W8 hO1 hg1 hat1; have hst1 := HSa.out.push hO1 hg1; obtain ⟨A8, c8, rfl, -, -⟩ := hO1.form))
            have HS' := Lib.hid hst1
            have hyl : (ys ++ [(⟨21, D, 0, archs[j]⟩ : Insn)]).length ≤ 87 + j := (by rw [List.length_append]; simp only [List.length_cons, List.length_nil]; omega)
            have hly : ys.length + 1 = (ys ++ [(⟨21, D, 0, archs[j]⟩ : Insn)]).length := (by rw [List.length_append]; rfl)
            try rw [hly]
            generalize hys : ys ++ [(⟨21, D, 0, archs[j]⟩ : Insn)] = y2 at *
            have HY := Lib.hid hys
            have HLY := Lib.hid hly
            clear hys hO1 hg1 hat1 HSa HLIT hst1 hly
            clear q0 x0 HSB hsub hu8 hj0 hj1 hra1
            go_wp2_with fail
            go_roundw
            case rel => exact ⟨j + 1, y2, by omega, by go_num, (by rw [← HY.out, hys.out, archIns_take archs j hja, List.append_assoc, List.cons_append, show ((archs.length : Int) - j) % 256 = D by rw [HD.out]; omega]; exact rfl), by omega, HS'.out⟩
            case measure => simp [intOf]; omega
          · obtain rfl : j = archs.length := by omega
            have hys' : Hid (ys = zs ++ insn 32 4 :: archIns archs) := by rw [hys.out, List.take_of_length_le (by rw [archIns_length]; omega)]; exact rfl
            have hyl : ys.length ≤ 88 := by omega
            have hyn : ys.length = zs.length + 1 + archs.length := by rw [hys'.out]; simp [archIns_length]; omega
            have HYN := Lib.hid hyn
            have hfar := fun w => c_far Aj ys.length cj E w (by omega) (by omega)
            obtain ⟨D, hD⟩ : ∃ D : Int, D = E - (ys.length : Int) - 1 := ⟨_, rfl⟩
            rw [← hD] at hfar
            have HFAR := Lib.hid hfar
            have hDv : D = 4 + 3 * tests.length := by rw [hD, ← HE.out, hyn, HL.out, if_neg (by omega)]; omega
            have hD0 : 0 ≤ D := by omega
            have hD1 : D ≤ 100 := by omega
            have HD := Lib.hid hDv
            have hu := IntWalk.u32_in D ⟨by omega, by omega⟩
            clear hyn hfar hD hDv hys hyb
            have HSa := Lib.hid (hSj.out.alloc (.cells #[.int .u16 5, .int .u8 0, .int .u8 0, .int .u32 D] 39))
            have HLIT := Lib.hid (lit_row (w := wr) (e := 39) [(⟨5, 0, 0, D⟩ : Insn)] _ rfl (wf1 (⟨(by decide : (0 : Int) ≤ 5 ∧ (5 : Int) < 65536), (by decide : (0 : Int) ≤ 0 ∧ (0 : Int) < 256), (by decide : (0 : Int) ≤ 0 ∧ (0 : Int) < 256), (show (0 : Int) ≤ D ∧ D < 4294967296 by omega)⟩)) (by simp))
            go_upto_region 14 with (first | (go_at_call 31; (with_reducible refine (HFAR.out _).mono ?_); rintro e w9 ⟨rfl, rfl⟩) | (at_builtin; refine wp_append_kd rfl _ _ 32 39 _ 8 rfl Try.underlying32 infoInsn rfl (.slice Aj ys.length cj) ys (some ⟨wr.heap.size, 0, none⟩) 1 1 [(⟨5, 0, 0, D⟩ : Insn)] rfl rfl HSa.out.own rfl HLIT.out (fun _ _ h => h) (by unfold maxLen; omega) (by omega) HSa.out.size (fun q hq => HSa.out.new hq) ?_; intro v1 Wk hO1 hg1 hat1; have HS' := Lib.hid (HSa.out.push hO1 hg1); obtain ⟨Ak, ck, rfl, -, -⟩ := hO1.form; have hyl : (ys ++ [(⟨5, 0, 0, D⟩ : Insn)]).length ≤ 89 := (by rw [List.length_append]; simp only [List.length_cons, List.length_nil]; omega); generalize hys : ys ++ [(⟨5, 0, 0, D⟩ : Insn)] = yk at *; have HY := Lib.hid hys; clear hys hO1 hg1 hat1 HSa HLIT))
            have hnz : ¬ archs.length = 0 := by omega
            have hyk : yk = zs ++ archR ⟨archs, lo, hi, tests, word⟩ := by
              have e : archR ⟨archs, lo, hi, tests, word⟩ = insn 32 4 :: (archIns archs ++ [⟨5, 0, 0, 4 + 3 * tests.length⟩]) := if_neg (by show ¬ archs.length = 0; omega)
              rw [← HY.out, hys'.out, e, HD.out, List.append_assoc, List.cons_append]
            have HYK := Lib.hid hyk
            have hkn : yk.length + (4 + 3 * tests.length) = zs.length + L := by
              have h1 := HL.out
              rw [if_neg hnz] at h1
              rw [← HY.out, List.length_append, HYN.out, h1]
              simp only [List.length_cons, List.length_nil]
              omega
            have HKN := Lib.hid hkn
            have HSk := HS'
            have hkl : yk.length ≤ 89 := by omega
            clear hyk hkn HS' hyl hE
            clear HY hys' HYN HFAR hu HD hD0 hD1 hSj
            clear HL hE0 hE1
            have hE0 : 0 ≤ E := by have := HE.out; omega
            have hE1 : E ≤ 200 := by have := HE.out; omega
            have r1 : Wk.cell? ⟨m, 1, none⟩ = some (.int .u32 lo) := HSk.out.cell HBM.out rfl
            clear r1
            have HSB : Hid (∀ (W' : World) (v' : Value) (ys' : List Insn), St w n bx1 W' v' ys' → W'.cell? ⟨m, 1, none⟩ = some (.int .u32 lo)) := fun W' v' ys' h => h.cell HBM.out rfl
            have HSB2 : Hid (∀ (W' : World) (v' : Value) (ys' : List Insn), St w n bx1 W' v' ys' → W'.cell? ⟨m, 2, none⟩ = some (.int .u32 hi)) := fun W' v' ys' h => h.cell HBM.out rfl
            have HSa := Lib.hid (HSk.out.alloc (.cells #[.int .u16 32, .int .u8 0, .int .u8 0, .int .u32 0] 39))
            have HLIT := Lib.hid (lit_row (w := Wk) (e := 39) [insn 32 0] _ rfl (wf1 (insn_wf (by decide) (by decide))) (by simp))
            go_upto_region 15 with (first | (at_builtin; refine wp_append_kd rfl _ _ 32 39 _ 8 rfl Try.underlying32 infoInsn rfl (.slice Ak yk.length ck) yk (some ⟨Wk.heap.size, 0, none⟩) 1 1 [insn 32 0] rfl rfl HSa.out.own rfl HLIT.out (fun _ _ h => h) (by unfold maxLen; omega) (by omega) HSa.out.size (fun q hq => HSa.out.new hq) ?_; intro v1 Wl hO1 hg1 hat1; have HS' := Lib.hid (HSa.out.push hO1 hg1); obtain ⟨Al, cl, rfl, -, -⟩ := hO1.form; have hyl : (yk ++ [insn 32 0]).length ≤ 90 := (by rw [List.length_append]; simp only [List.length_cons, List.length_nil]; omega); generalize hys : yk ++ [insn 32 0] = yl at *; have HY := Lib.hid hys; clear hys hO1 hg1 hat1 HSa HLIT))
            have hln : yl.length = yk.length + 1 := by rw [← HY.out]; simp
            have HLN := Lib.hid hln
            have HYL := HY
            have HSl := HS'
            clear hln HY HS' hyl HSk
            have hll : yl.length ≤ 90 := by have := HLN.out; omega
            have hfar := fun w => c_far Al yl.length cl E w (by omega) (by omega)
            obtain ⟨D1, hD⟩ : ∃ D : Int, D = E - (yl.length : Int) - 1 := ⟨_, rfl⟩
            rw [← hD] at hfar
            have HFAR := Lib.hid hfar
            have hDv : D1 = 2 + 3 * tests.length := by rw [hD, ← HE.out]; have h1 := HLN.out; have h2 := HKN.out; omega
            have hD10 : 0 ≤ D1 := by omega
            have hD11 : D1 ≤ 100 := by omega
            have HD1 := Lib.hid hDv
            have hu : IntKind.u8.wrap D1 = D1 := IntWalk.u8_in _ ⟨by omega, by omega⟩
            clear hfar hD hDv
            go_wp2_with fail
            have HSa := Lib.hid (HSl.out.alloc (.cells #[.int .u16 53, .int .u8 0, .int .u8 D1, .int .u32 lo] 39)).drew
            have HLIT := Lib.hid ((lit_row (w := Wl) (e := 39) [(⟨53, 0, D1, lo⟩ : Insn)] _ rfl (wf1 (⟨(by decide : (0 : Int) ≤ 53 ∧ (53 : Int) < 65536), (by decide : (0 : Int) ≤ 0 ∧ (0 : Int) < 256), (show (0 : Int) ≤ D1 ∧ D1 < 256 by omega), h1⟩)) (by simp)).bel (below_d1 (Below.refl _ _)))
            go_region_held3 ((fun w' => w'.cell? ⟨m, 1, none⟩ = some (.int .u32 lo))) (first | exact HSB.out _ _ _ hst1 | exact HSB.out _ _ _ HSa.out | exact HSB.out _ _ _ HSl.out.drew)
              (first | (go_at_call 31; (with_reducible refine (HFAR.out _).mono ?_); rintro e w9 ⟨rfl, rfl⟩) | (refine step_append_kd rfl (.tmp 69) (.tmp 77) 32 39 _ 8 rfl Try.underlying32 infoInsn rfl (.slice Al yl.length cl) yl (some ⟨Wl.heap.size, 0, none⟩) 1 1 [(⟨53, 0, D1, lo⟩ : Insn)] (by rfl) (by rfl) HSa.out.own rfl HLIT.out (fun _ _ h => h) (by unfold maxLen; omega) (by omega) HSa.out.size (fun q hq => HSa.out.new hq) ?_; intro v1 Wm hO1 hg1 hat1; have hst1 := HSa.out.push hO1 hg1; obtain ⟨Am, cm, rfl, -, -⟩ := hO1.form))
            have HS' := Lib.hid hst1
            have hyl : (yl ++ [(⟨53, 0, D1, lo⟩ : Insn)]).length ≤ 91 := (by rw [List.length_append]; simp only [List.length_cons, List.length_nil]; omega)
            have hly : yl.length + 1 = (yl ++ [(⟨53, 0, D1, lo⟩ : Insn)]).length := (by rw [List.length_append]; rfl)
            try rw [hly]
            generalize hys : yl ++ [(⟨53, 0, D1, lo⟩ : Insn)] = ym at *
            have HY := Lib.hid hys
            have HLY := Lib.hid hly
            clear hys hO1 hg1 hat1 HSa HLIT hst1 hly
            have HYM := HY
            have HSm := HS'
            have HMN : Hid (ym.length = yk.length + 2) := by have h1 := HLN.out; have h2 := HLY.out; unfold Hid; omega
            clear HY HS' HLY HSl hu HFAR HLN hyl hll
            have hml : ym.length ≤ 91 := by have := HMN.out; omega
            have hfar := fun w => c_far Am ym.length cm E w (by omega) (by omega)
            obtain ⟨D2, hD⟩ : ∃ D : Int, D = E - (ym.length : Int) - 1 := ⟨_, rfl⟩
            rw [← hD] at hfar
            have HFAR := Lib.hid hfar
            have hDv : D2 = 1 + 3 * tests.length := by rw [hD, ← HE.out]; have h1 := HMN.out; have h2 := HKN.out; omega
            have hD20 : 0 ≤ D2 := by omega
            have hD21 : D2 ≤ 100 := by omega
            have HD2 := Lib.hid hDv
            have hu : IntKind.u8.wrap D2 = D2 := IntWalk.u8_in _ ⟨by omega, by omega⟩
            clear hfar hD hDv
            go_wp2_with fail
            have HSa := Lib.hid (HSm.out.alloc (.cells #[.int .u16 37, .int .u8 D2, .int .u8 0, .int .u32 hi] 39)).drew
            have HLIT := Lib.hid ((lit_row (w := Wm) (e := 39) [(⟨37, D2, 0, hi⟩ : Insn)] _ rfl (wf1 (⟨(by decide : (0 : Int) ≤ 37 ∧ (37 : Int) < 65536), (show (0 : Int) ≤ D2 ∧ D2 < 256 by omega), (by decide : (0 : Int) ≤ 0 ∧ (0 : Int) < 256), h2⟩)) (by simp)).bel (below_d1 (Below.refl _ _)))
            go_region_held3 ((fun w' => w'.cell? ⟨m, 2, none⟩ = some (.int .u32 hi))) (first | exact HSB2.out _ _ _ hst1 | exact HSB2.out _ _ _ HSa.out | exact HSB2.out _ _ _ HSm.out.drew)
              (first | (go_at_call 31; (with_reducible refine (HFAR.out _).mono ?_); rintro e w9 ⟨rfl, rfl⟩) | (refine step_append_kd rfl (.tmp 79) (.tmp 87) 32 39 _ 8 rfl Try.underlying32 infoInsn rfl (.slice Am ym.length cm) ym (some ⟨Wm.heap.size, 0, none⟩) 1 1 [(⟨37, D2, 0, hi⟩ : Insn)] (by rfl) (by rfl) HSa.out.own rfl HLIT.out (fun _ _ h => h) (by unfold maxLen; omega) (by omega) HSa.out.size (fun q hq => HSa.out.new hq) ?_; intro v1 Wn hO1 hg1 hat1; have hst1 := HSa.out.push hO1 hg1; obtain ⟨An, cn, rfl, -, -⟩ := hO1.form))
            have HS' := Lib.hid hst1
            have hyl : (ym ++ [(⟨37, D2, 0, hi⟩ : Insn)]).length ≤ 92 := (by rw [List.length_append]; simp only [List.length_cons, List.length_nil]; omega)
            have hly : ym.length + 1 = (ym ++ [(⟨37, D2, 0, hi⟩ : Insn)]).length := (by rw [List.length_append]; rfl)
            try rw [hly]
            generalize hys : ym ++ [(⟨37, D2, 0, hi⟩ : Insn)] = yn at *
            have HY := Lib.hid hys
            have HLY := Lib.hid hly
            clear hys hO1 hg1 hat1 HSa HLIT hst1 hly
            have HYN' := HY
            have HSn := HS'
            have HNN : Hid (yn.length = yk.length + 3) := by have h1 := HMN.out; have h2 := HLY.out; unfold Hid; omega
            clear HY HS' HLY HSm hu HFAR HMN hyl hml
            have hnl : yn.length ≤ 92 := by have := HNN.out; omega
            clear HSB HSB2
            go_wp2_with fail
            go_loopw [3, 8, 9] (fun v i _ wr => ∃ (j : Nat) (ys : List Insn), j ≤ tests.length ∧ i = .int .i64 j ∧ Hid (ys = yn ++ testsTo tests j) ∧ Hid (ys.length = yn.length + 3 * j) ∧ Hid (St w n bx1 wr v ys)) (fun _ i _ _ => tests.length - (intOf i).toNat)
            case atStart => exact ⟨0, yn, Nat.zero_le _, rfl, (by rw [testsTo, List.take_zero, List.flatMap_nil, List.append_nil]; exact rfl), rfl, HSn.out⟩
            case round =>
              obtain ⟨j, ys, hj, rfl, hys, hyn, hSj⟩ := hrel
              obtain ⟨Aj, cj, rfl, -, -⟩ := hSj.out.own.form
              have q3 : wr.cell? ⟨m, 3, none⟩ = some (.slice B3 tests.length d3) := hSj.out.cell HBM.out rfl
              have hyl : ys.length ≤ 92 + 3 * j := by have := hyn.out; omega
              by_cases hjt : j < tests.length
              · obtain ⟨bd, rfl, hokb, hwf, x0', x1', x2', x3'⟩ := kTest.at_ HRT.out hjt
                have hbw := hSj.out.bel
                rw [← HSZ.out] at hbw
                have x0 := cell_bel hbw x0'
                have x1 := cell_bel hbw x1'
                have x2 := cell_bel hbw x2'
                have x3 := cell_bel hbw x3'
                obtain ⟨ht0, ht6⟩ := testBad_of HRTB.out hjt
                obtain ⟨t, ht⟩ : ∃ t, tests[j] = t := ⟨_, rfl⟩
                rw [ht] at x0 x1 x2 x3 ht0 ht6 hwf
                have HTJ := Lib.hid ht
                clear x0' x1' x2' x3' hbw ht
                obtain ⟨arg, high, mask, value⟩ := t
                obtain ⟨-, hwm, hwv⟩ := hwf
                simp only at x0 x1 x2 x3 ht0 ht6 hwm hwv
                simp only [Kd.rng] at hwm hwv
                obtain ⟨m9, hm9⟩ : ∃ m, wr.heap.size = m := ⟨_, rfl⟩
                obtain ⟨bx2, hS2, hb9, hdn2⟩ := St.more' hSj.out (.cells #[.int .i64 arg, .bool high, .int .u32 mask, .int .u32 value] 69) m9 hm9
                have HS2 := Lib.hid hS2
                have HB9 := Lib.hid hb9
                have HDN2 := Lib.hid hdn2
                clear hS2 hb9 hdn2
                go_wp2_with fail
                clear x0 x1 x2 x3 q3 hm9
                generalize (wr.alloc (.cells #[.int .i64 arg, .bool high, .int .u32 mask, .int .u32 value] 69)) = Wo at *
                refine (c_half ⟨arg, high, mask, value⟩ Wo ht0 ht6).mono ?_
                rintro e Wp ⟨rfl, hBp⟩
                have HSp := Lib.hid (HS2.out.call hBp)
                have ho0 : 0 ≤ offs ⟨arg, high, mask, value⟩ ∧ offs ⟨arg, high, mask, value⟩ < 4294967296 := by unfold offs; simp only; split <;> omega
                have HOF : Hid (offs ⟨arg, high, mask, value⟩ = offs ⟨arg, high, mask, value⟩) := rfl
                obtain ⟨of, hof⟩ : ∃ o, offs ⟨arg, high, mask, value⟩ = o := ⟨_, rfl⟩
                rw [hof] at ho0 ⊢
                have HOFF := Lib.hid hof
                clear hBp hof HS2 HOF hSj
                have HSa := Lib.hid (HSp.out.alloc (.cells #[.int .u16 32, .int .u8 0, .int .u8 0, .int .u32 of] 39))
                have HLIT := Lib.hid (lit_row (w := Wp) (e := 39) [insn 32 of] _ rfl (wf1 (insn_wf (by decide) ho0)) (by simp))
                go_upto_region 22 with (first | (at_builtin; refine wp_append_kd rfl _ _ 32 39 _ 8 rfl Try.underlying32 infoInsn rfl (.slice Aj ys.length cj) ys (some ⟨Wp.heap.size, 0, none⟩) 1 1 [insn 32 of] rfl rfl HSa.out.own rfl HLIT.out (fun _ _ h => h) (by unfold maxLen; omega) (by omega) HSa.out.size (fun q hq => HSa.out.new hq) ?_; intro v1 Wq hO1 hg1 hat1; have HS' := Lib.hid (HSa.out.push hO1 hg1); obtain ⟨Aq, cq, rfl, -, -⟩ := hO1.form; have hyl : (ys ++ [insn 32 of]).length ≤ 93 + 3 * j := (by rw [List.length_append]; simp only [List.length_cons, List.length_nil]; omega); generalize hys : ys ++ [insn 32 of] = yq at *; have HY := Lib.hid hys; clear hys hO1 hg1 hat1 HSa HLIT))
                have hlq : yq.length = ys.length + 1 := by rw [← HY.out]; simp
                have HLQ := Lib.hid hlq
                have HYQ := HY
                have HSq := HS'
                clear HY HS' HSp hyl hlq
                have hyl : yq.length ≤ 93 + 3 * j := by have := HLQ.out; have := hyn.out; omega
                have z2 : Wq.cell? ⟨m9, 2, none⟩ = some (.int .u32 mask) := HSq.out.cell HB9.out rfl
                have HSa := Lib.hid (HSq.out.alloc (.cells #[.int .u16 84, .int .u8 0, .int .u8 0, .int .u32 mask] 39))
                have HLIT := Lib.hid (lit_row (w := Wq) (e := 39) [insn 84 mask] _ rfl (wf1 (insn_wf (by decide) hwm)) (by simp))
                go_upto_region 23 with (first | (at_builtin; refine wp_append_kd rfl _ _ 32 39 _ 8 rfl Try.underlying32 infoInsn rfl (.slice Aq yq.length cq) yq (some ⟨Wq.heap.size, 0, none⟩) 1 1 [insn 84 mask] rfl rfl HSa.out.own rfl HLIT.out (fun _ _ h => h) (by unfold maxLen; omega) (by omega) HSa.out.size (fun q hq => HSa.out.new hq) ?_; intro v1 Ws hO1 hg1 hat1; have HS' := Lib.hid (HSa.out.push hO1 hg1); obtain ⟨As, cs, rfl, -, -⟩ := hO1.form; have hyl : (yq ++ [insn 84 mask]).length ≤ 94 + 3 * j := (by rw [List.length_append]; simp only [List.length_cons, List.length_nil]; omega); generalize hys : yq ++ [insn 84 mask] = ysx at *; have HY := Lib.hid hys; clear hys hO1 hg1 hat1 HSa HLIT))
                have hls : ysx.length = ys.length + 2 := by rw [← HY.out]; simp; exact HLQ.out
                have HLS := Lib.hid hls
                have HYS := HY
                have HSs := HS'
                clear HY HS' HSq hyl HLQ hls z2
                have hyl : ysx.length ≤ 94 + 3 * j := by have := HLS.out; have := hyn.out; omega
                have HSB : Hid (∀ (W' : World) (v' : Value) (ys' : List Insn), St w n bx2 W' v' ys' → W'.cell? ⟨m9, 3, none⟩ = some (.int .u32 value)) := fun W' v' ys' h => h.cell HB9.out rfl
                have hfar := fun w => c_far As ysx.length cs E w (by omega) (by omega)
                obtain ⟨D3, hD⟩ : ∃ D : Int, D = E - (ysx.length : Int) - 1 := ⟨_, rfl⟩
                rw [← hD] at hfar
                have HFAR := Lib.hid hfar
                have hDv : D3 = 3 * ((tests.length : Int) - j) - 2 := by rw [hD, ← HE.out]; have h1 := HLS.out; have h2 := HKN.out; have h3 := HNN.out; have h4 := hyn.out; omega
                have hD30 : 0 ≤ D3 := by omega
                have hD31 : D3 ≤ 100 := by omega
                have HD3 := Lib.hid hDv
                have hu : IntKind.u8.wrap D3 = D3 := IntWalk.u8_in _ ⟨by omega, by omega⟩
                clear hfar hD hDv
                go_wp2_with fail
                have HSa := Lib.hid (HSs.out.alloc (.cells #[.int .u16 21, .int .u8 0, .int .u8 D3, .int .u32 value] 39)).drew
                have HLIT := Lib.hid ((lit_row (w := Ws) (e := 39) [(⟨21, 0, D3, value⟩ : Insn)] _ rfl (wf1 (⟨(by decide : (0 : Int) ≤ 21 ∧ (21 : Int) < 65536), (by decide : (0 : Int) ≤ 0 ∧ (0 : Int) < 256), (show (0 : Int) ≤ D3 ∧ D3 < 256 by omega), hwv⟩)) (by simp)).bel (below_d1 (Below.refl _ _)))
                go_region_held3 ((fun w' => w'.cell? ⟨m9, 3, none⟩ = some (.int .u32 value))) (first | exact HSB.out _ _ _ hst1 | exact HSB.out _ _ _ HSa.out | exact HSB.out _ _ _ HSs.out.drew)
                  (first | (go_at_call 31; (with_reducible refine (HFAR.out _).mono ?_); rintro e w9 ⟨rfl, rfl⟩) | (refine step_append_kd rfl (.tmp 113) (.tmp 121) 32 39 _ 8 rfl Try.underlying32 infoInsn rfl (.slice As ysx.length cs) ysx (some ⟨Ws.heap.size, 0, none⟩) 1 1 [(⟨21, 0, D3, value⟩ : Insn)] (by rfl) (by rfl) HSa.out.own rfl HLIT.out (fun _ _ h => h) (by unfold maxLen; omega) (by omega) HSa.out.size (fun q hq => HSa.out.new hq) ?_; intro v1 Wt hO1 hg1 hat1; have hst1 := HSa.out.push hO1 hg1; obtain ⟨At, ct, rfl, -, -⟩ := hO1.form))
                have HS' := Lib.hid hst1
                have hyl : (ysx ++ [(⟨21, 0, D3, value⟩ : Insn)]).length ≤ 95 + 3 * j := (by rw [List.length_append]; simp only [List.length_cons, List.length_nil]; omega)
                have hly : ysx.length + 1 = (ysx ++ [(⟨21, 0, D3, value⟩ : Insn)]).length := (by rw [List.length_append]; rfl)
                try rw [hly]
                generalize hys : ysx ++ [(⟨21, 0, D3, value⟩ : Insn)] = yt at *
                have HY := Lib.hid hys
                have HLY := Lib.hid hly
                clear hys hO1 hg1 hat1 HSa HLIT hst1 hly
                have htn : Hid (yt.length = yn.length + 3 * (j + 1)) := by have h1 := HLS.out; have h2 := HLY.out; have h3 := hyn.out; unfold Hid; omega
                have hyt : Hid (yt = yn ++ testsTo tests (j + 1)) := by
                  have h : yt = yn ++ testsTo tests (j + 1) := by
                    rw [testsTo_step tests j hjt, HTJ.out, ← HY.out, ← HYS.out, ← HYQ.out, hys.out]
                    unfold testR
                    rw [HOFF.out, ← HD3.out]
                    simp only [List.append_assoc, List.cons_append, List.nil_append]
                  exact h
                have hSt : Hid (St w n bx1 Wt (.slice At yt.length ct) yt) := HS'.out.less HDN2.out
                clear HSB HS' HSs hu HFAR
                go_wp2_with fail
                go_roundw
                case rel => exact ⟨j + 1, yt, by omega, by go_num, hyt, htn, hSt⟩
                case measure => simp [intOf]; omega
              · obtain rfl : j = tests.length := by omega
                rw [testsTo_all] at hys
                have z4 : wr.cell? ⟨m, 4, none⟩ = some (.int .u32 word) := hSj.out.cell HBM.out rfl
                simp only [Kd.rng] at h4
                have HSa := Lib.hid (hSj.out.alloc (.cells #[.int .u16 6, .int .u8 0, .int .u8 0, .int .u32 word] 39))
                have HLIT := Lib.hid (lit_row (w := wr) (e := 39) [insn 6 word] _ rfl (wf1 (insn_wf (by decide) h4)) (by simp))
                go_wp2_with (first | (at_builtin; refine wp_append_kd rfl _ _ 32 39 _ 8 rfl Try.underlying32 infoInsn rfl (.slice Aj ys.length cj) ys (some ⟨wr.heap.size, 0, none⟩) 1 1 [insn 6 word] rfl rfl HSa.out.own rfl HLIT.out (fun _ _ h => h) (by unfold maxLen; omega) (by omega) HSa.out.size (fun q hq => HSa.out.new hq) ?_; intro v1 Wu hO1 hg1 hat1; have HS' := Lib.hid (HSa.out.push hO1 hg1); obtain ⟨Au, cu, rfl, -, -⟩ := hO1.form; have hyl : (ys ++ [insn 6 word]).length ≤ 102 := (by rw [List.length_append]; simp only [List.length_cons, List.length_nil]; omega); generalize hys : ys ++ [insn 6 word] = yu at *; have HY := Lib.hid hys; clear hys hO1 hg1 hat1 HSa HLIT))
                have hyu : yu = (rules.take (k + 1)).flatMap refR := by
                  rw [List.take_succ_eq_append_getElem hlt, List.flatMap_append, ← hzs.out, HRK.out, ← HY.out, hys.out, ← HYN'.out, ← HYM.out, ← HYL.out, HYK.out, HD1.out, HD2.out]
                  simp only [List.flatMap_cons, List.flatMap_nil, List.append_nil, refR, List.append_assoc, List.cons_append, List.nil_append]
                have HYU := Lib.hid hyu
                have hSu : Hid (St w n bx0 Wu (.slice Au yu.length cu) yu) := HS'.out.less HDN.out
                clear hyu HS'
                go_roundw
                case rel => exact ⟨k + 1, yu, by omega, by go_num, HYU.out, hyl, hSu⟩
                case measure => simp [intOf]; omega
      ·
        have hap' : ¬ 0 < archs.length := by omega
        have HAP := Lib.hid hap
        clear hap
        go_wp2_with fail
        have hm := HM.out
        simp only [hm]
        clear hm e0 e1 e2 e3 e4 p0
        generalize (wr.alloc (.cells #[.slice B0 archs.length d0, .int .u32 lo, .int .u32 hi, .slice B3 tests.length d3, .int .u32 word] 51)) = W5 at *
        refine (c_length ⟨archs, lo, hi, tests, word⟩ ok _ W5 (Kd.bel (d := kRule) HKR.out (by rw [HSZ.out]; exact HS0.out.bel)) (by show archs.length ≤ 1000; omega) (by show tests.length ≤ 1000; omega)).mono ?_
        rintro e W6 ⟨rfl, hB6⟩
        have HS := Lib.hid (HS0.out.call hB6)
        clear HS0 hB6
        have q0 : W6.cell? ⟨m, 0, none⟩ = some (.slice B0 archs.length d0) := HS.out.cell HBM.out rfl
        have hL : lenR ⟨archs, lo, hi, tests, word⟩ = 4 + 3 * tests.length + (if archs.length = 0 then 0 else 2 + archs.length) := rfl
        generalize lenR ⟨archs, lo, hi, tests, word⟩ = L at *
        have hLb : L ≤ 20 := by rw [hL]; split <;> omega
        have HL := Lib.hid hL
        clear hL
        obtain ⟨E, hE⟩ : ∃ E : Int, (zs.length : Int) + (L : Int) = E := ⟨_, rfl⟩
        have hE0 : 0 ≤ E := by omega
        have hE1 : E ≤ 200 := by omega
        have HE := Lib.hid hE

        go_upto_region 14 with (fail)
        obtain ⟨yk, hyk'⟩ : ∃ y, y = zs := ⟨_, rfl⟩
        have hyk : yk = zs ++ archR ⟨archs, lo, hi, tests, word⟩ := by
          have : archR ⟨archs, lo, hi, tests, word⟩ = [] := if_pos (by show archs.length = 0; omega)
          rw [this, List.append_nil, hyk']
        have HYK := Lib.hid hyk
        have HKN : Hid (yk.length + (4 + 3 * tests.length) = zs.length + L) := by rw [hyk', HL.out, if_pos (by omega)]; exact rfl
        have HSk := HS
        have hkl : yk.length ≤ 89 := by rw [hyk']; omega
        rw [← hyk'] at HSk ⊢
        clear hyk hyk' HS hE q0
        obtain ⟨Wk, rfl⟩ : ∃ W, W = W6 := ⟨_, rfl⟩
        obtain ⟨Ak, rfl⟩ : ∃ A, A = Av := ⟨_, rfl⟩
        obtain ⟨ck, rfl⟩ : ∃ c, c = cv := ⟨_, rfl⟩
        clear HL hE0 hE1
        have hE0 : 0 ≤ E := by have := HE.out; omega
        have hE1 : E ≤ 200 := by have := HE.out; omega
        have r1 : Wk.cell? ⟨m, 1, none⟩ = some (.int .u32 lo) := HSk.out.cell HBM.out rfl
        clear r1
        have HSB : Hid (∀ (W' : World) (v' : Value) (ys' : List Insn), St w n bx1 W' v' ys' → W'.cell? ⟨m, 1, none⟩ = some (.int .u32 lo)) := fun W' v' ys' h => h.cell HBM.out rfl
        have HSB2 : Hid (∀ (W' : World) (v' : Value) (ys' : List Insn), St w n bx1 W' v' ys' → W'.cell? ⟨m, 2, none⟩ = some (.int .u32 hi)) := fun W' v' ys' h => h.cell HBM.out rfl
        have HSa := Lib.hid (HSk.out.alloc (.cells #[.int .u16 32, .int .u8 0, .int .u8 0, .int .u32 0] 39))
        have HLIT := Lib.hid (lit_row (w := Wk) (e := 39) [insn 32 0] _ rfl (wf1 (insn_wf (by decide) (by decide))) (by simp))
        go_upto_region 15 with (first | (at_builtin; refine wp_append_kd rfl _ _ 32 39 _ 8 rfl Try.underlying32 infoInsn rfl (.slice Ak yk.length ck) yk (some ⟨Wk.heap.size, 0, none⟩) 1 1 [insn 32 0] rfl rfl HSa.out.own rfl HLIT.out (fun _ _ h => h) (by unfold maxLen; omega) (by omega) HSa.out.size (fun q hq => HSa.out.new hq) ?_; intro v1 Wl hO1 hg1 hat1; have HS' := Lib.hid (HSa.out.push hO1 hg1); obtain ⟨Al, cl, rfl, -, -⟩ := hO1.form; have hyl : (yk ++ [insn 32 0]).length ≤ 90 := (by rw [List.length_append]; simp only [List.length_cons, List.length_nil]; omega); generalize hys : yk ++ [insn 32 0] = yl at *; have HY := Lib.hid hys; clear hys hO1 hg1 hat1 HSa HLIT))
        have hln : yl.length = yk.length + 1 := by rw [← HY.out]; simp
        have HLN := Lib.hid hln
        have HYL := HY
        have HSl := HS'
        clear hln HY HS' hyl HSk
        have hll : yl.length ≤ 90 := by have := HLN.out; omega
        have hfar := fun w => c_far Al yl.length cl E w (by omega) (by omega)
        obtain ⟨D1, hD⟩ : ∃ D : Int, D = E - (yl.length : Int) - 1 := ⟨_, rfl⟩
        rw [← hD] at hfar
        have HFAR := Lib.hid hfar
        have hDv : D1 = 2 + 3 * tests.length := by rw [hD, ← HE.out]; have h1 := HLN.out; have h2 := HKN.out; omega
        have hD10 : 0 ≤ D1 := by omega
        have hD11 : D1 ≤ 100 := by omega
        have HD1 := Lib.hid hDv
        have hu : IntKind.u8.wrap D1 = D1 := IntWalk.u8_in _ ⟨by omega, by omega⟩
        clear hfar hD hDv
        go_wp2_with fail
        have HSa := Lib.hid (HSl.out.alloc (.cells #[.int .u16 53, .int .u8 0, .int .u8 D1, .int .u32 lo] 39)).drew
        have HLIT := Lib.hid ((lit_row (w := Wl) (e := 39) [(⟨53, 0, D1, lo⟩ : Insn)] _ rfl (wf1 (⟨(by decide : (0 : Int) ≤ 53 ∧ (53 : Int) < 65536), (by decide : (0 : Int) ≤ 0 ∧ (0 : Int) < 256), (show (0 : Int) ≤ D1 ∧ D1 < 256 by omega), h1⟩)) (by simp)).bel (below_d1 (Below.refl _ _)))
        go_region_held3 ((fun w' => w'.cell? ⟨m, 1, none⟩ = some (.int .u32 lo))) (first | exact HSB.out _ _ _ hst1 | exact HSB.out _ _ _ HSa.out | exact HSB.out _ _ _ HSl.out.drew)
          (first | (go_at_call 31; (with_reducible refine (HFAR.out _).mono ?_); rintro e w9 ⟨rfl, rfl⟩) | (refine step_append_kd rfl (.tmp 69) (.tmp 77) 32 39 _ 8 rfl Try.underlying32 infoInsn rfl (.slice Al yl.length cl) yl (some ⟨Wl.heap.size, 0, none⟩) 1 1 [(⟨53, 0, D1, lo⟩ : Insn)] (by rfl) (by rfl) HSa.out.own rfl HLIT.out (fun _ _ h => h) (by unfold maxLen; omega) (by omega) HSa.out.size (fun q hq => HSa.out.new hq) ?_; intro v1 Wm hO1 hg1 hat1; have hst1 := HSa.out.push hO1 hg1; obtain ⟨Am, cm, rfl, -, -⟩ := hO1.form))
        have HS' := Lib.hid hst1
        have hyl : (yl ++ [(⟨53, 0, D1, lo⟩ : Insn)]).length ≤ 91 := (by rw [List.length_append]; simp only [List.length_cons, List.length_nil]; omega)
        have hly : yl.length + 1 = (yl ++ [(⟨53, 0, D1, lo⟩ : Insn)]).length := (by rw [List.length_append]; rfl)
        try rw [hly]
        generalize hys : yl ++ [(⟨53, 0, D1, lo⟩ : Insn)] = ym at *
        have HY := Lib.hid hys
        have HLY := Lib.hid hly
        clear hys hO1 hg1 hat1 HSa HLIT hst1 hly
        have HYM := HY
        have HSm := HS'
        have HMN : Hid (ym.length = yk.length + 2) := by have h1 := HLN.out; have h2 := HLY.out; unfold Hid; omega
        clear HY HS' HLY HSl hu HFAR HLN hyl hll
        have hml : ym.length ≤ 91 := by have := HMN.out; omega
        have hfar := fun w => c_far Am ym.length cm E w (by omega) (by omega)
        obtain ⟨D2, hD⟩ : ∃ D : Int, D = E - (ym.length : Int) - 1 := ⟨_, rfl⟩
        rw [← hD] at hfar
        have HFAR := Lib.hid hfar
        have hDv : D2 = 1 + 3 * tests.length := by rw [hD, ← HE.out]; have h1 := HMN.out; have h2 := HKN.out; omega
        have hD20 : 0 ≤ D2 := by omega
        have hD21 : D2 ≤ 100 := by omega
        have HD2 := Lib.hid hDv
        have hu : IntKind.u8.wrap D2 = D2 := IntWalk.u8_in _ ⟨by omega, by omega⟩
        clear hfar hD hDv
        go_wp2_with fail
        have HSa := Lib.hid (HSm.out.alloc (.cells #[.int .u16 37, .int .u8 D2, .int .u8 0, .int .u32 hi] 39)).drew
        have HLIT := Lib.hid ((lit_row (w := Wm) (e := 39) [(⟨37, D2, 0, hi⟩ : Insn)] _ rfl (wf1 (⟨(by decide : (0 : Int) ≤ 37 ∧ (37 : Int) < 65536), (show (0 : Int) ≤ D2 ∧ D2 < 256 by omega), (by decide : (0 : Int) ≤ 0 ∧ (0 : Int) < 256), h2⟩)) (by simp)).bel (below_d1 (Below.refl _ _)))
        go_region_held3 ((fun w' => w'.cell? ⟨m, 2, none⟩ = some (.int .u32 hi))) (first | exact HSB2.out _ _ _ hst1 | exact HSB2.out _ _ _ HSa.out | exact HSB2.out _ _ _ HSm.out.drew)
          (first | (go_at_call 31; (with_reducible refine (HFAR.out _).mono ?_); rintro e w9 ⟨rfl, rfl⟩) | (refine step_append_kd rfl (.tmp 79) (.tmp 87) 32 39 _ 8 rfl Try.underlying32 infoInsn rfl (.slice Am ym.length cm) ym (some ⟨Wm.heap.size, 0, none⟩) 1 1 [(⟨37, D2, 0, hi⟩ : Insn)] (by rfl) (by rfl) HSa.out.own rfl HLIT.out (fun _ _ h => h) (by unfold maxLen; omega) (by omega) HSa.out.size (fun q hq => HSa.out.new hq) ?_; intro v1 Wn hO1 hg1 hat1; have hst1 := HSa.out.push hO1 hg1; obtain ⟨An, cn, rfl, -, -⟩ := hO1.form))
        have HS' := Lib.hid hst1
        have hyl : (ym ++ [(⟨37, D2, 0, hi⟩ : Insn)]).length ≤ 92 := (by rw [List.length_append]; simp only [List.length_cons, List.length_nil]; omega)
        have hly : ym.length + 1 = (ym ++ [(⟨37, D2, 0, hi⟩ : Insn)]).length := (by rw [List.length_append]; rfl)
        try rw [hly]
        generalize hys : ym ++ [(⟨37, D2, 0, hi⟩ : Insn)] = yn at *
        have HY := Lib.hid hys
        have HLY := Lib.hid hly
        clear hys hO1 hg1 hat1 HSa HLIT hst1 hly
        have HYN' := HY
        have HSn := HS'
        have HNN : Hid (yn.length = yk.length + 3) := by have h1 := HMN.out; have h2 := HLY.out; unfold Hid; omega
        clear HY HS' HLY HSm hu HFAR HMN hyl hml
        have hnl : yn.length ≤ 92 := by have := HNN.out; omega
        clear HSB HSB2
        go_wp2_with fail
        go_loopw [3, 8, 9] (fun v i _ wr => ∃ (j : Nat) (ys : List Insn), j ≤ tests.length ∧ i = .int .i64 j ∧ Hid (ys = yn ++ testsTo tests j) ∧ Hid (ys.length = yn.length + 3 * j) ∧ Hid (St w n bx1 wr v ys)) (fun _ i _ _ => tests.length - (intOf i).toNat)
        case atStart => exact ⟨0, yn, Nat.zero_le _, rfl, (by rw [testsTo, List.take_zero, List.flatMap_nil, List.append_nil]; exact rfl), rfl, HSn.out⟩
        case round =>
          obtain ⟨j, ys, hj, rfl, hys, hyn, hSj⟩ := hrel
          obtain ⟨Aj, cj, rfl, -, -⟩ := hSj.out.own.form
          have q3 : wr.cell? ⟨m, 3, none⟩ = some (.slice B3 tests.length d3) := hSj.out.cell HBM.out rfl
          have hyl : ys.length ≤ 92 + 3 * j := by have := hyn.out; omega
          by_cases hjt : j < tests.length
          · obtain ⟨bd, rfl, hokb, hwf, x0', x1', x2', x3'⟩ := kTest.at_ HRT.out hjt
            have hbw := hSj.out.bel
            rw [← HSZ.out] at hbw
            have x0 := cell_bel hbw x0'
            have x1 := cell_bel hbw x1'
            have x2 := cell_bel hbw x2'
            have x3 := cell_bel hbw x3'
            obtain ⟨ht0, ht6⟩ := testBad_of HRTB.out hjt
            obtain ⟨t, ht⟩ : ∃ t, tests[j] = t := ⟨_, rfl⟩
            rw [ht] at x0 x1 x2 x3 ht0 ht6 hwf
            have HTJ := Lib.hid ht
            clear x0' x1' x2' x3' hbw ht
            obtain ⟨arg, high, mask, value⟩ := t
            obtain ⟨-, hwm, hwv⟩ := hwf
            simp only at x0 x1 x2 x3 ht0 ht6 hwm hwv
            simp only [Kd.rng] at hwm hwv
            obtain ⟨m9, hm9⟩ : ∃ m, wr.heap.size = m := ⟨_, rfl⟩
            obtain ⟨bx2, hS2, hb9, hdn2⟩ := St.more' hSj.out (.cells #[.int .i64 arg, .bool high, .int .u32 mask, .int .u32 value] 69) m9 hm9
            have HS2 := Lib.hid hS2
            have HB9 := Lib.hid hb9
            have HDN2 := Lib.hid hdn2
            clear hS2 hb9 hdn2
            go_wp2_with fail
            clear x0 x1 x2 x3 q3 hm9
            generalize (wr.alloc (.cells #[.int .i64 arg, .bool high, .int .u32 mask, .int .u32 value] 69)) = Wo at *
            refine (c_half ⟨arg, high, mask, value⟩ Wo ht0 ht6).mono ?_
            rintro e Wp ⟨rfl, hBp⟩
            have HSp := Lib.hid (HS2.out.call hBp)
            have ho0 : 0 ≤ offs ⟨arg, high, mask, value⟩ ∧ offs ⟨arg, high, mask, value⟩ < 4294967296 := by unfold offs; simp only; split <;> omega
            have HOF : Hid (offs ⟨arg, high, mask, value⟩ = offs ⟨arg, high, mask, value⟩) := rfl
            obtain ⟨of, hof⟩ : ∃ o, offs ⟨arg, high, mask, value⟩ = o := ⟨_, rfl⟩
            rw [hof] at ho0 ⊢
            have HOFF := Lib.hid hof
            clear hBp hof HS2 HOF hSj
            have HSa := Lib.hid (HSp.out.alloc (.cells #[.int .u16 32, .int .u8 0, .int .u8 0, .int .u32 of] 39))
            have HLIT := Lib.hid (lit_row (w := Wp) (e := 39) [insn 32 of] _ rfl (wf1 (insn_wf (by decide) ho0)) (by simp))
            go_upto_region 22 with (first | (at_builtin; refine wp_append_kd rfl _ _ 32 39 _ 8 rfl Try.underlying32 infoInsn rfl (.slice Aj ys.length cj) ys (some ⟨Wp.heap.size, 0, none⟩) 1 1 [insn 32 of] rfl rfl HSa.out.own rfl HLIT.out (fun _ _ h => h) (by unfold maxLen; omega) (by omega) HSa.out.size (fun q hq => HSa.out.new hq) ?_; intro v1 Wq hO1 hg1 hat1; have HS' := Lib.hid (HSa.out.push hO1 hg1); obtain ⟨Aq, cq, rfl, -, -⟩ := hO1.form; have hyl : (ys ++ [insn 32 of]).length ≤ 93 + 3 * j := (by rw [List.length_append]; simp only [List.length_cons, List.length_nil]; omega); generalize hys : ys ++ [insn 32 of] = yq at *; have HY := Lib.hid hys; clear hys hO1 hg1 hat1 HSa HLIT))
            have hlq : yq.length = ys.length + 1 := by rw [← HY.out]; simp
            have HLQ := Lib.hid hlq
            have HYQ := HY
            have HSq := HS'
            clear HY HS' HSp hyl hlq
            have hyl : yq.length ≤ 93 + 3 * j := by have := HLQ.out; have := hyn.out; omega
            have z2 : Wq.cell? ⟨m9, 2, none⟩ = some (.int .u32 mask) := HSq.out.cell HB9.out rfl
            have HSa := Lib.hid (HSq.out.alloc (.cells #[.int .u16 84, .int .u8 0, .int .u8 0, .int .u32 mask] 39))
            have HLIT := Lib.hid (lit_row (w := Wq) (e := 39) [insn 84 mask] _ rfl (wf1 (insn_wf (by decide) hwm)) (by simp))
            go_upto_region 23 with (first | (at_builtin; refine wp_append_kd rfl _ _ 32 39 _ 8 rfl Try.underlying32 infoInsn rfl (.slice Aq yq.length cq) yq (some ⟨Wq.heap.size, 0, none⟩) 1 1 [insn 84 mask] rfl rfl HSa.out.own rfl HLIT.out (fun _ _ h => h) (by unfold maxLen; omega) (by omega) HSa.out.size (fun q hq => HSa.out.new hq) ?_; intro v1 Ws hO1 hg1 hat1; have HS' := Lib.hid (HSa.out.push hO1 hg1); obtain ⟨As, cs, rfl, -, -⟩ := hO1.form; have hyl : (yq ++ [insn 84 mask]).length ≤ 94 + 3 * j := (by rw [List.length_append]; simp only [List.length_cons, List.length_nil]; omega); generalize hys : yq ++ [insn 84 mask] = ysx at *; have HY := Lib.hid hys; clear hys hO1 hg1 hat1 HSa HLIT))
            have hls : ysx.length = ys.length + 2 := by rw [← HY.out]; simp; exact HLQ.out
            have HLS := Lib.hid hls
            have HYS := HY
            have HSs := HS'
            clear HY HS' HSq hyl HLQ hls z2
            have hyl : ysx.length ≤ 94 + 3 * j := by have := HLS.out; have := hyn.out; omega
            have HSB : Hid (∀ (W' : World) (v' : Value) (ys' : List Insn), St w n bx2 W' v' ys' → W'.cell? ⟨m9, 3, none⟩ = some (.int .u32 value)) := fun W' v' ys' h => h.cell HB9.out rfl
            have hfar := fun w => c_far As ysx.length cs E w (by omega) (by omega)
            obtain ⟨D3, hD⟩ : ∃ D : Int, D = E - (ysx.length : Int) - 1 := ⟨_, rfl⟩
            rw [← hD] at hfar
            have HFAR := Lib.hid hfar
            have hDv : D3 = 3 * ((tests.length : Int) - j) - 2 := by rw [hD, ← HE.out]; have h1 := HLS.out; have h2 := HKN.out; have h3 := HNN.out; have h4 := hyn.out; omega
            have hD30 : 0 ≤ D3 := by omega
            have hD31 : D3 ≤ 100 := by omega
            have HD3 := Lib.hid hDv
            have hu : IntKind.u8.wrap D3 = D3 := IntWalk.u8_in _ ⟨by omega, by omega⟩
            clear hfar hD hDv
            go_wp2_with fail
            have HSa := Lib.hid (HSs.out.alloc (.cells #[.int .u16 21, .int .u8 0, .int .u8 D3, .int .u32 value] 39)).drew
            have HLIT := Lib.hid ((lit_row (w := Ws) (e := 39) [(⟨21, 0, D3, value⟩ : Insn)] _ rfl (wf1 (⟨(by decide : (0 : Int) ≤ 21 ∧ (21 : Int) < 65536), (by decide : (0 : Int) ≤ 0 ∧ (0 : Int) < 256), (show (0 : Int) ≤ D3 ∧ D3 < 256 by omega), hwv⟩)) (by simp)).bel (below_d1 (Below.refl _ _)))
            go_region_held3 ((fun w' => w'.cell? ⟨m9, 3, none⟩ = some (.int .u32 value))) (first | exact HSB.out _ _ _ hst1 | exact HSB.out _ _ _ HSa.out | exact HSB.out _ _ _ HSs.out.drew)
              (first | (go_at_call 31; (with_reducible refine (HFAR.out _).mono ?_); rintro e w9 ⟨rfl, rfl⟩) | (refine step_append_kd rfl (.tmp 113) (.tmp 121) 32 39 _ 8 rfl Try.underlying32 infoInsn rfl (.slice As ysx.length cs) ysx (some ⟨Ws.heap.size, 0, none⟩) 1 1 [(⟨21, 0, D3, value⟩ : Insn)] (by rfl) (by rfl) HSa.out.own rfl HLIT.out (fun _ _ h => h) (by unfold maxLen; omega) (by omega) HSa.out.size (fun q hq => HSa.out.new hq) ?_; intro v1 Wt hO1 hg1 hat1; have hst1 := HSa.out.push hO1 hg1; obtain ⟨At, ct, rfl, -, -⟩ := hO1.form))
            have HS' := Lib.hid hst1
            have hyl : (ysx ++ [(⟨21, 0, D3, value⟩ : Insn)]).length ≤ 95 + 3 * j := (by rw [List.length_append]; simp only [List.length_cons, List.length_nil]; omega)
            have hly : ysx.length + 1 = (ysx ++ [(⟨21, 0, D3, value⟩ : Insn)]).length := (by rw [List.length_append]; rfl)
            try rw [hly]
            generalize hys : ysx ++ [(⟨21, 0, D3, value⟩ : Insn)] = yt at *
            have HY := Lib.hid hys
            have HLY := Lib.hid hly
            clear hys hO1 hg1 hat1 HSa HLIT hst1 hly
            have htn : Hid (yt.length = yn.length + 3 * (j + 1)) := by have h1 := HLS.out; have h2 := HLY.out; have h3 := hyn.out; unfold Hid; omega
            have hyt : Hid (yt = yn ++ testsTo tests (j + 1)) := by
              have h : yt = yn ++ testsTo tests (j + 1) := by
                rw [testsTo_step tests j hjt, HTJ.out, ← HY.out, ← HYS.out, ← HYQ.out, hys.out]
                unfold testR
                rw [HOFF.out, ← HD3.out]
                simp only [List.append_assoc, List.cons_append, List.nil_append]
              exact h
            have hSt : Hid (St w n bx1 Wt (.slice At yt.length ct) yt) := HS'.out.less HDN2.out
            clear HSB HS' HSs hu HFAR
            go_wp2_with fail
            go_roundw
            case rel => exact ⟨j + 1, yt, by omega, by go_num, hyt, htn, hSt⟩
            case measure => simp [intOf]; omega
          · obtain rfl : j = tests.length := by omega
            rw [testsTo_all] at hys
            have z4 : wr.cell? ⟨m, 4, none⟩ = some (.int .u32 word) := hSj.out.cell HBM.out rfl
            simp only [Kd.rng] at h4
            have HSa := Lib.hid (hSj.out.alloc (.cells #[.int .u16 6, .int .u8 0, .int .u8 0, .int .u32 word] 39))
            have HLIT := Lib.hid (lit_row (w := wr) (e := 39) [insn 6 word] _ rfl (wf1 (insn_wf (by decide) h4)) (by simp))
            go_wp2_with (first | (at_builtin; refine wp_append_kd rfl _ _ 32 39 _ 8 rfl Try.underlying32 infoInsn rfl (.slice Aj ys.length cj) ys (some ⟨wr.heap.size, 0, none⟩) 1 1 [insn 6 word] rfl rfl HSa.out.own rfl HLIT.out (fun _ _ h => h) (by unfold maxLen; omega) (by omega) HSa.out.size (fun q hq => HSa.out.new hq) ?_; intro v1 Wu hO1 hg1 hat1; have HS' := Lib.hid (HSa.out.push hO1 hg1); obtain ⟨Au, cu, rfl, -, -⟩ := hO1.form; have hyl : (ys ++ [insn 6 word]).length ≤ 102 := (by rw [List.length_append]; simp only [List.length_cons, List.length_nil]; omega); generalize hys : ys ++ [insn 6 word] = yu at *; have HY := Lib.hid hys; clear hys hO1 hg1 hat1 HSa HLIT))
            have hyu : yu = (rules.take (k + 1)).flatMap refR := by
              rw [List.take_succ_eq_append_getElem hlt, List.flatMap_append, ← hzs.out, HRK.out, ← HY.out, hys.out, ← HYN'.out, ← HYM.out, ← HYL.out, HYK.out, HD1.out, HD2.out]
              simp only [List.flatMap_cons, List.flatMap_nil, List.append_nil, refR, List.append_assoc, List.cons_append, List.nil_append]
            have HYU := Lib.hid hyu
            have hSu : Hid (St w n bx0 Wu (.slice Au yu.length cu) yu) := HS'.out.less HDN.out
            clear hyu HS'
            go_roundw
            case rel => exact ⟨k + 1, yu, by omega, by go_num, HYU.out, hyl, hSu⟩
            case measure => simp [intOf]; omega
    · obtain rfl : k = rules.length := by omega
      rw [List.take_length] at hzs
      have z1 : wr.cell? ⟨n, 1, none⟩ = some (.int .u32 els) := hS.out.cell HBN.out rfl
      simp only [Kd.rng] at g1
      have HSa := Lib.hid (hS.out.alloc (.cells #[.int .u16 6, .int .u8 0, .int .u8 0, .int .u32 els] 39))
      have HLIT := Lib.hid (lit_row (w := wr) (e := 39) [insn 6 els] _ rfl (wf1 (insn_wf (by decide) g1)) (by simp))
      go_wp2_with (first | (at_builtin; refine wp_append_kd rfl _ _ 32 39 _ 8 rfl Try.underlying32 infoInsn rfl (.slice Av zs.length cv) zs (some ⟨wr.heap.size, 0, none⟩) 1 1 [insn 6 els] rfl rfl HSa.out.own rfl HLIT.out (fun _ _ h => h) (by unfold maxLen; omega) (by omega) HSa.out.size (fun q hq => HSa.out.new hq) ?_; intro v1 Wz hO1 hg1 hat1; have HS' := Lib.hid (HSa.out.push hO1 hg1); obtain ⟨Az, cz, rfl, -, -⟩ := hO1.form; have hyl : (zs ++ [insn 6 els]).length ≤ 103 := (by rw [List.length_append]; simp only [List.length_cons, List.length_nil]; omega); generalize hys : zs ++ [insn 6 els] = yz at *; have HY := Lib.hid hys; clear hys hO1 hg1 hat1 HSa HLIT))
      have hyz : yz = progP ⟨rules, els⟩ := by rw [← HY.out, hzs.out, flat_ref HBad.out]; rfl
      have HYZ := Lib.hid hyz
      clear hyz
      go_ret
      have hK9 := (HS'.out.own.shift (ok' := fun q => w.heap.size ≤ q) plain_insn (fun q hq => ⟨rfl, by rw [HSZ.out]; exact HS'.out.own.le q hq⟩)).K
      have hB9 := HS'.out.bel
      rw [← HSZ.out] at hB9
      exact ⟨_, rfl, by rw [← HYZ.out]; exact hK9, hB9⟩
end Go.Proofs.Ytiepnnjodmkolaa
