/- The walk of PolicySays. -/
import Derived.Test.YtiepnnjodmkolaaJ4
import Derived.Test.YtiepnnjodmkolaaI1
namespace Go.Proofs.Ytiepnnjodmkolaa
open Go.RowKit Go.Shelf
set_option linter.unusedVariables false
set_option linter.unusedSimpArgs false

set_option maxRecDepth 100000 in
set_option maxHeartbeats 8000000 in
theorem c_saysLaw (x : Policy) (d : Data) (hd : d.wf) (ok : Nat → Prop) (cs : List Value) (w : World) (hx : kPolicy.K w ok x cs) :
    Calls Try.prog 5 #[.agg cs.toArray, d.agg] w fun e w' => e = .returned (.bool true) ∧ Below w.heap.size w w' := by
  obtain ⟨n, hn⟩ : ∃ n, w.heap.size = n := ⟨_, rfl⟩
  obtain ⟨A0, c0, rfl, ⟨-, -, hrw⟩, hpe⟩ := kPolicy.opn hx
  obtain ⟨rules, els⟩ := x
  have HSAY := Lib.hid (fun ok cs w hK => c_says ⟨rules, els⟩ d hd ok cs w hK)
  have HRS := Lib.hid (fun cs w hK => c_refSays ⟨rules, els⟩ d hd ok cs w hK)
  have HH1 := Lib.hid (fun r cs w hK => c_holdsR r d hd ok cs w hK)
  have HH2 := Lib.hid (fun r cs w hK => c_refHolds r d hd ok cs w hK)
  have HKX := Lib.hid hx
  have HRW := Lib.hid hrw
  have hrn := hrw.1
  clear hx hrw
  obtain ⟨dd, hdd⟩ : ∃ dd, d = dd := ⟨_, rfl⟩
  obtain ⟨nr, arch, ip, a0, a1, a2, a3, a4, a5⟩ := d
  have hdagg : dd.agg = .agg #[.int .u32 nr, .int .u32 arch, .int .u64 ip, .int .u64 a0, .int .u64 a1, .int .u64 a2, .int .u64 a3, .int .u64 a4, .int .u64 a5] := by rw [← hdd]; rfl
  rw [hdd] at HSAY HRS HH1 HH2 ⊢
  rw [hdagg] at HSAY HRS HH1 HH2 ⊢
  clear hdagg hdd hd
  simp only at *
  obtain ⟨W0, hW0⟩ : ∃ W, W = ((w.alloc (.cells #[.slice A0 rules.length c0, .int .u32 els] 25)).alloc (.cells #[.int .u32 nr, .int .u32 arch, .int .u64 ip, .int .u64 a0, .int .u64 a1, .int .u64 a2, .int .u64 a3, .int .u64 a4, .int .u64 a5] 47)) := ⟨_, rfl⟩
  have hB0 : Below w.heap.size w W0 := by rw [hW0]; exact below_al (below_al (Below.refl _ _) _) _
  have hP0 : W0.heap[n]? = some (.cells #[.slice A0 rules.length c0, .int .u32 els] 25) := by rw [hW0, ← hn]; exact blk_al (blk_new _ _) _
  have hD0 : W0.heap[n + 1]? = some (.cells #[.int .u32 nr, .int .u32 arch, .int .u64 ip, .int .u64 a0, .int .u64 a1, .int .u64 a2, .int .u64 a3, .int .u64 a4, .int .u64 a5] 47) := by
    rw [hW0, ← hn]
    have h := blk_new (w.alloc (.cells #[.slice A0 rules.length c0, .int .u32 els] 25)) (.cells #[.int .u32 nr, .int .u32 arch, .int .u64 ip, .int .u64 a0, .int .u64 a1, .int .u64 a2, .int .u64 a3, .int .u64 a4, .int .u64 a5] 47)
    rwa [World.size_alloc] at h
  have HW0 := Lib.hid hW0
  have HB0 := Lib.hid hB0
  have HP0 := Lib.hid hP0
  have HD0 := Lib.hid hD0
  have HN := Lib.hid hn
  have HPC : Hid (∀ W, Below W0.heap.size W0 W → W.cell? ⟨n, 0, none⟩ = some (.slice A0 rules.length c0) ∧ W.cell? ⟨n, 1, none⟩ = some (.int .u32 els)) := fun W h => ⟨blk_cell (blk_bel h HP0.out) 0, blk_cell (blk_bel h HP0.out) 1⟩
  have HDC : Hid (∀ w', Below W0.heap.size W0 w' → (w'.cell? ⟨n + 1, 0, none⟩ = some (.int .u32 nr) ∧ w'.cell? ⟨n + 1, 1, none⟩ = some (.int .u32 arch) ∧ w'.cell? ⟨n + 1, 2, none⟩ = some (.int .u64 ip) ∧ w'.cell? ⟨n + 1, 3, none⟩ = some (.int .u64 a0) ∧ w'.cell? ⟨n + 1, 4, none⟩ = some (.int .u64 a1) ∧ w'.cell? ⟨n + 1, 5, none⟩ = some (.int .u64 a2) ∧ w'.cell? ⟨n + 1, 6, none⟩ = some (.int .u64 a3) ∧ w'.cell? ⟨n + 1, 7, none⟩ = some (.int .u64 a4) ∧ w'.cell? ⟨n + 1, 8, none⟩ = some (.int .u64 a5))) := fun W h => ⟨blk_cell (blk_bel h HD0.out) 0, blk_cell (blk_bel h HD0.out) 1, blk_cell (blk_bel h HD0.out) 2, blk_cell (blk_bel h HD0.out) 3, blk_cell (blk_bel h HD0.out) 4, blk_cell (blk_bel h HD0.out) 5, blk_cell (blk_bel h HD0.out) 6, blk_cell (blk_bel h HD0.out) 7, blk_cell (blk_bel h HD0.out) 8⟩
  have HXB : Hid (∀ W, Below W0.heap.size W0 W → kPolicy.K W ok ⟨rules, els⟩ [.slice A0 rules.length c0, .int .u32 els]) := fun W h => Kd.bel (d := kPolicy) (Kd.bel (d := kPolicy) HKX.out HB0.out) h
  clear hW0 hB0 hP0 hD0
  go_enter Try.func5, Try.ntmps5
  go_wp2_with fail
  rw [← HW0.out]
  clear hn
  refine (c_wakes W0).mono ?_
  rintro e w1 ⟨rfl, hB1'⟩
  have HB1 := Lib.hid hB1'
  clear hB1'
  obtain ⟨x0, x1⟩ := HPC.out _ HB1.out
  go_wp2_with fail
  refine (c_over ⟨rules, els⟩ ok _ w1 (HXB.out _ HB1.out)).mono ?_
  rintro e w2 ⟨rfl, hB2'⟩
  have HB2 := Lib.hid (below_tr HB1.out hB2')
  clear hB2' x0 x1
  generalize hox : overP ⟨rules, els⟩ = ox
  have HOX := Lib.hid hox
  clear hox
  obtain ⟨x0, x1⟩ := HPC.out _ HB2.out
  cases ox with
  | true =>
    go_wp2_with fail
    go_ret
    exact ⟨rfl, by have h := HB0.out.trans (HB2.out.mono HB0.out.size); first | exact h | (rw [HN.out] at h; exact h)⟩
  | false =>
  go_wp2_with fail
  clear x0 x1
  go_loopw [6, 19] (fun _ i wr => ∃ (k : Nat), k ≤ rules.length ∧ i = .int .i64 k ∧ Hid (Below W0.heap.size W0 wr)) (fun _ i _ => rules.length - (intOf i).toNat)
  case atStart => exact ⟨0, Nat.zero_le _, rfl, HB2.out⟩
  case round =>
    obtain ⟨k, hk, rfl, hB⟩ := hrel
    have HBW := Lib.hid (HB0.out.trans (hB.out.mono HB0.out.size))
    by_cases hlt : k < rules.length
    · obtain ⟨ad, B0, d0, B3, d3, rfl, hok, ⟨h0, h1, h2, h3, h4⟩, e0, e1, e2, e3, e4⟩ := kRule.at_ (HRW.out.bel HBW.out) hlt
      have HKR := Lib.hid (kRule.mk (x := rules[k]) h0 h1 h2 h3 h4)
      have g0 := h0.2.2.1
      have g3 := h3.2.2.1
      clear h0 h1 h2 h3 h4
      generalize rules[k] = r at *
      obtain ⟨m, hm⟩ : ∃ m, wr.heap.size = m := ⟨_, rfl⟩
      go_wp2_with fail
      obtain ⟨W5, hW5⟩ : ∃ W, W = (wr.alloc (.cells #[.slice B0 r.archs.length d0, .int .u32 r.lo, .int .u32 r.hi, .slice B3 r.tests.length d3, .int .u32 r.word] 51)) := ⟨_, rfl⟩
      have hT5 : W5.heap[m]? = some (.cells #[.slice B0 r.archs.length d0, .int .u32 r.lo, .int .u32 r.hi, .slice B3 r.tests.length d3, .int .u32 r.word] 51) := by rw [hW5, ← hm]; exact blk_new _ _
      have hB5 : Below wr.heap.size wr W5 := by rw [hW5]; exact below_al (Below.refl _ _) _
      rw [← hW5]
      have HB5 := Lib.hid (below_tr hB.out hB5)
      have HT5 := Lib.hid hT5
      have HKR5 := Lib.hid (Kd.bel (d := kRule) HKR.out hB5)
      have HSB : Hid (∀ w', Below W5.heap.size W5 w' → (fun w' => w'.cell? ⟨m, 0, none⟩ = some (.slice B0 r.archs.length d0) ∧ w'.cell? ⟨m, 1, none⟩ = some (.int .u32 r.lo) ∧ w'.cell? ⟨m, 2, none⟩ = some (.int .u32 r.hi) ∧ w'.cell? ⟨m, 3, none⟩ = some (.slice B3 r.tests.length d3) ∧ w'.cell? ⟨m, 4, none⟩ = some (.int .u32 r.word) ∧ w'.cell? ⟨n + 1, 0, none⟩ = some (.int .u32 nr) ∧ w'.cell? ⟨n + 1, 1, none⟩ = some (.int .u32 arch) ∧ w'.cell? ⟨n + 1, 2, none⟩ = some (.int .u64 ip) ∧ w'.cell? ⟨n + 1, 3, none⟩ = some (.int .u64 a0) ∧ w'.cell? ⟨n + 1, 4, none⟩ = some (.int .u64 a1) ∧ w'.cell? ⟨n + 1, 5, none⟩ = some (.int .u64 a2) ∧ w'.cell? ⟨n + 1, 6, none⟩ = some (.int .u64 a3) ∧ w'.cell? ⟨n + 1, 7, none⟩ = some (.int .u64 a4) ∧ w'.cell? ⟨n + 1, 8, none⟩ = some (.int .u64 a5)) w') := fun w' h => by
        obtain ⟨y0, y1, y2, y3, y4, y5, y6, y7, y8⟩ := HDC.out w' (below_tr HB5.out h)
        have hT := blk_bel h HT5.out
        exact ⟨blk_cell hT 0, blk_cell hT 1, blk_cell hT 2, blk_cell hT 3, blk_cell hT 4, y0, y1, y2, y3, y4, y5, y6, y7, y8⟩
      clear hW5 hT5 hB5 e0 e1 e2 e3 e4 hm
      obtain ⟨hv, hvd⟩ : ∃ b, holdsR dd r = b := ⟨_, rfl⟩
      have hh1 := fun cs w hK => HH1.out r cs w hK
      have hh2 := fun cs w hK => HH2.out r cs w hK
      simp only [hvd] at hh1 hh2
      have HV1 := Lib.hid hh1
      have HV2 := Lib.hid hh2
      clear hh1 hh2 hvd
      go_region_held3 (fun w' => w'.cell? ⟨m, 0, none⟩ = some (.slice B0 r.archs.length d0) ∧ w'.cell? ⟨m, 1, none⟩ = some (.int .u32 r.lo) ∧ w'.cell? ⟨m, 2, none⟩ = some (.int .u32 r.hi) ∧ w'.cell? ⟨m, 3, none⟩ = some (.slice B3 r.tests.length d3) ∧ w'.cell? ⟨m, 4, none⟩ = some (.int .u32 r.word) ∧ w'.cell? ⟨n + 1, 0, none⟩ = some (.int .u32 nr) ∧ w'.cell? ⟨n + 1, 1, none⟩ = some (.int .u32 arch) ∧ w'.cell? ⟨n + 1, 2, none⟩ = some (.int .u64 ip) ∧ w'.cell? ⟨n + 1, 3, none⟩ = some (.int .u64 a0) ∧ w'.cell? ⟨n + 1, 4, none⟩ = some (.int .u64 a1) ∧ w'.cell? ⟨n + 1, 5, none⟩ = some (.int .u64 a2) ∧ w'.cell? ⟨n + 1, 6, none⟩ = some (.int .u64 a3) ∧ w'.cell? ⟨n + 1, 7, none⟩ = some (.int .u64 a4) ∧ w'.cell? ⟨n + 1, 8, none⟩ = some (.int .u64 a5))
        (first | exact HSB.out _ hb7 | exact HSB.out _ hb6 | exact HSB.out _ (below_d1 (Below.refl _ _)) | exact HSB.out _ (Below.refl _ _))
        (first
        | (go_at_call 19; (with_reducible refine (HV1.out _ _ (Kd.bel (d := kRule) HKR5.out (below_d1 (Below.refl _ _)))).mono ?_); rintro e w6 ⟨rfl, hb6'⟩; have hb6 : Below W5.heap.size W5 w6 := undrew hb6')
        | (go_at_call 20; (with_reducible refine (HV2.out _ _ (Kd.bel (d := kRule) HKR5.out hb6)).mono ?_); rintro e w7 ⟨rfl, hb7'⟩; have hb7 : Below W5.heap.size W5 w7 := below_tr hb6 hb7'))
      rename_i hHeld
      have HB7 := Lib.hid (below_tr HB5.out hb7)
      clear hHeld hb7 hb6 hb6' hb7' HSB
      cases hv
      all_goals
        go_wp2_with fail
        go_roundw
        case rel => exact ⟨k + 1, by omega, by go_num, HB7.out⟩
        case measure => simp [intOf]; omega
    · obtain rfl : k = rules.length := by omega
      go_wp2_with fail
      have HSB : Hid (∀ w', Below wr.heap.size wr w' → (fun w' => w'.cell? ⟨n, 0, none⟩ = some (.slice A0 rules.length c0) ∧ w'.cell? ⟨n, 1, none⟩ = some (.int .u32 els) ∧ w'.cell? ⟨n + 1, 0, none⟩ = some (.int .u32 nr) ∧ w'.cell? ⟨n + 1, 1, none⟩ = some (.int .u32 arch) ∧ w'.cell? ⟨n + 1, 2, none⟩ = some (.int .u64 ip) ∧ w'.cell? ⟨n + 1, 3, none⟩ = some (.int .u64 a0) ∧ w'.cell? ⟨n + 1, 4, none⟩ = some (.int .u64 a1) ∧ w'.cell? ⟨n + 1, 5, none⟩ = some (.int .u64 a2) ∧ w'.cell? ⟨n + 1, 6, none⟩ = some (.int .u64 a3) ∧ w'.cell? ⟨n + 1, 7, none⟩ = some (.int .u64 a4) ∧ w'.cell? ⟨n + 1, 8, none⟩ = some (.int .u64 a5)) w') := fun w' h => by
        obtain ⟨y0, y1, y2, y3, y4, y5, y6, y7, y8⟩ := HDC.out w' (below_tr hB.out h)
        obtain ⟨x0, x1⟩ := HPC.out w' (below_tr hB.out h)
        exact ⟨x0, x1, y0, y1, y2, y3, y4, y5, y6, y7, y8⟩
      have hrc := rightB_iff ⟨rules, els⟩
      have HCP : Hid (∀ w (_ : Below W0.heap.size W0 w), Calls Try.prog 13 #[.agg #[.slice A0 rules.length c0, .int .u32 els]] w fun e w' => ∃ ds : List Value, e = .returned (.agg ds.toArray) ∧ kPolicy.K w' (fun q => w.heap.size ≤ q) ⟨rules, els⟩ ds ∧ Below w.heap.size w w') := fun w h => c_copied ⟨rules, els⟩ ok _ w (HXB.out _ h) HOX.out
      have HCK := Lib.hid (fun ok cs w hK => c_check ⟨rules, els⟩ ok cs w hK)
      have HSV := Lib.hid (show saysV ⟨rules, els⟩ dd = _ from rfl)
      by_cases h0 : checkP ⟨rules, els⟩ = 0
      · have hsv : saysV ⟨rules, els⟩ dd = .tuple #[.int .u32 (saysW ⟨rules, els⟩ dd), .int .i64 (saysAt ⟨rules, els⟩ dd), .int .i64 0] := by unfold saysV; rw [if_pos h0]
        have hSAY := HSAY.out
        have hCK := HCK.out
        have hrt := hrc.2 h0
        simp only [hsv] at hSAY
        simp only [h0] at hCK
        have hRS := HRS.out
        generalize saysW ⟨rules, els⟩ dd = sw at *
        generalize saysAt ⟨rules, els⟩ dd = sa at *
        have HSA := Lib.hid hSAY
        have HCK0 := Lib.hid hCK
        have HRT := Lib.hid hrt
        have HRS0 := Lib.hid hRS
        clear hSAY hCK hrt hRS hsv hrc h0 HSV
        go_region_held3 (fun w' => w'.cell? ⟨n, 0, none⟩ = some (.slice A0 rules.length c0) ∧ w'.cell? ⟨n, 1, none⟩ = some (.int .u32 els) ∧ w'.cell? ⟨n + 1, 0, none⟩ = some (.int .u32 nr) ∧ w'.cell? ⟨n + 1, 1, none⟩ = some (.int .u32 arch) ∧ w'.cell? ⟨n + 1, 2, none⟩ = some (.int .u64 ip) ∧ w'.cell? ⟨n + 1, 3, none⟩ = some (.int .u64 a0) ∧ w'.cell? ⟨n + 1, 4, none⟩ = some (.int .u64 a1) ∧ w'.cell? ⟨n + 1, 5, none⟩ = some (.int .u64 a2) ∧ w'.cell? ⟨n + 1, 6, none⟩ = some (.int .u64 a3) ∧ w'.cell? ⟨n + 1, 7, none⟩ = some (.int .u64 a4) ∧ w'.cell? ⟨n + 1, 8, none⟩ = some (.int .u64 a5))
          (first | exact HSB.out _ hb7 | exact HSB.out _ hb6 | exact HSB.out _ (below_d1 (Below.refl _ _)) | exact HSB.out _ (Below.refl _ _))
          (first
          | (go_at_call 13; (with_reducible refine (HCP.out _ (below_d1 hB.out)).mono ?_); rintro e w6 ⟨ds, rfl, hds, hb6'⟩; have hb6 : Below wr.heap.size wr w6 := undrew hb6')
          | (go_at_call 21; (with_reducible refine (HSA.out _ _ _ hds).mono ?_); rintro e w7 ⟨rfl, hb7'⟩; have hb7 : Below wr.heap.size wr w7 := below_tr hb6 hb7'))
        rename_i hHeld
        have HB7 := Lib.hid (below_tr hB.out hb7)
        clear hHeld hb7 hb6 hb6' hb7' HSB hds
        obtain ⟨x0, x1⟩ := HPC.out _ HB7.out
        go_wp2_with fail
        refine (c_right ⟨rules, els⟩ ok _ w7 (HXB.out _ HB7.out)).mono ?_
        rintro e w8 ⟨rfl, hB8⟩
        rw [HRT.out]
        have HB8 := Lib.hid (below_tr HB7.out hB8)
        clear hB8 x0 x1
        obtain ⟨x0, x1⟩ := HPC.out _ HB8.out
        obtain ⟨y0, y1, y2, y3, y4, y5, y6, y7, y8⟩ := HDC.out _ HB8.out
        go_wp2_with fail
        refine (HRS0.out _ w8 (HXB.out _ HB8.out)).mono ?_
        rintro e w9 ⟨rfl, hB9⟩
        have HB9 := Lib.hid (below_tr HB8.out hB9)
        clear hB9 x0 x1 y0 y1 y2 y3 y4 y5 y6 y7 y8
        obtain ⟨x0, x1⟩ := HPC.out _ HB9.out
        go_wp2_with fail
        refine (HCP.out w9 HB9.out).mono ?_
        rintro e w10 ⟨ds10, rfl, hds10, hB10⟩
        have HB10 := Lib.hid (below_tr HB9.out hB10)
        have HDS10 := Lib.hid hds10
        clear hB10 x0 x1 hds10
        go_wp2_with fail
        refine (HCK0.out _ _ w10 HDS10.out).mono ?_
        rintro e w11 ⟨rfl, hB11⟩
        have HB11 := Lib.hid (below_tr HB10.out hB11)
        clear hB11
        go_wp2_with fail
        go_ret
        exact ⟨rfl, by have h := HB0.out.trans (HB11.out.mono HB0.out.size); first | exact h | (rw [HN.out] at h; exact h)⟩
      · have hsv : saysV ⟨rules, els⟩ dd = .tuple #[.int .u32 0, .int .i64 0, .int .i64 330] := by unfold saysV; rw [if_neg h0]
        have hrf : rightB ⟨rules, els⟩ = false := by
          cases hb : rightB ⟨rules, els⟩ with
          | false => rfl
          | true => exact absurd (hrc.1 hb) h0
        have hSAY := HSAY.out
        have hCK := HCK.out
        simp only [hsv] at hSAY
        simp only [checkP_bad h0] at hCK
        have HSA := Lib.hid hSAY
        have HCK0 := Lib.hid hCK
        have HRT := Lib.hid hrf
        clear hSAY hCK hrf hsv hrc h0 HSV
        go_region_held3 (fun w' => w'.cell? ⟨n, 0, none⟩ = some (.slice A0 rules.length c0) ∧ w'.cell? ⟨n, 1, none⟩ = some (.int .u32 els) ∧ w'.cell? ⟨n + 1, 0, none⟩ = some (.int .u32 nr) ∧ w'.cell? ⟨n + 1, 1, none⟩ = some (.int .u32 arch) ∧ w'.cell? ⟨n + 1, 2, none⟩ = some (.int .u64 ip) ∧ w'.cell? ⟨n + 1, 3, none⟩ = some (.int .u64 a0) ∧ w'.cell? ⟨n + 1, 4, none⟩ = some (.int .u64 a1) ∧ w'.cell? ⟨n + 1, 5, none⟩ = some (.int .u64 a2) ∧ w'.cell? ⟨n + 1, 6, none⟩ = some (.int .u64 a3) ∧ w'.cell? ⟨n + 1, 7, none⟩ = some (.int .u64 a4) ∧ w'.cell? ⟨n + 1, 8, none⟩ = some (.int .u64 a5))
          (first | exact HSB.out _ hb7 | exact HSB.out _ hb6 | exact HSB.out _ (below_d1 (Below.refl _ _)) | exact HSB.out _ (Below.refl _ _))
          (first
          | (go_at_call 13; (with_reducible refine (HCP.out _ (below_d1 hB.out)).mono ?_); rintro e w6 ⟨ds, rfl, hds, hb6'⟩; have hb6 : Below wr.heap.size wr w6 := undrew hb6')
          | (go_at_call 21; (with_reducible refine (HSA.out _ _ _ hds).mono ?_); rintro e w7 ⟨rfl, hb7'⟩; have hb7 : Below wr.heap.size wr w7 := below_tr hb6 hb7'))
        rename_i hHeld
        have HB7 := Lib.hid (below_tr hB.out hb7)
        clear hHeld hb7 hb6 hb6' hb7' HSB hds
        obtain ⟨x0, x1⟩ := HPC.out _ HB7.out
        go_wp2_with fail
        refine (c_right ⟨rules, els⟩ ok _ w7 (HXB.out _ HB7.out)).mono ?_
        rintro e w8 ⟨rfl, hB8⟩
        rw [HRT.out]
        have HB8 := Lib.hid (below_tr HB7.out hB8)
        clear hB8 x0 x1
        obtain ⟨x0, x1⟩ := HPC.out _ HB8.out
        go_wp2_with fail
        refine (HCP.out w8 HB8.out).mono ?_
        rintro e w10 ⟨ds10, rfl, hds10, hB10⟩
        have HB10 := Lib.hid (below_tr HB8.out hB10)
        have HDS10 := Lib.hid hds10
        clear hB10 x0 x1 hds10
        go_wp2_with fail
        refine (HCK0.out _ _ w10 HDS10.out).mono ?_
        rintro e w11 ⟨rfl, hB11⟩
        have HB11 := Lib.hid (below_tr HB10.out hB11)
        clear hB11
        go_wp2_with fail
        go_ret
        exact ⟨rfl, by have h := HB0.out.trans (HB11.out.mono HB0.out.size); first | exact h | (rw [HN.out] at h; exact h)⟩
end Go.Proofs.Ytiepnnjodmkolaa
