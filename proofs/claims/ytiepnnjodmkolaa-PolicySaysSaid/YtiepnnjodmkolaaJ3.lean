/- The walk of the reference's Holds. -/
import Derived.Test.YtiepnnjodmkolaaJ2
import Derived.Test.YtiepnnjodmkolaaG6
import Derived.Test.YtiepnnjodmkolaaH2
namespace Go.Proofs.Ytiepnnjodmkolaa
open Go.RowKit Go.Shelf
set_option linter.unusedVariables false
set_option linter.unusedSimpArgs false

theorem fails_at {d : Data} {ts : List Test} {k : Nat} (hk : k < ts.length) (h : failsT d ts[k] = true) : ts.any (failsT d) = true := List.any_eq_true.2 ⟨_, List.getElem_mem hk, h⟩
set_option maxRecDepth 100000 in
set_option maxHeartbeats 8000000 in
theorem c_refHolds (r : Rule) (d : Data) (hd : d.wf) (ok : Nat → Prop) (cs : List Value) (w : World) (hK : kRule.K w ok r cs) :
    Calls Try.prog 20 #[.agg cs.toArray, d.agg] w fun e w' => e = .returned (.bool (holdsR d r)) ∧ Below w.heap.size w w' := by
  obtain ⟨A0, c0, A3, c3, rfl, ⟨l0, m0, r0⟩, g1, g2, ⟨l3, m3, r3⟩, g4⟩ := kRule.opn hK
  have hn0 := r0.1
  have hn3 := r3.1
  have R0 := Lib.hid r0
  have R3 := Lib.hid r3
  have hdef : holdsR d r = ((r.archs.length == 0 || r.archs.any (fun y => d.arch == y)) && decide (r.lo ≤ d.nr) && decide (d.nr ≤ r.hi) && !(r.tests.any (failsT d))) := rfl
  have hfat := fun k (hk : k < r.tests.length) h => fails_at (d := d) hk h
  have hfst := fun k (hk : k < r.tests.length) h0 h => any_step (p := failsT d) hk h0 h
  have hword := fun i hi w => c_refWord d hd i hi w
  have hwr := fun i hi => wordB_rng' d i hi
  have HD := Lib.hid hd
  rw [hdef]
  clear l0 m0 l3 m3 r0 r3 hK hdef
  generalize hbt : (r.tests.any (failsT d)) = bt at *
  have HBT := Lib.hid hbt
  obtain ⟨archs, lo, hi, tests, word⟩ := r
  obtain ⟨n, hn⟩ : ∃ n, w.heap.size = n := ⟨_, rfl⟩
  obtain ⟨dd, hdd⟩ : ∃ dd, d = dd := ⟨_, rfl⟩
  have HDD := Lib.hid hdd
  obtain ⟨nr, arch, ip, a0, a1, a2, a3, a4, a5⟩ := d
  have hdagg : dd.agg = .agg #[.int .u32 nr, .int .u32 arch, .int .u64 ip, .int .u64 a0, .int .u64 a1, .int .u64 a2, .int .u64 a3, .int .u64 a4, .int .u64 a5] := by rw [← hdd]; rfl
  have hd1 : dd.arch = arch := by rw [← hdd]
  have hd2 : dd.nr = nr := by rw [← hdd]
  rw [hdd] at hfat hfst hword hwr HBT HD ⊢
  rw [hdagg] at hword ⊢
  rw [hd1, hd2]
  have HFAT := Lib.hid hfat
  have HFST := Lib.hid hfst
  have HWORD := Lib.hid hword
  have HWR := Lib.hid hwr
  clear hfat hfst hword hwr hbt hdagg hd1 hd2 hdd hd
  simp only [Kd.rng] at *
  obtain ⟨W1, hW1⟩ : ∃ W, W = ((w.alloc (.cells #[.slice A0 archs.length c0, .int .u32 lo, .int .u32 hi, .slice A3 tests.length c3, .int .u32 word] 51)).alloc (.cells #[.int .u32 nr, .int .u32 arch, .int .u64 ip, .int .u64 a0, .int .u64 a1, .int .u64 a2, .int .u64 a3, .int .u64 a4, .int .u64 a5] 47)) := ⟨_, rfl⟩
  have hB1 : Below w.heap.size w W1 := by rw [hW1]; exact below_al (below_al (Below.refl _ _) _) _
  have hR1 : W1.heap[n]? = some (.cells #[.slice A0 archs.length c0, .int .u32 lo, .int .u32 hi, .slice A3 tests.length c3, .int .u32 word] 51) := by rw [hW1, ← hn]; exact blk_al (blk_new _ _) _
  have hD1 : W1.heap[n + 1]? = some (.cells #[.int .u32 nr, .int .u32 arch, .int .u64 ip, .int .u64 a0, .int .u64 a1, .int .u64 a2, .int .u64 a3, .int .u64 a4, .int .u64 a5] 47) := by
    rw [hW1, ← hn]
    have h := blk_new (w.alloc (.cells #[.slice A0 archs.length c0, .int .u32 lo, .int .u32 hi, .slice A3 tests.length c3, .int .u32 word] 51)) (.cells #[.int .u32 nr, .int .u32 arch, .int .u64 ip, .int .u64 a0, .int .u64 a1, .int .u64 a2, .int .u64 a3, .int .u64 a4, .int .u64 a5] 47)
    rwa [World.size_alloc] at h
  have HB1 := Lib.hid hB1
  have HR1 := Lib.hid hR1
  have HD1 := Lib.hid hD1
  have HN := Lib.hid hn
  have HRC : Hid (∀ W, Below W1.heap.size W1 W → W.cell? ⟨n, 0, none⟩ = some (.slice A0 archs.length c0) ∧ W.cell? ⟨n, 1, none⟩ = some (.int .u32 lo) ∧ W.cell? ⟨n, 2, none⟩ = some (.int .u32 hi) ∧ W.cell? ⟨n, 3, none⟩ = some (.slice A3 tests.length c3)) := fun W h => ⟨blk_cell (blk_bel h HR1.out) 0, blk_cell (blk_bel h HR1.out) 1, blk_cell (blk_bel h HR1.out) 2, blk_cell (blk_bel h HR1.out) 3⟩
  have HDC : Hid (∀ W, Below W1.heap.size W1 W → W.cell? ⟨n + 1, 0, none⟩ = some (.int .u32 nr) ∧ W.cell? ⟨n + 1, 1, none⟩ = some (.int .u32 arch) ∧ W.cell? ⟨n + 1, 2, none⟩ = some (.int .u64 ip) ∧ W.cell? ⟨n + 1, 3, none⟩ = some (.int .u64 a0) ∧ W.cell? ⟨n + 1, 4, none⟩ = some (.int .u64 a1) ∧ W.cell? ⟨n + 1, 5, none⟩ = some (.int .u64 a2) ∧ W.cell? ⟨n + 1, 6, none⟩ = some (.int .u64 a3) ∧ W.cell? ⟨n + 1, 7, none⟩ = some (.int .u64 a4) ∧ W.cell? ⟨n + 1, 8, none⟩ = some (.int .u64 a5)) := fun W h => ⟨blk_cell (blk_bel h HD1.out) 0, blk_cell (blk_bel h HD1.out) 1, blk_cell (blk_bel h HD1.out) 2, blk_cell (blk_bel h HD1.out) 3, blk_cell (blk_bel h HD1.out) 4, blk_cell (blk_bel h HD1.out) 5, blk_cell (blk_bel h HD1.out) 6, blk_cell (blk_bel h HD1.out) 7, blk_cell (blk_bel h HD1.out) 8⟩
  have hz : ((archs.length : Int) == 0) = (archs.length == 0) := by
    rcases Nat.eq_zero_or_pos archs.length with h | h
    · rw [h]; rfl
    · have h1 : ((archs.length : Int) == 0) = false := by rw [beq_eq_false_iff_ne]; omega
      have h2 : (archs.length == 0) = false := by rw [beq_eq_false_iff_ne]; omega
      rw [h1, h2]
  obtain ⟨z, hzz⟩ : ∃ z, (archs.length == 0) = z := ⟨_, rfl⟩
  rw [hzz] at hz ⊢
  obtain ⟨ab, hab⟩ : ∃ ab, (z || archs.any (fun y => arch == y)) = ab := ⟨_, rfl⟩
  rw [hab]
  have HAB := Lib.hid hab
  clear hB1 hR1 hD1 hzz hab
  go_enter Try.func20, Try.ntmps20
  go_wp2_with fail
  rw [← hW1]
  clear hW1 hn hz
  go_loopw [5, 6] (fun v i wr => ∃ (k : Nat) (b : Bool), k ≤ archs.length ∧ i = .int .i64 k ∧ v = .bool b ∧ Hid (b = (z || (archs.take k).any (fun y => arch == y))) ∧ Hid (Below W1.heap.size W1 wr)) (fun _ i _ => archs.length - (intOf i).toNat)
  case atStart => exact ⟨0, z, Nat.zero_le _, rfl, rfl, by rw [List.take_zero, List.any_nil, Bool.or_false]; exact rfl, Below.refl _ _⟩
  case round =>
    obtain ⟨k, b, hk, rfl, rfl, hb, hB⟩ := hrel
    obtain ⟨q0, q1, q2, q3⟩ := HRC.out wr hB.out
    obtain ⟨y0, y1, y2, y3, y4, y5, y6, y7, y8⟩ := HDC.out wr hB.out
    have hBw := HB1.out.trans (hB.out.mono HB1.out.size)
    have HBW := Lib.hid hBw
    clear hBw
    by_cases hlt : k < archs.length
    · obtain ⟨ad, rfl, hok, hr, e0⟩ := Kd.int_at (R0.out.bel HBW.out) hlt
      have hk0 : (0 : Int) ≤ (k : Int) := by omega
      have hk1 : (k : Int) < (archs.length : Int) := by omega
      have hst : (archs.take (k + 1)).any (fun y => arch == y) = ((archs.take k).any (fun y => arch == y) || (arch == archs[k])) := by
        rw [List.take_succ_eq_append_getElem hlt, List.any_append]; simp
      have HST := Lib.hid hst
      clear hst y2 y3 y4 y5 y6 y7 y8 q1 q2 q3
      by_cases heq : archs[k] = arch
      · have hq : (archs[k] == arch) = true := by rw [heq]; exact beq_self_eq_true _
        have HQ : Hid (true = (z || (archs.take (k + 1)).any (fun y => arch == y))) := Lib.hid (by rw [HST.out, heq]; simp)
        clear heq HST
        go_wp2_with fail
        go_quiet (fail)
        go_wp2_with fail
        go_roundw
        case rel => exact ⟨k + 1, true, by omega, by go_num, rfl, HQ.out, below_dN hB.out nq⟩
        case measure => simp [intOf]; omega
      · have hq : (archs[k] == arch) = false := by rw [beq_eq_false_iff_ne]; exact heq
        have HQ : Hid (b = (z || (archs.take (k + 1)).any (fun y => arch == y))) := by
          have : (arch == archs[k]) = false := by rw [beq_eq_false_iff_ne]; exact fun e => heq e.symm
          rw [HST.out, this, Bool.or_false]; exact hb.out
        clear heq HST
        go_wp2_with fail
        go_quiet (fail)
        go_wp2_with fail
        go_roundw
        case rel => exact ⟨k + 1, b, by omega, by go_num, rfl, HQ.out, below_dN hB.out nq⟩
        case measure => simp [intOf]; omega
    · obtain rfl : k = archs.length := by omega
      rw [List.take_length, HAB.out] at hb
      obtain rfl := hb.out
      clear hb HAB hlt hk
      by_cases hl : lo ≤ nr
      · by_cases hh : nr ≤ hi
        · cases b with
          | false =>
            go_wp2_with fail
            go_ret
            exact ⟨ret_b (by simp), HBW.out⟩
          | true =>
            have HFIN : Hid ((true && decide (lo ≤ nr) && decide (nr ≤ hi) && !bt) = !bt) := Lib.hid (by rw [decide_eq_true hl, decide_eq_true hh]; simp)
            go_wp2_with fail
            clear q0 q1 q2 q3 y0 y1 y2 y3 y4 y5 y6 y7 y8 hl hh
            go_loopw [7, 8, 9, 10] (fun i _ _ _ wr => ∃ (k : Nat), k ≤ tests.length ∧ i = .int .i64 k ∧ Hid ((tests.take k).any (failsT dd) = false) ∧ Hid (Below W1.heap.size W1 wr)) (fun i _ _ _ _ => tests.length - (intOf i).toNat)
            case atStart => exact ⟨0, Nat.zero_le _, rfl, rfl, hB.out⟩
            case round =>
              obtain ⟨k, hk, rfl, hno, hB⟩ := hrel
              obtain ⟨q0, q1, q2, q3⟩ := HRC.out wr hB.out
              have HBW := Lib.hid (HB1.out.trans (hB.out.mono HB1.out.size))
              by_cases hlt : k < tests.length
              · obtain ⟨ad, rfl, hok, hwf, e0, e1, e2, e3⟩ := kTest.at_ (R3.out.bel HBW.out) hlt
                have HFA := Lib.hid (HFAT.out k hlt)
                have HFS := Lib.hid (HFST.out k hlt hno.out)
                obtain ⟨t, ht⟩ : ∃ t, tests[k] = t := ⟨_, rfl⟩
                rw [ht] at hwf e0 e1 e2 e3 HFA HFS
                clear ht hno
                have hfd : failsT dd t = (testBad t || (bits .and .u32 (wordB (encB dd) (4 + 2 * t.arg.toNat + if t.high then 1 else 0)) t.mask != t.value)) := rfl
                have HFD := Lib.hid hfd
                have hhalf := fun w h0 h6 => c_half t w h0 h6
                obtain ⟨arg, high, mask, value⟩ := t
                obtain ⟨⟨ha0, ha1⟩, hwm, hwv⟩ := hwf
                simp only at e0 e1 e2 e3 ha0 ha1 hwm hwv hhalf
                have HHALF := Lib.hid hhalf
                clear hfd hhalf
                by_cases hneg : arg < 0
                · have hbad : Hid (bt = true) := by
                    refine Lib.hid (HFA.out ?_)
                    rw [HFD.out]
                    have : testBad ⟨arg, high, mask, value⟩ = true := by simp [testBad, hneg]
                    rw [this, Bool.true_or]
                  obtain rfl := hbad.out
                  go_wp2_with fail
                  go_ret
                  exact ⟨ret_b (by simp), by exact below_al HBW.out _⟩
                by_cases hbig : 5 < arg
                · have hbad : Hid (bt = true) := by
                    refine Lib.hid (HFA.out ?_)
                    rw [HFD.out]
                    have : testBad ⟨arg, high, mask, value⟩ = true := by simp [testBad]; omega
                    rw [this, Bool.true_or]
                  obtain rfl := hbad.out
                  go_wp2_with fail
                  go_ret
                  exact ⟨ret_b (by simp), by exact below_al HBW.out _⟩
                obtain ⟨i, hi, ho, hii⟩ : ∃ i : Nat, i < 16 ∧ offs ⟨arg, high, mask, value⟩ = 4 * i ∧ (4 + 2 * arg.toNat + if high then 1 else 0) = i := by
                  refine ⟨4 + 2 * arg.toNat + if high then 1 else 0, by split <;> omega, ?_, rfl⟩
                  unfold offs
                  simp only
                  split <;> omega
                have hfd : failsT dd ⟨arg, high, mask, value⟩ = (bits .and .u32 (wordB (encB dd) i) mask != value) := by
                  have hg : testBad ⟨arg, high, mask, value⟩ = false := by simp [testBad]; omega
                  rw [HFD.out, hg, Bool.false_or]
                  simp only
                  rw [hii]
                have HFD2 := Lib.hid hfd
                have hha := fun w => HHALF.out w (by omega) (by omega)
                simp only [ho] at hha
                unfold Test.agg at hha
                simp only at hha
                have hwd := fun w => HWORD.out i hi w
                obtain ⟨hw0, hw1⟩ := HWR.out i hi
                generalize wordB (encB dd) i = wi at *
                have HHA := Lib.hid hha
                have HWD := Lib.hid hwd
                obtain ⟨m, hm⟩ : ∃ m, wr.heap.size = m := ⟨_, rfl⟩
                go_wp2_with fail
                obtain ⟨W5, hW5⟩ : ∃ W, W = (wr.alloc (.cells #[.int .i64 arg, .bool high, .int .u32 mask, .int .u32 value] 69)) := ⟨_, rfl⟩
                have hT5 : W5.heap[m]? = some (.cells #[.int .i64 arg, .bool high, .int .u32 mask, .int .u32 value] 69) := by rw [hW5, ← hm]; exact blk_new _ _
                have hB5 : Below wr.heap.size wr W5 := by rw [hW5]; exact below_al (Below.refl _ _) _
                rw [← hW5]
                have HB5 := Lib.hid (below_tr hB.out hB5)
                have HT5 := Lib.hid hT5
                have HSB : Hid (∀ w', Below W5.heap.size W5 w' → (w'.cell? ⟨n + 1, 0, none⟩ = some (.int .u32 nr) ∧ w'.cell? ⟨n + 1, 1, none⟩ = some (.int .u32 arch) ∧ w'.cell? ⟨n + 1, 2, none⟩ = some (.int .u64 ip) ∧ w'.cell? ⟨n + 1, 3, none⟩ = some (.int .u64 a0) ∧ w'.cell? ⟨n + 1, 4, none⟩ = some (.int .u64 a1) ∧ w'.cell? ⟨n + 1, 5, none⟩ = some (.int .u64 a2) ∧ w'.cell? ⟨n + 1, 6, none⟩ = some (.int .u64 a3) ∧ w'.cell? ⟨n + 1, 7, none⟩ = some (.int .u64 a4) ∧ w'.cell? ⟨n + 1, 8, none⟩ = some (.int .u64 a5) ∧ w'.cell? ⟨m, 0, none⟩ = some (.int .i64 arg) ∧ w'.cell? ⟨m, 1, none⟩ = some (.bool high) ∧ w'.cell? ⟨m, 2, none⟩ = some (.int .u32 mask) ∧ w'.cell? ⟨m, 3, none⟩ = some (.int .u32 value))) := fun w' h => by
                  obtain ⟨y0, y1, y2, y3, y4, y5, y6, y7, y8⟩ := HDC.out w' (below_tr HB5.out h)
                  have hT := blk_bel h HT5.out
                  exact ⟨y0, y1, y2, y3, y4, y5, y6, y7, y8, blk_cell hT 0, blk_cell hT 1, blk_cell hT 2, blk_cell hT 3⟩
                clear hW5 hT5 hB5 e0 e1 e2 e3 q0 q1 q2 q3 ho hii hfd hha hwd hm HHALF hneg hbig
                go_region_held3 (fun w' => w'.cell? ⟨n + 1, 0, none⟩ = some (.int .u32 nr) ∧ w'.cell? ⟨n + 1, 1, none⟩ = some (.int .u32 arch) ∧ w'.cell? ⟨n + 1, 2, none⟩ = some (.int .u64 ip) ∧ w'.cell? ⟨n + 1, 3, none⟩ = some (.int .u64 a0) ∧ w'.cell? ⟨n + 1, 4, none⟩ = some (.int .u64 a1) ∧ w'.cell? ⟨n + 1, 5, none⟩ = some (.int .u64 a2) ∧ w'.cell? ⟨n + 1, 6, none⟩ = some (.int .u64 a3) ∧ w'.cell? ⟨n + 1, 7, none⟩ = some (.int .u64 a4) ∧ w'.cell? ⟨n + 1, 8, none⟩ = some (.int .u64 a5) ∧ w'.cell? ⟨m, 0, none⟩ = some (.int .i64 arg) ∧ w'.cell? ⟨m, 1, none⟩ = some (.bool high) ∧ w'.cell? ⟨m, 2, none⟩ = some (.int .u32 mask) ∧ w'.cell? ⟨m, 3, none⟩ = some (.int .u32 value))
                  (first | exact HSB.out _ hb7 | exact HSB.out _ hb6 | exact HSB.out _ (below_d1 (Below.refl _ _)) | exact HSB.out _ (Below.refl _ _))
                  (first
                  | (go_at_call 32; (with_reducible refine (HHA.out _).mono ?_); rintro e w6 ⟨rfl, hb6'⟩; have hb6 : Below W5.heap.size W5 w6 := undrew hb6')
                  | (go_at_call 38; (with_reducible refine (HWD.out _).mono ?_); rintro e w7 ⟨rfl, hb7'⟩; have hb7 : Below W5.heap.size W5 w7 := below_tr hb6 hb7'))
                rename_i hHeld
                clear hHeld
                have HB7 := Lib.hid (below_tr HB5.out hb7)
                have hT7 := blk_bel hb7 HT5.out
                have z2 : w7.cell? ⟨m, 2, none⟩ = some (.int .u32 mask) := blk_cell hT7 2
                have z3 : w7.cell? ⟨m, 3, none⟩ = some (.int .u32 value) := blk_cell hT7 3
                clear hb7 hb6 hb6' hb7' hT7 HSB
                obtain ⟨bb, hbb⟩ : ∃ bb, (bits .and .u32 wi mask != value) = bb := ⟨_, rfl⟩
                rw [hbb] at HFD2
                cases bb with
                | true =>
                  have hbad : Hid (bt = true) := Lib.hid (HFA.out HFD2.out)
                  obtain rfl := hbad.out
                  go_wp2_with fail
                  go_ret
                  exact ⟨ret_b (by simp), HB1.out.trans (HB7.out.mono HB1.out.size)⟩
                | false =>
                  have HN' := Lib.hid (HFS.out HFD2.out)
                  go_wp2_with fail
                  go_roundw
                  case rel => exact ⟨k + 1, by omega, by go_num, HN'.out, HB7.out⟩
                  case measure => simp [intOf]; omega

              · obtain rfl : k = tests.length := by omega
                rw [List.take_length, HBT.out] at hno
                obtain rfl := hno.out
                go_wp2_with fail
                go_ret
                exact ⟨rfl, HBW.out⟩
        · cases b
          all_goals
            go_wp2_with fail
            go_ret
            exact ⟨ret_b (by first | (simp; done) | (simp; omega)), HBW.out⟩
      · cases b
        all_goals
          go_wp2_with fail
          go_ret
          exact ⟨ret_b (by first | (simp; done) | (simp; omega)), HBW.out⟩
end Go.Proofs.Ytiepnnjodmkolaa
