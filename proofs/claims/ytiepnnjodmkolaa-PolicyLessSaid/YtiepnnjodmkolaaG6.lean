/- The walk of policy.Holds. -/
import Derived.Test.YtiepnnjodmkolaaG5
namespace Go.Proofs.Ytiepnnjodmkolaa
open Go.RowKit Go.Shelf
set_option linter.unusedVariables false
set_option linter.unusedSimpArgs false

/-- Does a rule hold of a call? -/
def holdsR (d : Data) (r : Rule) : Bool := (r.archs.length == 0 || r.archs.any (fun y => d.arch == y)) && decide (r.lo ≤ d.nr) && decide (d.nr ≤ r.hi) && !(r.tests.any (failsT d))
set_option maxRecDepth 100000 in
set_option maxHeartbeats 8000000 in
theorem c_holdsR (r : Rule) (d : Data) (hd : d.wf) (ok : Nat → Prop) (cs : List Value) (w : World) (hK : kRule.K w ok r cs) :
    Calls Try.prog 19 #[.agg cs.toArray, d.agg] w fun e w' => e = .returned (.bool (holdsR d r)) ∧ Below w.heap.size w w' := by
  obtain ⟨A0, c0, A3, c3, rfl, ⟨l0, m0, r0⟩, g1, g2, ⟨l3, m3, r3⟩, g4⟩ := kRule.opn hK
  have heg := enters_of Try.func35 (by kernel_rfl) rfl
  have HA := Lib.hid (fun w v (h : (Kd.int .u32).Row w ok A0 r.archs) => c_contains32 A0 r.archs _ c0 v ok w h rfl)
  have HT := Lib.hid (fun w (h : kTest.Row w ok A3 r.tests) => c_containsTestM A3 r.tests _ c3 _ d.agg (failsT d) ok w h rfl heg (fun t ht W => c_fails d hd t ht W))
  have hn0 := r0.1
  have hn3 := r3.1
  have R0 := Lib.hid r0
  have R3 := Lib.hid r3
  clear l0 m0 l3 m3 r0 r3 hK heg
  have hdef : holdsR d r = ((r.archs.length == 0 || r.archs.any (fun y => d.arch == y)) && decide (r.lo ≤ d.nr) && decide (d.nr ≤ r.hi) && !(r.tests.any (failsT d))) := rfl
  rw [hdef]
  clear hdef
  generalize hba : (r.archs.any (fun y => d.arch == y)) = ba
  have HBA := Lib.hid hba
  generalize (r.tests.any (failsT d)) = bt at *
  obtain ⟨archs, lo, hi, tests, word⟩ := r
  obtain ⟨nr, arch, ip, a0, a1, a2, a3, a4, a5⟩ := d
  unfold Data.agg at *
  simp only [Kd.rng] at *
  obtain ⟨n, hsz⟩ : ∃ n, w.heap.size = n := ⟨_, rfl⟩
  obtain ⟨W1, hW1⟩ : ∃ W, W = ((w.alloc (.cells #[.slice A0 archs.length c0, .int .u32 lo, .int .u32 hi, .slice A3 tests.length c3, .int .u32 word] 51)).alloc (.cells #[.int .u32 nr, .int .u32 arch, .int .u64 ip, .int .u64 a0, .int .u64 a1, .int .u64 a2, .int .u64 a3, .int .u64 a4, .int .u64 a5] 47)) := ⟨_, rfl⟩
  have hB1 : Below w.heap.size w W1 := by rw [hW1]; exact below_al (below_al (Below.refl _ _) _) _
  have hR1 : W1.heap[n]? = some (.cells #[.slice A0 archs.length c0, .int .u32 lo, .int .u32 hi, .slice A3 tests.length c3, .int .u32 word] 51) := by rw [hW1, ← hsz]; exact blk_al (blk_new _ _) _
  have hD1 : W1.heap[n + 1]? = some (.cells #[.int .u32 nr, .int .u32 arch, .int .u64 ip, .int .u64 a0, .int .u64 a1, .int .u64 a2, .int .u64 a3, .int .u64 a4, .int .u64 a5] 47) := by
    rw [hW1, ← hsz]
    have h := blk_new (w.alloc (.cells #[.slice A0 archs.length c0, .int .u32 lo, .int .u32 hi, .slice A3 tests.length c3, .int .u32 word] 51)) (.cells #[.int .u32 nr, .int .u32 arch, .int .u64 ip, .int .u64 a0, .int .u64 a1, .int .u64 a2, .int .u64 a3, .int .u64 a4, .int .u64 a5] 47)
    rwa [World.size_alloc] at h
  have HB1 := Lib.hid hB1
  have HR1 := Lib.hid hR1
  have HD1 := Lib.hid hD1
  have HSZ := Lib.hid hsz
  have HW1 := Lib.hid hW1
  have HC : Hid (∀ W, Below W1.heap.size W1 W → W.cell? ⟨n, 0, none⟩ = some (.slice A0 archs.length c0) ∧ W.cell? ⟨n, 1, none⟩ = some (.int .u32 lo) ∧ W.cell? ⟨n, 2, none⟩ = some (.int .u32 hi) ∧ W.cell? ⟨n, 3, none⟩ = some (.slice A3 tests.length c3) ∧ W.cell? ⟨n + 1, 0, none⟩ = some (.int .u32 nr) ∧ W.cell? ⟨n + 1, 1, none⟩ = some (.int .u32 arch)) := fun W h => ⟨blk_cell (blk_bel h HR1.out) 0, blk_cell (blk_bel h HR1.out) 1, blk_cell (blk_bel h HR1.out) 2, blk_cell (blk_bel h HR1.out) 3, blk_cell (blk_bel h HD1.out) 0, blk_cell (blk_bel h HD1.out) 1⟩
  clear hB1 hR1 hD1 hba hW1
  have HBX : Hid (Below w.heap.size w ((w.alloc (.cells #[.slice A0 archs.length c0, .int .u32 lo, .int .u32 hi, .slice A3 tests.length c3, .int .u32 word] 51)).alloc (.cells #[.int .u32 nr, .int .u32 arch, .int .u64 ip, .int .u64 a0, .int .u64 a1, .int .u64 a2, .int .u64 a3, .int .u64 a4, .int .u64 a5] 47))) := by rw [← HW1.out]; exact HB1.out
  rcases Nat.eq_zero_or_pos archs.length with h0 | h0
  · have hz : ((archs.length : Int) == 0) = true := by rw [beq_iff_eq]; omega
    have HZ : Hid ((archs.length == 0) = true) := by rw [h0]; rfl
    rw [HZ.out, Bool.true_or]
    clear h0 hsz
    by_cases hl : lo ≤ nr
    · by_cases hh : nr ≤ hi
      · go_enter Try.func19, Try.ntmps19
        go_wp2_with fail
        refine (HT.out _ (R3.out.bel HBX.out)).mono ?_
        rintro e w3 ⟨rfl, hB3⟩
        go_wp2_with fail
        go_ret
        exact ⟨ret_b (by simp [hl, hh]), HBX.out.trans (hB3.mono HBX.out.size)⟩
      · go_enter Try.func19, Try.ntmps19
        go_wp2_with fail
        go_ret
        exact ⟨ret_b (by simp; omega), HBX.out⟩
    · go_enter Try.func19, Try.ntmps19
      go_wp2_with fail
      go_ret
      exact ⟨ret_b (by simp; omega), HBX.out⟩
  · have hz : ((archs.length : Int) == 0) = false := by rw [beq_eq_false_iff_ne]; omega
    have HZ : Hid ((archs.length == 0) = false) := by
      have : ¬ archs.length = 0 := by omega
      exact Lib.hid (by simpa using this)
    rw [HZ.out, Bool.false_or]
    have hA := HA.out _ arch (R0.out.bel HBX.out)
    rw [HBA.out] at hA
    have HA2 := Lib.hid hA
    have HC2 : Hid (∀ W, Below ((w.alloc (.cells #[.slice A0 archs.length c0, .int .u32 lo, .int .u32 hi, .slice A3 tests.length c3, .int .u32 word] 51)).alloc (.cells #[.int .u32 nr, .int .u32 arch, .int .u64 ip, .int .u64 a0, .int .u64 a1, .int .u64 a2, .int .u64 a3, .int .u64 a4, .int .u64 a5] 47)).heap.size ((w.alloc (.cells #[.slice A0 archs.length c0, .int .u32 lo, .int .u32 hi, .slice A3 tests.length c3, .int .u32 word] 51)).alloc (.cells #[.int .u32 nr, .int .u32 arch, .int .u64 ip, .int .u64 a0, .int .u64 a1, .int .u64 a2, .int .u64 a3, .int .u64 a4, .int .u64 a5] 47)) W → Below W1.heap.size W1 W) := fun W h => by rw [HW1.out]; exact h
    clear h0 hA HBA HA
    cases ba with
    | false =>
      go_enter Try.func19, Try.ntmps19
      go_wp2_with fail
      refine HA2.out.mono ?_
      rintro e w2 ⟨rfl, hB2⟩
      go_wp2_with fail
      go_ret
      exact ⟨ret_b (by simp), HBX.out.trans (hB2.mono HBX.out.size)⟩
    | true =>
      by_cases hl : lo ≤ nr
      · by_cases hh : nr ≤ hi
        all_goals
          go_enter Try.func19, Try.ntmps19
          go_wp2_with fail
          refine HA2.out.mono ?_
          rintro e w2 ⟨rfl, hB2⟩
          have HB2 := Lib.hid hB2
          obtain ⟨k0, k1, k2, k3, k4, k5⟩ := HC.out _ (HC2.out _ hB2)
          clear hB2
          go_wp2_with fail
        · refine (HT.out _ ((R3.out.bel HBX.out).bel HB2.out)).mono ?_
          rintro e w3 ⟨rfl, hB3⟩
          go_wp2_with fail
          go_ret
          have hB23 := below_tr HB2.out hB3
          exact ⟨ret_b (by simp [hl, hh]), HBX.out.trans (hB23.mono HBX.out.size)⟩
        · go_ret
          exact ⟨ret_b (by simp; omega), by have h := HBX.out.trans (HB2.out.mono HBX.out.size); first | exact h | (rw [HSZ.out] at h; exact h)⟩
      · go_enter Try.func19, Try.ntmps19
        go_wp2_with fail
        refine HA2.out.mono ?_
        rintro e w2 ⟨rfl, hB2⟩
        have HB2 := Lib.hid hB2
        obtain ⟨k0, k1, k2, k3, k4, k5⟩ := HC.out _ (HC2.out _ hB2)
        clear hB2
        go_wp2_with fail
        go_ret
        exact ⟨ret_b (by simp; omega), by have h := HBX.out.trans (HB2.out.mono HBX.out.size); first | exact h | (rw [HSZ.out] at h; exact h)⟩
end Go.Proofs.Ytiepnnjodmkolaa
