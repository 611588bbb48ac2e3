/- The walk of PolicyAhead. -/
import Derived.Test.YtiepnnjodmkolaaI1
namespace Go.Proofs.Ytiepnnjodmkolaa
open Go.RowKit Go.Shelf
set_option linter.unusedVariables false
set_option linter.unusedSimpArgs false

set_option maxRecDepth 100000 in
set_option maxHeartbeats 8000000 in
theorem c_ahead (x : Policy) (r : Rule) (d : Data) (hd : d.wf) (ok : Nat → Prop) (cs rs : List Value) (w : World) (hx : kPolicy.K w ok x cs) (hr : kRule.K w ok r rs) :
    Calls Try.prog 6 #[.agg cs.toArray, .agg rs.toArray, d.agg] w fun e w' => e = .returned (.bool true) ∧ Below w.heap.size w w' := by
  obtain ⟨n, hn⟩ : ∃ n, w.heap.size = n := ⟨_, rfl⟩
  obtain ⟨A0, c0, rfl, ⟨hpl, hpm, hrw⟩, hpe⟩ := kPolicy.opn hx
  have HRW0 := Lib.hid hrw
  clear hrw
  obtain ⟨B0, d0, B3, d3, rfl, ⟨-, -, hb0⟩, hlo, hhi, ⟨-, -, hb3⟩, hwo⟩ := kRule.opn hr
  have hna := hb0.1
  have hnt := hb3.1
  obtain ⟨rules, els⟩ := x
  have hsn := fun h => ahead_no (d := d) (r := r) (l := rules) (e := els) h
  have hsy := fun h => ahead_yes (d := d) (r := r) (l := rules) (e := els) h
  have hSP := fun x ok cs w hK => c_says x d hd ok cs w hK
  have hHR := fun cs w hK => c_holdsR r d hd ok cs w hK
  obtain ⟨hol, hhol⟩ : ∃ h, holdsR d r = h := ⟨_, rfl⟩
  obtain ⟨vp, hvp⟩ : ∃ v, saysV ⟨rules, els⟩ d = v := ⟨_, rfl⟩
  obtain ⟨vq, hvq⟩ : ∃ v, saysV ⟨r :: rules, els⟩ d = v := ⟨_, rfl⟩
  have hSPp := fun ok cs w hK => hSP ⟨rules, els⟩ ok cs w hK
  have hSPq := fun ok cs w hK => hSP ⟨r :: rules, els⟩ ok cs w hK
  simp only [hvp] at hSPp
  simp only [hvq] at hSPq
  simp only [hhol] at hHR
  unfold saysV at hvp hvq
  generalize saysW ⟨r :: rules, els⟩ d = swq at *
  generalize saysAt ⟨r :: rules, els⟩ d = saq at *
  generalize saysW ⟨rules, els⟩ d = swp at *
  generalize saysAt ⟨rules, els⟩ d = sap at *
  rw [hhol] at hsn hsy
  have HSN := Lib.hid hsn
  have HSY := Lib.hid hsy
  have HSPp := Lib.hid hSPp
  have HSPq := Lib.hid hSPq
  have HHR := Lib.hid hHR
  have HVP := Lib.hid hvp
  have HVQ := Lib.hid hvq
  have HKR := Lib.hid hr
  have HKX := Lib.hid hx
  clear hsn hsy hSP hSPp hSPq hHR hvp hvq hb0 hb3 hhol hr hx hd
  obtain ⟨archs, lo, hi, tests, word⟩ := r
  obtain ⟨nr, arch, ip, a0, a1, a2, a3, a4, a5⟩ := d
  unfold Data.agg at *
  simp only at *
  obtain ⟨W0, hW0⟩ : ∃ W, W = (((w.alloc (.cells #[.slice A0 rules.length c0, .int .u32 els] 25)).alloc (.cells #[.slice B0 archs.length d0, .int .u32 lo, .int .u32 hi, .slice B3 tests.length d3, .int .u32 word] 51)).alloc (.cells #[.int .u32 nr, .int .u32 arch, .int .u64 ip, .int .u64 a0, .int .u64 a1, .int .u64 a2, .int .u64 a3, .int .u64 a4, .int .u64 a5] 47)) := ⟨_, rfl⟩
  have hB0 : Below w.heap.size w W0 := by rw [hW0]; exact below_al (below_al (below_al (Below.refl _ _) _) _) _
  have hP0 : W0.heap[n]? = some (.cells #[.slice A0 rules.length c0, .int .u32 els] 25) := by rw [hW0, ← hn]; exact blk_al (blk_al (blk_new _ _) _) _
  have hR0 : W0.heap[n + 1]? = some (.cells #[.slice B0 archs.length d0, .int .u32 lo, .int .u32 hi, .slice B3 tests.length d3, .int .u32 word] 51) := by
    rw [hW0, ← hn]
    have h := blk_new (w.alloc (.cells #[.slice A0 rules.length c0, .int .u32 els] 25)) (.cells #[.slice B0 archs.length d0, .int .u32 lo, .int .u32 hi, .slice B3 tests.length d3, .int .u32 word] 51)
    rw [World.size_alloc] at h
    exact blk_al h _
  have hD0 : W0.heap[n + 2]? = some (.cells #[.int .u32 nr, .int .u32 arch, .int .u64 ip, .int .u64 a0, .int .u64 a1, .int .u64 a2, .int .u64 a3, .int .u64 a4, .int .u64 a5] 47) := by
    rw [hW0, ← hn]
    have h := blk_new ((w.alloc (.cells #[.slice A0 rules.length c0, .int .u32 els] 25)).alloc (.cells #[.slice B0 archs.length d0, .int .u32 lo, .int .u32 hi, .slice B3 tests.length d3, .int .u32 word] 51)) (.cells #[.int .u32 nr, .int .u32 arch, .int .u64 ip, .int .u64 a0, .int .u64 a1, .int .u64 a2, .int .u64 a3, .int .u64 a4, .int .u64 a5] 47)
    rwa [World.size_alloc, World.size_alloc] at h
  have HW0 := Lib.hid hW0
  have HB0 := Lib.hid hB0
  have HP0 := Lib.hid hP0
  have HR0 := Lib.hid hR0
  have HD0 := Lib.hid hD0
  have HN := Lib.hid hn
  have HPC : Hid (∀ W, Below W0.heap.size W0 W → W.cell? ⟨n, 0, none⟩ = some (.slice A0 rules.length c0) ∧ W.cell? ⟨n, 1, none⟩ = some (.int .u32 els)) := fun W h => ⟨blk_cell (blk_bel h HP0.out) 0, blk_cell (blk_bel h HP0.out) 1⟩
  have HRC : Hid (∀ W, Below W0.heap.size W0 W → W.cell? ⟨n + 1, 0, none⟩ = some (.slice B0 archs.length d0) ∧ W.cell? ⟨n + 1, 1, none⟩ = some (.int .u32 lo) ∧ W.cell? ⟨n + 1, 2, none⟩ = some (.int .u32 hi) ∧ W.cell? ⟨n + 1, 3, none⟩ = some (.slice B3 tests.length d3) ∧ W.cell? ⟨n + 1, 4, none⟩ = some (.int .u32 word)) := fun W h => ⟨blk_cell (blk_bel h HR0.out) 0, blk_cell (blk_bel h HR0.out) 1, blk_cell (blk_bel h HR0.out) 2, blk_cell (blk_bel h HR0.out) 3, blk_cell (blk_bel h HR0.out) 4⟩
  have HDC : Hid (∀ W, Below W0.heap.size W0 W → W.cell? ⟨n + 1 + 1, 0, none⟩ = some (.int .u32 nr) ∧ W.cell? ⟨n + 1 + 1, 1, none⟩ = some (.int .u32 arch) ∧ W.cell? ⟨n + 1 + 1, 2, none⟩ = some (.int .u64 ip) ∧ W.cell? ⟨n + 1 + 1, 3, none⟩ = some (.int .u64 a0) ∧ W.cell? ⟨n + 1 + 1, 4, none⟩ = some (.int .u64 a1) ∧ W.cell? ⟨n + 1 + 1, 5, none⟩ = some (.int .u64 a2) ∧ W.cell? ⟨n + 1 + 1, 6, none⟩ = some (.int .u64 a3) ∧ W.cell? ⟨n + 1 + 1, 7, none⟩ = some (.int .u64 a4) ∧ W.cell? ⟨n + 1 + 1, 8, none⟩ = some (.int .u64 a5)) := fun W h => ⟨blk_cell (blk_bel h HD0.out) 0, blk_cell (blk_bel h HD0.out) 1, blk_cell (blk_bel h HD0.out) 2, blk_cell (blk_bel h HD0.out) 3, blk_cell (blk_bel h HD0.out) 4, blk_cell (blk_bel h HD0.out) 5, blk_cell (blk_bel h HD0.out) 6, blk_cell (blk_bel h HD0.out) 7, blk_cell (blk_bel h HD0.out) 8⟩
  clear hW0 hB0 hP0 hR0 hD0
  go_enter Try.func6, Try.ntmps6
  go_wp2_with fail
  rw [← HW0.out]
  clear hn
  refine (c_wakes W0).mono ?_
  rintro e w1 ⟨rfl, hB1'⟩
  have HB1 := Lib.hid hB1'
  clear hB1'
  obtain ⟨x0, x1⟩ := HPC.out _ HB1.out
  go_wp2_with fail
  refine (c_over ⟨rules, els⟩ ok _ w1 (Kd.bel (d := kPolicy) (Kd.bel (d := kPolicy) HKX.out HB0.out) HB1.out)).mono ?_
  rintro e w2 ⟨rfl, hB2'⟩
  have HB2 := Lib.hid (below_tr HB1.out hB2')
  clear hB2' x0 x1
  generalize hox : overP ⟨rules, els⟩ = ox
  have HOX := Lib.hid hox
  clear hox
  obtain ⟨r0, r1, r2, r3, r4⟩ := HRC.out _ HB2.out
  cases ox with
  | true =>
    go_wp2_with fail
    go_ret
    exact ⟨rfl, by have h := HB0.out.trans (HB2.out.mono HB0.out.size); first | exact h | (rw [HN.out] at h; exact h)⟩
  | false =>
  by_cases ha : 50 < archs.length
  · go_wp2_with fail
    go_ret
    exact ⟨rfl, by have h := HB0.out.trans (HB2.out.mono HB0.out.size); first | exact h | (rw [HN.out] at h; exact h)⟩
  by_cases ht : 50 < tests.length
  · go_wp2_with fail
    go_ret
    exact ⟨rfl, by have h := HB0.out.trans (HB2.out.mono HB0.out.size); first | exact h | (rw [HN.out] at h; exact h)⟩
  obtain ⟨x0, x1⟩ := HPC.out _ HB2.out
  go_wp2_with fail
  clear x0 x1 r0 r1 r2 r3 r4 ha ht
  have hrl := (overP_no HOX.out).1
  simp only at hrl
  obtain ⟨s, hs⟩ : ∃ s, w2.heap.size = s := ⟨_, rfl⟩
  have HSS : Hid (W0.heap.size ≤ s) := by rw [← hs]; exact HB2.out.size
  have HS0 : Hid (n + 2 < W0.heap.size) := blk_lt HD0.out
  have hwW : Below w.heap.size w w2 := HB0.out.trans (HB2.out.mono HB0.out.size)
  have HRW : Hid (kRule.Row w (fun q => q < n) A0 rules) := by
    have h := Kd.Row.mono (ok' := fun q => q < n) (fun q hq => by have := hq.2; rw [HN.out] at this; exact this) HRW0.out.bound
    exact h
  have HW2 := Lib.hid (HRW.out.bel hwW)
  have HK2 := Lib.hid (kRule.mono (ok' := fun q => q < n) (fun q hq => by have := hq.2; rw [HN.out] at this; exact this) (Kd.bel (d := kRule) (Kd.bound (d := kRule) HKR.out) hwW))
  have hw2b := HB2.out
  have HBBa : Hid (Below W0.heap.size W0 (w2.alloc (.cells #[.slice B0 archs.length d0, .int .u32 lo, .int .u32 hi, .slice B3 tests.length d3, .int .u32 word] 51)).drew) := below_d1 (below_al HB2.out _)
  have HBBb : Hid (Below W0.heap.size W0 ((w2.alloc (.cells #[.slice none 0 0, .int .u32 0] 25)).alloc (.cells #[.slice B0 archs.length d0, .int .u32 lo, .int .u32 hi, .slice B3 tests.length d3, .int .u32 word] 51)).drew) := below_d1 (below_al (below_al HB2.out _) _)
  have HBBc : Hid (Below W0.heap.size W0 ((w2.alloc (.cells #[.slice B0 archs.length d0, .int .u32 lo, .int .u32 hi, .slice B3 tests.length d3, .int .u32 word] 51)).alloc (.cells #[.slice none 0 0, .int .u32 0] 25)).drew) := below_d1 (below_al (below_al HB2.out _) _)
  have hsn := HSS.out
  have hs0 := HS0.out
  have HOa : Hid (kRule.Own 51 (w2.alloc (.cells #[.slice B0 archs.length d0, .int .u32 lo, .int .u32 hi, .slice B3 tests.length d3, .int .u32 word] 51)).drew 0 (fun _ => True) (.slice (some ⟨s, 0, none⟩) 1 1) [⟨archs, lo, hi, tests, word⟩]) := by
    rw [← hs]
    exact (Kd.Own.lit (d := kRule) (cells := [.slice B0 archs.length d0, .int .u32 lo, .int .u32 hi, .slice B3 tests.length d3, .int .u32 word]) (n := 1) rfl (Kd.Reps.single (kRule.mono (fun _ _ => trivial) HK2.out)) (Nat.zero_le _) (by unfold maxLen; simp) trivial).bel (below_d1 (Below.refl _ _))
  have HOc : Hid (kRule.Own 51 ((w2.alloc (.cells #[.slice B0 archs.length d0, .int .u32 lo, .int .u32 hi, .slice B3 tests.length d3, .int .u32 word] 51)).alloc (.cells #[.slice none 0 0, .int .u32 0] 25)).drew 0 (fun q => q ≠ s + 1) (.slice (some ⟨s, 0, none⟩) 1 1) [⟨archs, lo, hi, tests, word⟩]) := by
    rw [← hs]
    exact ((Kd.Own.lit (d := kRule) (cells := [.slice B0 archs.length d0, .int .u32 lo, .int .u32 hi, .slice B3 tests.length d3, .int .u32 word]) (n := 1) rfl (Kd.Reps.single (kRule.mono (fun q hq => by omega) HK2.out)) (Nat.zero_le _) (by unfold maxLen; simp) (by rw [hs]; omega)).al _).bel (below_d1 (Below.refl _ _))
  have HOb : Hid (kRule.Own 51 ((w2.alloc (.cells #[.slice none 0 0, .int .u32 0] 25)).alloc (.cells #[.slice B0 archs.length d0, .int .u32 lo, .int .u32 hi, .slice B3 tests.length d3, .int .u32 word] 51)).drew 0 (fun q => q ≠ s) (.slice (some ⟨s + 1, 0, none⟩) 1 1) [⟨archs, lo, hi, tests, word⟩]) := by
    have h := (Kd.Own.lit (d := kRule) (e := 51) (base := 0) (cells := [.slice B0 archs.length d0, .int .u32 lo, .int .u32 hi, .slice B3 tests.length d3, .int .u32 word]) (n := 1) rfl (Kd.Reps.single (kRule.mono (ok' := fun q => q ≠ s) (fun q hq => by omega) (Kd.al (d := kRule) HK2.out (.cells #[.slice none 0 0, .int .u32 0] 25)))) (Nat.zero_le _) (by unfold maxLen; simp) (by rw [World.size_alloc, hs]; omega)).bel (below_d1 (Below.refl _ _))
    rw [World.size_alloc, hs] at h
    exact h
  have HWa : Hid (kRule.Row (w2.alloc (.cells #[.slice B0 archs.length d0, .int .u32 lo, .int .u32 hi, .slice B3 tests.length d3, .int .u32 word] 51)).drew (fun q => q < n) A0 rules) := HW2.out.bel (below_d1 (below_al (Below.refl _ _) _))
  have HWb : Hid (kRule.Row ((w2.alloc (.cells #[.slice none 0 0, .int .u32 0] 25)).alloc (.cells #[.slice B0 archs.length d0, .int .u32 lo, .int .u32 hi, .slice B3 tests.length d3, .int .u32 word] 51)).drew (fun q => q < n) A0 rules) := HW2.out.bel (below_d1 (below_al (below_al (Below.refl _ _) _) _))
  have HWc : Hid (kRule.Row ((w2.alloc (.cells #[.slice B0 archs.length d0, .int .u32 lo, .int .u32 hi, .slice B3 tests.length d3, .int .u32 word] 51)).alloc (.cells #[.slice none 0 0, .int .u32 0] 25)).drew (fun q => q < n) A0 rules) := HW2.out.bel (below_d1 (below_al (below_al (Below.refl _ _) _) _))
  have HPBb : Hid (((w2.alloc (.cells #[.slice none 0 0, .int .u32 0] 25)).alloc (.cells #[.slice B0 archs.length d0, .int .u32 lo, .int .u32 hi, .slice B3 tests.length d3, .int .u32 word] 51)).drew.heap[s]? = some (.cells #[.slice none 0 0, .int .u32 0] 25)) := by rw [← hs]; exact blk_al (blk_new _ _) _
  have HPBc : Hid (((w2.alloc (.cells #[.slice B0 archs.length d0, .int .u32 lo, .int .u32 hi, .slice B3 tests.length d3, .int .u32 word] 51)).alloc (.cells #[.slice none 0 0, .int .u32 0] 25)).drew.heap[s + 1]? = some (.cells #[.slice none 0 0, .int .u32 0] 25)) := by
    have h := blk_new (w2.alloc (.cells #[.slice B0 archs.length d0, .int .u32 lo, .int .u32 hi, .slice B3 tests.length d3, .int .u32 word] 51)) (.cells #[.slice none 0 0, .int .u32 0] 25)
    rw [World.size_alloc, hs] at h
    exact h
  have hsn := HSS.out
  have hs0 := HS0.out
  have HNEa : Hid (∀ (x : Rule) (cs : List Value), kRule.K (w2.alloc (.cells #[.slice B0 archs.length d0, .int .u32 lo, .int .u32 hi, .slice B3 tests.length d3, .int .u32 word] 51)).drew (fun q => q < n) x cs → kRule.K (w2.alloc (.cells #[.slice B0 archs.length d0, .int .u32 lo, .int .u32 hi, .slice B3 tests.length d3, .int .u32 word] 51)).drew (fun q => True ∧ some q ≠ (Value.slice (some ⟨s, 0, none⟩) 1 1).ownBlock) x cs) := fun x cs h => kRule.mono (fun q hq => ⟨trivial, by simp only [Value.ownBlock, ne_eq, Option.some.injEq]; omega⟩) h
  have HNEb : Hid (∀ (x : Rule) (cs : List Value), kRule.K ((w2.alloc (.cells #[.slice none 0 0, .int .u32 0] 25)).alloc (.cells #[.slice B0 archs.length d0, .int .u32 lo, .int .u32 hi, .slice B3 tests.length d3, .int .u32 word] 51)).drew (fun q => q < n) x cs → kRule.K ((w2.alloc (.cells #[.slice none 0 0, .int .u32 0] 25)).alloc (.cells #[.slice B0 archs.length d0, .int .u32 lo, .int .u32 hi, .slice B3 tests.length d3, .int .u32 word] 51)).drew (fun q => q ≠ s ∧ some q ≠ (Value.slice (some ⟨s + 1, 0, none⟩) 1 1).ownBlock) x cs) := fun x cs h => kRule.mono (fun q hq => ⟨by omega, by simp only [Value.ownBlock, ne_eq, Option.some.injEq]; omega⟩) h
  have HNEc : Hid (∀ (x : Rule) (cs : List Value), kRule.K ((w2.alloc (.cells #[.slice B0 archs.length d0, .int .u32 lo, .int .u32 hi, .slice B3 tests.length d3, .int .u32 word] 51)).alloc (.cells #[.slice none 0 0, .int .u32 0] 25)).drew (fun q => q < n) x cs → kRule.K ((w2.alloc (.cells #[.slice B0 archs.length d0, .int .u32 lo, .int .u32 hi, .slice B3 tests.length d3, .int .u32 word] 51)).alloc (.cells #[.slice none 0 0, .int .u32 0] 25)).drew (fun q => q ≠ s + 1 ∧ some q ≠ (Value.slice (some ⟨s, 0, none⟩) 1 1).ownBlock) x cs) := fun x cs h => kRule.mono (fun q hq => ⟨by omega, by simp only [Value.ownBlock, ne_eq, Option.some.injEq]; omega⟩) h
  have HZb : Hid ((((w2.alloc (.cells #[.slice none 0 0, .int .u32 0] 25)).alloc (.cells #[.slice B0 archs.length d0, .int .u32 lo, .int .u32 hi, .slice B3 tests.length d3, .int .u32 word] 51)).drew).heap.size = s + 2) := by show (((w2.alloc (.cells #[.slice none 0 0, .int .u32 0] 25)).alloc (.cells #[.slice B0 archs.length d0, .int .u32 lo, .int .u32 hi, .slice B3 tests.length d3, .int .u32 word] 51)).drew).heap.size = s + 2; simp [hs]
  have HZc : Hid ((((w2.alloc (.cells #[.slice B0 archs.length d0, .int .u32 lo, .int .u32 hi, .slice B3 tests.length d3, .int .u32 word] 51)).alloc (.cells #[.slice none 0 0, .int .u32 0] 25)).drew).heap.size = s + 2) := by show (((w2.alloc (.cells #[.slice B0 archs.length d0, .int .u32 lo, .int .u32 hi, .slice B3 tests.length d3, .int .u32 word] 51)).alloc (.cells #[.slice none 0 0, .int .u32 0] 25)).drew).heap.size = s + 2; simp [hs]
  have HSB : Hid (∀ W, Below W0.heap.size W0 W → (fun w' => w'.cell? ⟨n, 0, none⟩ = some (.slice A0 rules.length c0) ∧ w'.cell? ⟨n, 1, none⟩ = some (.int .u32 els) ∧ w'.cell? ⟨n + 1, 0, none⟩ = some (.slice B0 archs.length d0) ∧ w'.cell? ⟨n + 1, 1, none⟩ = some (.int .u32 lo) ∧ w'.cell? ⟨n + 1, 2, none⟩ = some (.int .u32 hi) ∧ w'.cell? ⟨n + 1, 3, none⟩ = some (.slice B3 tests.length d3) ∧ w'.cell? ⟨n + 1, 4, none⟩ = some (.int .u32 word)) W) := fun W h => by
    obtain ⟨p0, p1⟩ := HPC.out W h
    obtain ⟨q0, q1, q2, q3, q4⟩ := HRC.out W h
    exact ⟨p0, p1, q0, q1, q2, q3, q4⟩
  clear hsn hs0 hw2b hwW
  go_region_held3 (fun w' => w'.cell? ⟨n, 0, none⟩ = some (.slice A0 rules.length c0) ∧ w'.cell? ⟨n, 1, none⟩ = some (.int .u32 els) ∧ w'.cell? ⟨n + 1, 0, none⟩ = some (.slice B0 archs.length d0) ∧ w'.cell? ⟨n + 1, 1, none⟩ = some (.int .u32 lo) ∧ w'.cell? ⟨n + 1, 2, none⟩ = some (.int .u32 hi) ∧ w'.cell? ⟨n + 1, 3, none⟩ = some (.slice B3 tests.length d3) ∧ w'.cell? ⟨n + 1, 4, none⟩ = some (.int .u32 word)) ((refine HSB.out _ ?_; repeat (first | exact hB3 | exact HB2.out | exact below_d1 HB2.out | exact HBBa.out | exact HBBb.out | exact HBBc.out | refine below_d1 ?_ | refine below_al ?_ _ | refine Below.setCell ?_ (by simp; have := HSS.out; omega) _)))
    (first
    | (refine step_append_kd rfl (.tmp 31) (.tmp 33) 22 51 _ 64 rfl Try.underlying22 infoRule rfl (.slice (some ⟨s, 0, none⟩) 1 1) [⟨archs, lo, hi, tests, word⟩] A0 rules.length c0 rules (by rfl) (by rfl) HOa.out rfl HWa.out HNEa.out (by unfold maxLen; simp only [List.length_cons, List.length_nil]; omega) (by simp only [List.length_cons, List.length_nil]; omega) (Nat.zero_le _) (fun _ _ => trivial) ?_; intro v1 w3 hO3 hg3 hat3; have hB3 : Below W0.heap.size W0 w3 := HBBa.out.grown hg3 HBBa.out.size (fun q hq => by simp only [Value.ownBlock, Option.some.injEq] at hq; have := HSS.out; omega); obtain ⟨A3, c3, rfl, -, -⟩ := hO3.form)
    | (refine step_append_kd rfl (.tmp 31) (.tmp 33) 22 51 _ 64 rfl Try.underlying22 infoRule rfl (.slice (some ⟨s + 1, 0, none⟩) 1 1) [⟨archs, lo, hi, tests, word⟩] A0 rules.length c0 rules (by rfl) (by rfl) HOb.out rfl HWb.out HNEb.out (by unfold maxLen; simp only [List.length_cons, List.length_nil]; omega) (by simp only [List.length_cons, List.length_nil]; omega) (Nat.zero_le _) (fun q hq => by rw [HZb.out] at hq; omega) ?_; intro v1 w3 hO3 hg3 hat3; have hB3 : Below W0.heap.size W0 w3 := HBBb.out.grown hg3 HBBb.out.size (fun q hq => by simp only [Value.ownBlock, Option.some.injEq] at hq; have := HSS.out; omega); have hp3 := (hg3.block s (by rw [HZb.out]; omega) (fun e => by simp only [Value.ownBlock, Option.some.injEq] at e; omega)).trans HPBb.out; have q0 : w3.cell? ⟨s, 0, none⟩ = some (.slice none 0 0) := blk_cell hp3 0; have q1 : w3.cell? ⟨s, 1, none⟩ = some (.int .u32 0) := blk_cell hp3 1; have f0 : w3.frozen? ⟨s, 0, none⟩ = false := blk_free hp3 0; have f1 : w3.frozen? ⟨s, 1, none⟩ = false := blk_free hp3 1; obtain ⟨A3, c3, rfl, -, -⟩ := hO3.form)
    | (refine step_append_kd rfl (.tmp 31) (.tmp 33) 22 51 _ 64 rfl Try.underlying22 infoRule rfl (.slice (some ⟨s, 0, none⟩) 1 1) [⟨archs, lo, hi, tests, word⟩] A0 rules.length c0 rules (by rfl) (by rfl) HOc.out rfl HWc.out HNEc.out (by unfold maxLen; simp only [List.length_cons, List.length_nil]; omega) (by simp only [List.length_cons, List.length_nil]; omega) (Nat.zero_le _) (fun q hq => by rw [HZc.out] at hq; omega) ?_; intro v1 w3 hO3 hg3 hat3; have hB3 : Below W0.heap.size W0 w3 := HBBc.out.grown hg3 HBBc.out.size (fun q hq => by simp only [Value.ownBlock, Option.some.injEq] at hq; have := HSS.out; omega); have hp3 := (hg3.block (s + 1) (by rw [HZc.out]; omega) (fun e => by simp only [Value.ownBlock, Option.some.injEq] at e; omega)).trans HPBc.out; have q0 : w3.cell? ⟨s + 1, 0, none⟩ = some (.slice none 0 0) := blk_cell hp3 0; have q1 : w3.cell? ⟨s + 1, 1, none⟩ = some (.int .u32 0) := blk_cell hp3 1; have f0 : w3.frozen? ⟨s + 1, 0, none⟩ = false := blk_free hp3 0; have f1 : w3.frozen? ⟨s + 1, 1, none⟩ = false := blk_free hp3 1; obtain ⟨A3, c3, rfl, -, -⟩ := hO3.form))
  · have hO9 := Kd.Own.mono (ok' := fun _ => True) (fun _ _ => trivial) (hO3.al (.cells #[.slice A3 (rules.length + 1) c3, .int .u32 els] 25))
    have h7 := blk_new w3 (.cells #[.slice A3 (rules.length + 1) c3, .int .u32 els] 25)
    have hB9 := below_al hB3 (.cells #[.slice A3 (rules.length + 1) c3, .int .u32 els] 25)
    obtain ⟨b7, hb7⟩ : ∃ b, b = w3.heap.size := ⟨_, rfl⟩
    rw [← hb7] at h7 ⊢
    have HO9 := Lib.hid hO9
    have H7 := Lib.hid h7
    have HB9 := Lib.hid hB9
    clear hb7 hO9 h7 hB9 hB3 hO3 hg3 hat3
    generalize (w3.alloc (.cells #[.slice A3 (rules.length + 1) c3, .int .u32 els] 25)) = W9 at *

    rename_i hHeld
    clear hHeld
    clear HOa HOb HOc HWa HWb HWc HNEa HNEb HNEc HBBa HBBb HBBc HPBb HPBc HZb HZc HSB HW2 HK2 HRW HRW0 hs HSS
    have hkq : kPolicy.K W9 (fun _ => True) ⟨⟨archs, lo, hi, tests, word⟩ :: rules, els⟩ [.slice A3 (rules.length + 1) c3, .int .u32 els] := kPolicy.mk (x := ⟨⟨archs, lo, hi, tests, word⟩ :: rules, els⟩) (own_row HO9.out) hpe
    have HKQ := Lib.hid hkq
    clear hkq HO9
    have hvp := HVP.out
    have hvq := HVQ.out
    have HCP := Lib.hid (fun w hK => c_check ⟨rules, els⟩ ok [.slice A0 rules.length c0, .int .u32 els] w hK)
    have HCQ := Lib.hid (fun w hK => c_check ⟨⟨archs, lo, hi, tests, word⟩ :: rules, els⟩ (fun _ => True) [.slice A3 (rules.length + 1) c3, .int .u32 els] w hK)
    have hct := checkP_tail (r := ⟨archs, lo, hi, tests, word⟩) (l := rules) (e := els)
    have hcb := checkP_bad (p := ⟨rules, els⟩)
    have hcb2 := checkP_bad (p := ⟨⟨archs, lo, hi, tests, word⟩ :: rules, els⟩)
    generalize checkP ⟨⟨archs, lo, hi, tests, word⟩ :: rules, els⟩ = cq at *
    generalize checkP ⟨rules, els⟩ = cp at *
    obtain ⟨x0, x1⟩ := HPC.out _ HB9.out
    obtain ⟨y0, y1, y2, y3, y4, y5, y6, y7, y8⟩ := HDC.out _ HB9.out
    have HXB : Hid (∀ W, Below W0.heap.size W0 W → kPolicy.K W ok ⟨rules, els⟩ [.slice A0 rules.length c0, .int .u32 els]) := fun W h => Kd.bel (d := kPolicy) (Kd.bel (d := kPolicy) HKX.out HB0.out) h
    have HRB : Hid (∀ W, Below W0.heap.size W0 W → kRule.K W ok ⟨archs, lo, hi, tests, word⟩ [.slice B0 archs.length d0, .int .u32 lo, .int .u32 hi, .slice B3 tests.length d3, .int .u32 word]) := fun W h => Kd.bel (d := kRule) (Kd.bel (d := kRule) HKR.out HB0.out) h
    by_cases hq : cq = 0
    · have hp := hct hq
      subst hq hp
      rw [if_pos rfl] at hvp hvq
      subst hvp hvq
      clear hct hcb hcb2 HVP HVQ HCP HCQ
      go_wp2_with fail
      refine (HSPp.out _ _ W9 (HXB.out _ HB9.out)).mono ?_
      rintro e w10 ⟨rfl, hB10⟩
      have HB10 := Lib.hid (below_tr HB9.out hB10)
      have h7' := blk_bel hB10 H7.out
      have HKQ' := Lib.hid (Kd.bel (d := kPolicy) HKQ.out hB10)
      clear x0 x1 y0 y1 y2 y3 y4 y5 y6 y7 y8 hB10
      have z0 : w10.cell? ⟨b7, 0, none⟩ = some (.slice A3 (rules.length + 1) c3) := blk_cell h7' 0
      have z1 : w10.cell? ⟨b7, 1, none⟩ = some (.int .u32 els) := blk_cell h7' 1
      obtain ⟨y0, y1, y2, y3, y4, y5, y6, y7, y8⟩ := HDC.out _ HB10.out
      clear h7'
      go_wp2_with fail
      refine (HSPq.out _ _ w10 HKQ'.out).mono ?_
      rintro e w11 ⟨rfl, hB11⟩
      have HB11 := Lib.hid (below_tr HB10.out hB11)
      clear z0 z1 y0 y1 y2 y3 y4 y5 y6 y7 y8 hB11
      obtain ⟨r0, r1, r2, r3, r4⟩ := HRC.out _ HB11.out
      obtain ⟨y0, y1, y2, y3, y4, y5, y6, y7, y8⟩ := HDC.out _ HB11.out
      go_wp2_with fail
      refine (HHR.out _ w11 (HRB.out _ HB11.out)).mono ?_
      rintro e w12 ⟨rfl, hB12⟩
      have HB12 := Lib.hid (below_tr HB11.out hB12)
      clear r0 r1 r2 r3 r4 y0 y1 y2 y3 y4 y5 y6 y7 y8 hB12
      obtain ⟨r0, r1, r2, r3, r4⟩ := HRC.out _ HB12.out
      cases hol with
      | true =>
        obtain ⟨h1, h2⟩ := HSY.out rfl
        subst h1 h2
        go_wp2_with fail
        go_ret
        exact ⟨rfl, by have h := HB0.out.trans (HB12.out.mono HB0.out.size); first | exact h | (rw [HN.out] at h; exact h)⟩
      | false =>
        obtain ⟨h1, h2⟩ := HSN.out rfl
        subst h1
        have h3 : (saq != 0) = true := by simpa using h2
        clear h2
        go_wp2_with fail
        go_ret
        exact ⟨rfl, by have h := HB0.out.trans (HB12.out.mono HB0.out.size); first | exact h | (rw [HN.out] at h; exact h)⟩
    · have hq3 := hcb2 hq
      subst hq3
      rw [if_neg hq] at hvq
      have HPP : Hid (cp = 0 ∨ cp = 330) := by
        by_cases h : cp = 0
        · exact .inl h
        · exact .inr (hcb h)
      clear hct hcb hcb2 hq HVP HVQ
      rcases HPP.out with hp | hp
      all_goals
        subst hp
        first | rw [if_pos rfl] at hvp | rw [if_neg (by decide)] at hvp
        subst hvp hvq
        go_wp2_with fail
        refine (HSPp.out _ _ W9 (HXB.out _ HB9.out)).mono ?_
        rintro e w10 ⟨rfl, hB10⟩
        have HB10 := Lib.hid (below_tr HB9.out hB10)
        have h7' := blk_bel hB10 H7.out
        have HKQ' := Lib.hid (Kd.bel (d := kPolicy) HKQ.out hB10)
        have H7' := Lib.hid h7'
        clear x0 x1 y0 y1 y2 y3 y4 y5 y6 y7 y8 hB10
        have z0 : w10.cell? ⟨b7, 0, none⟩ = some (.slice A3 (rules.length + 1) c3) := blk_cell h7' 0
        have z1 : w10.cell? ⟨b7, 1, none⟩ = some (.int .u32 els) := blk_cell h7' 1
        obtain ⟨y0, y1, y2, y3, y4, y5, y6, y7, y8⟩ := HDC.out _ HB10.out
        clear h7'
        go_wp2_with fail
        refine (HSPq.out _ _ w10 HKQ'.out).mono ?_
        rintro e w11 ⟨rfl, hB11⟩
        have HB11 := Lib.hid (below_tr HB10.out hB11)
        have HKQ2 := Lib.hid (Kd.bel (d := kPolicy) HKQ'.out hB11)
        have H72 := Lib.hid (blk_bel hB11 H7'.out)
        clear z0 z1 y0 y1 y2 y3 y4 y5 y6 y7 y8 hB11
        obtain ⟨x0, x1⟩ := HPC.out _ HB11.out
        go_wp2_with fail
        refine (HCP.out w11 (HXB.out _ HB11.out)).mono ?_
        rintro e w12 ⟨rfl, hB12⟩
        have HB12 := Lib.hid (below_tr HB11.out hB12)
        have h73 := blk_bel hB12 H72.out
        have HKQ3 := Lib.hid (Kd.bel (d := kPolicy) HKQ2.out hB12)
        clear x0 x1 hB12
        have z0 : w12.cell? ⟨b7, 0, none⟩ = some (.slice A3 (rules.length + 1) c3) := blk_cell h73 0
        have z1 : w12.cell? ⟨b7, 1, none⟩ = some (.int .u32 els) := blk_cell h73 1
        clear h73
        go_wp2_with fail
        refine (HCQ.out w12 HKQ3.out).mono ?_
        rintro e w13 ⟨rfl, hB13⟩
        have HB13 := Lib.hid (below_tr HB12.out hB13)
        clear z0 z1 hB13
        go_wp2_with fail
        go_ret
        exact ⟨rfl, by have h := HB0.out.trans (HB13.out.mono HB0.out.size); first | exact h | (rw [HN.out] at h; exact h)⟩
  · have h7 := blk_set (j := 1) (blk_set (j := 0) hp3 (.slice A3 (rules.length + 1) c3)) (.int .u32 els)
    simp only [List.setIfInBounds_toArray, List.set_cons_zero, List.set_cons_succ] at h7
    have hss := HSS.out
    have hB9 := (hB3.setCell (p := ⟨s + 1, 0, none⟩) (by show W0.heap.size ≤ s + 1; omega) (.slice A3 (rules.length + 1) c3)).setCell (p := ⟨s + 1, 1, none⟩) (by show W0.heap.size ≤ s + 1; omega) (.int .u32 els)
    have hO9 := Kd.Own.mono (ok' := fun _ => True) (fun _ _ => trivial) ((hO3.far (p := ⟨s + 1, 0, none⟩) (fun q hq => hq) (.slice A3 (rules.length + 1) c3)).far (p := ⟨s + 1, 1, none⟩) (fun q hq => hq) (.int .u32 els))
    generalize ((w3.setCell ⟨s + 1, 0, none⟩ (.slice A3 (rules.length + 1) c3)).setCell ⟨s + 1, 1, none⟩ (.int .u32 els)) = W9 at *
    obtain ⟨b7, hb7⟩ : ∃ b, b = s + 1 := ⟨_, rfl⟩
    rw [← hb7] at h7 ⊢
    have HO9 := Lib.hid hO9
    have H7 := Lib.hid h7
    have HB9 := Lib.hid hB9
    clear hss hO9 h7 hB9 hB3 hO3 hg3 hat3 q0 q1 f0 f1 hp3 hb7

    rename_i hHeld
    clear hHeld
    clear HOa HOb HOc HWa HWb HWc HNEa HNEb HNEc HBBa HBBb HBBc HPBb HPBc HZb HZc HSB HW2 HK2 HRW HRW0 hs HSS
    have hkq : kPolicy.K W9 (fun _ => True) ⟨⟨archs, lo, hi, tests, word⟩ :: rules, els⟩ [.slice A3 (rules.length + 1) c3, .int .u32 els] := kPolicy.mk (x := ⟨⟨archs, lo, hi, tests, word⟩ :: rules, els⟩) (own_row HO9.out) hpe
    have HKQ := Lib.hid hkq
    clear hkq HO9
    have hvp := HVP.out
    have hvq := HVQ.out
    have HCP := Lib.hid (fun w hK => c_check ⟨rules, els⟩ ok [.slice A0 rules.length c0, .int .u32 els] w hK)
    have HCQ := Lib.hid (fun w hK => c_check ⟨⟨archs, lo, hi, tests, word⟩ :: rules, els⟩ (fun _ => True) [.slice A3 (rules.length + 1) c3, .int .u32 els] w hK)
    have hct := checkP_tail (r := ⟨archs, lo, hi, tests, word⟩) (l := rules) (e := els)
    have hcb := checkP_bad (p := ⟨rules, els⟩)
    have hcb2 := checkP_bad (p := ⟨⟨archs, lo, hi, tests, word⟩ :: rules, els⟩)
    generalize checkP ⟨⟨archs, lo, hi, tests, word⟩ :: rules, els⟩ = cq at *
    generalize checkP ⟨rules, els⟩ = cp at *
    obtain ⟨x0, x1⟩ := HPC.out _ HB9.out
    obtain ⟨y0, y1, y2, y3, y4, y5, y6, y7, y8⟩ := HDC.out _ HB9.out
    have HXB : Hid (∀ W, Below W0.heap.size W0 W → kPolicy.K W ok ⟨rules, els⟩ [.slice A0 rules.length c0, .int .u32 els]) := fun W h => Kd.bel (d := kPolicy) (Kd.bel (d := kPolicy) HKX.out HB0.out) h
    have HRB : Hid (∀ W, Below W0.heap.size W0 W → kRule.K W ok ⟨archs, lo, hi, tests, word⟩ [.slice B0 archs.length d0, .int .u32 lo, .int .u32 hi, .slice B3 tests.length d3, .int .u32 word]) := fun W h => Kd.bel (d := kRule) (Kd.bel (d := kRule) HKR.out HB0.out) h
    by_cases hq : cq = 0
    · have hp := hct hq
      subst hq hp
      rw [if_pos rfl] at hvp hvq
      subst hvp hvq
      clear hct hcb hcb2 HVP HVQ HCP HCQ
      go_wp2_with fail
      refine (HSPp.out _ _ W9 (HXB.out _ HB9.out)).mono ?_
      rintro e w10 ⟨rfl, hB10⟩
      have HB10 := Lib.hid (below_tr HB9.out hB10)
      have h7' := blk_bel hB10 H7.out
      have HKQ' := Lib.hid (Kd.bel (d := kPolicy) HKQ.out hB10)
      clear x0 x1 y0 y1 y2 y3 y4 y5 y6 y7 y8 hB10
      have z0 : w10.cell? ⟨b7, 0, none⟩ = some (.slice A3 (rules.length + 1) c3) := blk_cell h7' 0
      have z1 : w10.cell? ⟨b7, 1, none⟩ = some (.int .u32 els) := blk_cell h7' 1
      obtain ⟨y0, y1, y2, y3, y4, y5, y6, y7, y8⟩ := HDC.out _ HB10.out
      clear h7'
      go_wp2_with fail
      refine (HSPq.out _ _ w10 HKQ'.out).mono ?_
      rintro e w11 ⟨rfl, hB11⟩
      have HB11 := Lib.hid (below_tr HB10.out hB11)
      clear z0 z1 y0 y1 y2 y3 y4 y5 y6 y7 y8 hB11
      obtain ⟨r0, r1, r2, r3, r4⟩ := HRC.out _ HB11.out
      obtain ⟨y0, y1, y2, y3, y4, y5, y6, y7, y8⟩ := HDC.out _ HB11.out
      go_wp2_with fail
      refine (HHR.out _ w11 (HRB.out _ HB11.out)).mono ?_
      rintro e w12 ⟨rfl, hB12⟩
      have HB12 := Lib.hid (below_tr HB11.out hB12)
      clear r0 r1 r2 r3 r4 y0 y1 y2 y3 y4 y5 y6 y7 y8 hB12
      obtain ⟨r0, r1, r2, r3, r4⟩ := HRC.out _ HB12.out
      cases hol with
      | true =>
        obtain ⟨h1, h2⟩ := HSY.out rfl
        subst h1 h2
        go_wp2_with fail
        go_ret
        exact ⟨rfl, by have h := HB0.out.trans (HB12.out.mono HB0.out.size); first | exact h | (rw [HN.out] at h; exact h)⟩
      | false =>
        obtain ⟨h1, h2⟩ := HSN.out rfl
        subst h1
        have h3 : (saq != 0) = true := by simpa using h2
        clear h2
        go_wp2_with fail
        go_ret
        exact ⟨rfl, by have h := HB0.out.trans (HB12.out.mono HB0.out.size); first | exact h | (rw [HN.out] at h; exact h)⟩
    · have hq3 := hcb2 hq
      subst hq3
      rw [if_neg hq] at hvq
      have HPP : Hid (cp = 0 ∨ cp = 330) := by
        by_cases h : cp = 0
        · exact .inl h
        · exact .inr (hcb h)
      clear hct hcb hcb2 hq HVP HVQ
      rcases HPP.out with hp | hp
      all_goals
        subst hp
        first | rw [if_pos rfl] at hvp | rw [if_neg (by decide)] at hvp
        subst hvp hvq
        go_wp2_with fail
        refine (HSPp.out _ _ W9 (HXB.out _ HB9.out)).mono ?_
        rintro e w10 ⟨rfl, hB10⟩
        have HB10 := Lib.hid (below_tr HB9.out hB10)
        have h7' := blk_bel hB10 H7.out
        have HKQ' := Lib.hid (Kd.bel (d := kPolicy) HKQ.out hB10)
        have H7' := Lib.hid h7'
        clear x0 x1 y0 y1 y2 y3 y4 y5 y6 y7 y8 hB10
        have z0 : w10.cell? ⟨b7, 0, none⟩ = some (.slice A3 (rules.length + 1) c3) := blk_cell h7' 0
        have z1 : w10.cell? ⟨b7, 1, none⟩ = some (.int .u32 els) := blk_cell h7' 1
        obtain ⟨y0, y1, y2, y3, y4, y5, y6, y7, y8⟩ := HDC.out _ HB10.out
        clear h7'
        go_wp2_with fail
        refine (HSPq.out _ _ w10 HKQ'.out).mono ?_
        rintro e w11 ⟨rfl, hB11⟩
        have HB11 := Lib.hid (below_tr HB10.out hB11)
        have HKQ2 := Lib.hid (Kd.bel (d := kPolicy) HKQ'.out hB11)
        have H72 := Lib.hid (blk_bel hB11 H7'.out)
        clear z0 z1 y0 y1 y2 y3 y4 y5 y6 y7 y8 hB11
        obtain ⟨x0, x1⟩ := HPC.out _ HB11.out
        go_wp2_with fail
        refine (HCP.out w11 (HXB.out _ HB11.out)).mono ?_
        rintro e w12 ⟨rfl, hB12⟩
        have HB12 := Lib.hid (below_tr HB11.out hB12)
        have h73 := blk_bel hB12 H72.out
        have HKQ3 := Lib.hid (Kd.bel (d := kPolicy) HKQ2.out hB12)
        clear x0 x1 hB12
        have z0 : w12.cell? ⟨b7, 0, none⟩ = some (.slice A3 (rules.length + 1) c3) := blk_cell h73 0
        have z1 : w12.cell? ⟨b7, 1, none⟩ = some (.int .u32 els) := blk_cell h73 1
        clear h73
        go_wp2_with fail
        refine (HCQ.out w12 HKQ3.out).mono ?_
        rintro e w13 ⟨rfl, hB13⟩
        have HB13 := Lib.hid (below_tr HB12.out hB13)
        clear z0 z1 hB13
        go_wp2_with fail
        go_ret
        exact ⟨rfl, by have h := HB0.out.trans (HB13.out.mono HB0.out.size); first | exact h | (rw [HN.out] at h; exact h)⟩
  · have h7 := blk_set (j := 1) (blk_set (j := 0) hp3 (.slice A3 (rules.length + 1) c3)) (.int .u32 els)
    simp only [List.setIfInBounds_toArray, List.set_cons_zero, List.set_cons_succ] at h7
    have hss := HSS.out
    have hB9 := (hB3.setCell (p := ⟨s, 0, none⟩) (by show W0.heap.size ≤ s; omega) (.slice A3 (rules.length + 1) c3)).setCell (p := ⟨s, 1, none⟩) (by show W0.heap.size ≤ s; omega) (.int .u32 els)
    have hO9 := Kd.Own.mono (ok' := fun _ => True) (fun _ _ => trivial) ((hO3.far (p := ⟨s, 0, none⟩) (fun q hq => hq) (.slice A3 (rules.length + 1) c3)).far (p := ⟨s, 1, none⟩) (fun q hq => hq) (.int .u32 els))
    generalize ((w3.setCell ⟨s, 0, none⟩ (.slice A3 (rules.length + 1) c3)).setCell ⟨s, 1, none⟩ (.int .u32 els)) = W9 at *
    obtain ⟨b7, hb7⟩ : ∃ b, b = s := ⟨_, rfl⟩
    rw [← hb7] at h7 ⊢
    have HO9 := Lib.hid hO9
    have H7 := Lib.hid h7
    have HB9 := Lib.hid hB9
    clear hss hO9 h7 hB9 hB3 hO3 hg3 hat3 q0 q1 f0 f1 hp3 hb7

    rename_i hHeld
    clear hHeld
    clear HOa HOb HOc HWa HWb HWc HNEa HNEb HNEc HBBa HBBb HBBc HPBb HPBc HZb HZc HSB HW2 HK2 HRW HRW0 hs HSS
    have hkq : kPolicy.K W9 (fun _ => True) ⟨⟨archs, lo, hi, tests, word⟩ :: rules, els⟩ [.slice A3 (rules.length + 1) c3, .int .u32 els] := kPolicy.mk (x := ⟨⟨archs, lo, hi, tests, word⟩ :: rules, els⟩) (own_row HO9.out) hpe
    have HKQ := Lib.hid hkq
    clear hkq HO9
    have hvp := HVP.out
    have hvq := HVQ.out
    have HCP := Lib.hid (fun w hK => c_check ⟨rules, els⟩ ok [.slice A0 rules.length c0, .int .u32 els] w hK)
    have HCQ := Lib.hid (fun w hK => c_check ⟨⟨archs, lo, hi, tests, word⟩ :: rules, els⟩ (fun _ => True) [.slice A3 (rules.length + 1) c3, .int .u32 els] w hK)
    have hct := checkP_tail (r := ⟨archs, lo, hi, tests, word⟩) (l := rules) (e := els)
    have hcb := checkP_bad (p := ⟨rules, els⟩)
    have hcb2 := checkP_bad (p := ⟨⟨archs, lo, hi, tests, word⟩ :: rules, els⟩)
    generalize checkP ⟨⟨archs, lo, hi, tests, word⟩ :: rules, els⟩ = cq at *
    generalize checkP ⟨rules, els⟩ = cp at *
    obtain ⟨x0, x1⟩ := HPC.out _ HB9.out
    obtain ⟨y0, y1, y2, y3, y4, y5, y6, y7, y8⟩ := HDC.out _ HB9.out
    have HXB : Hid (∀ W, Below W0.heap.size W0 W → kPolicy.K W ok ⟨rules, els⟩ [.slice A0 rules.length c0, .int .u32 els]) := fun W h => Kd.bel (d := kPolicy) (Kd.bel (d := kPolicy) HKX.out HB0.out) h
    have HRB : Hid (∀ W, Below W0.heap.size W0 W → kRule.K W ok ⟨archs, lo, hi, tests, word⟩ [.slice B0 archs.length d0, .int .u32 lo, .int .u32 hi, .slice B3 tests.length d3, .int .u32 word]) := fun W h => Kd.bel (d := kRule) (Kd.bel (d := kRule) HKR.out HB0.out) h
    by_cases hq : cq = 0
    · have hp := hct hq
      subst hq hp
      rw [if_pos rfl] at hvp hvq
      subst hvp hvq
      clear hct hcb hcb2 HVP HVQ HCP HCQ
      go_wp2_with fail
      refine (HSPp.out _ _ W9 (HXB.out _ HB9.out)).mono ?_
      rintro e w10 ⟨rfl, hB10⟩
      have HB10 := Lib.hid (below_tr HB9.out hB10)
      have h7' := blk_bel hB10 H7.out
      have HKQ' := Lib.hid (Kd.bel (d := kPolicy) HKQ.out hB10)
      clear x0 x1 y0 y1 y2 y3 y4 y5 y6 y7 y8 hB10
      have z0 : w10.cell? ⟨b7, 0, none⟩ = some (.slice A3 (rules.length + 1) c3) := blk_cell h7' 0
      have z1 : w10.cell? ⟨b7, 1, none⟩ = some (.int .u32 els) := blk_cell h7' 1
      obtain ⟨y0, y1, y2, y3, y4, y5, y6, y7, y8⟩ := HDC.out _ HB10.out
      clear h7'
      go_wp2_with fail
      refine (HSPq.out _ _ w10 HKQ'.out).mono ?_
      rintro e w11 ⟨rfl, hB11⟩
      have HB11 := Lib.hid (below_tr HB10.out hB11)
      clear z0 z1 y0 y1 y2 y3 y4 y5 y6 y7 y8 hB11
      obtain ⟨r0, r1, r2, r3, r4⟩ := HRC.out _ HB11.out
      obtain ⟨y0, y1, y2, y3, y4, y5, y6, y7, y8⟩ := HDC.out _ HB11.out
      go_wp2_with fail
      refine (HHR.out _ w11 (HRB.out _ HB11.out)).mono ?_
      rintro e w12 ⟨rfl, hB12⟩
      have HB12 := Lib.hid (below_tr HB11.out hB12)
      clear r0 r1 r2 r3 r4 y0 y1 y2 y3 y4 y5 y6 y7 y8 hB12
      obtain ⟨r0, r1, r2, r3, r4⟩ := HRC.out _ HB12.out
      cases hol with
      | true =>
        obtain ⟨h1, h2⟩ := HSY.out rfl
        subst h1 h2
        go_wp2_with fail
        go_ret
        exact ⟨rfl, by have h := HB0.out.trans (HB12.out.mono HB0.out.size); first | exact h | (rw [HN.out] at h; exact h)⟩
      | false =>
        obtain ⟨h1, h2⟩ := HSN.out rfl
        subst h1
        have h3 : (saq != 0) = true := by simpa using h2
        clear h2
        go_wp2_with fail
        go_ret
        exact ⟨rfl, by have h := HB0.out.trans (HB12.out.mono HB0.out.size); first | exact h | (rw [HN.out] at h; exact h)⟩
    · have hq3 := hcb2 hq
      subst hq3
      rw [if_neg hq] at hvq
      have HPP : Hid (cp = 0 ∨ cp = 330) := by
        by_cases h : cp = 0
        · exact .inl h
        · exact .inr (hcb h)
      clear hct hcb hcb2 hq HVP HVQ
      rcases HPP.out with hp | hp
      all_goals
        subst hp
        first | rw [if_pos rfl] at hvp | rw [if_neg (by decide)] at hvp
        subst hvp hvq
        go_wp2_with fail
        refine (HSPp.out _ _ W9 (HXB.out _ HB9.out)).mono ?_
        rintro e w10 ⟨rfl, hB10⟩
        have HB10 := Lib.hid (below_tr HB9.out hB10)
        have h7' := blk_bel hB10 H7.out
        have HKQ' := Lib.hid (Kd.bel (d := kPolicy) HKQ.out hB10)
        have H7' := Lib.hid h7'
        clear x0 x1 y0 y1 y2 y3 y4 y5 y6 y7 y8 hB10
        have z0 : w10.cell? ⟨b7, 0, none⟩ = some (.slice A3 (rules.length + 1) c3) := blk_cell h7' 0
        have z1 : w10.cell? ⟨b7, 1, none⟩ = some (.int .u32 els) := blk_cell h7' 1
        obtain ⟨y0, y1, y2, y3, y4, y5, y6, y7, y8⟩ := HDC.out _ HB10.out
        clear h7'
        go_wp2_with fail
        refine (HSPq.out _ _ w10 HKQ'.out).mono ?_
        rintro e w11 ⟨rfl, hB11⟩
        have HB11 := Lib.hid (below_tr HB10.out hB11)
        have HKQ2 := Lib.hid (Kd.bel (d := kPolicy) HKQ'.out hB11)
        have H72 := Lib.hid (blk_bel hB11 H7'.out)
        clear z0 z1 y0 y1 y2 y3 y4 y5 y6 y7 y8 hB11
        obtain ⟨x0, x1⟩ := HPC.out _ HB11.out
        go_wp2_with fail
        refine (HCP.out w11 (HXB.out _ HB11.out)).mono ?_
        rintro e w12 ⟨rfl, hB12⟩
        have HB12 := Lib.hid (below_tr HB11.out hB12)
        have h73 := blk_bel hB12 H72.out
        have HKQ3 := Lib.hid (Kd.bel (d := kPolicy) HKQ2.out hB12)
        clear x0 x1 hB12
        have z0 : w12.cell? ⟨b7, 0, none⟩ = some (.slice A3 (rules.length + 1) c3) := blk_cell h73 0
        have z1 : w12.cell? ⟨b7, 1, none⟩ = some (.int .u32 els) := blk_cell h73 1
        clear h73
        go_wp2_with fail
        refine (HCQ.out w12 HKQ3.out).mono ?_
        rintro e w13 ⟨rfl, hB13⟩
        have HB13 := Lib.hid (below_tr HB12.out hB13)
        clear z0 z1 hB13
        go_wp2_with fail
        go_ret
        exact ⟨rfl, by have h := HB0.out.trans (HB13.out.mono HB0.out.size); first | exact h | (rw [HN.out] at h; exact h)⟩
end Go.Proofs.Ytiepnnjodmkolaa
