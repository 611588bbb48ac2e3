/- The walks of policy.same, slices.EqualFunc at rules and policy.Same. -/
import Derived.Test.YtiepnnjodmkolaaK3
namespace Go.Proofs.Ytiepnnjodmkolaa
open Go.RowKit Go.Shelf
set_option linter.unusedVariables false
set_option linter.unusedSimpArgs false

set_option maxRecDepth 100000 in
set_option maxHeartbeats 8000000 in
theorem c_sameRule (r s : Rule) (ok ok' : Nat → Prop) (cs ds : List Value) (w : World) (hK : kRule.K w ok r cs) (hL : kRule.K w ok' s ds) :
    Calls Try.prog 49 #[.agg cs.toArray, .agg ds.toArray] w fun e w' => ∃ b, e = .returned (.bool b) ∧ (b = true ↔ r = s) ∧ Below w.heap.size w w' := by
  obtain ⟨A0, c0, A3, c3, rfl, ⟨l0, m0, r0⟩, g1, g2, ⟨l3, m3, r3⟩, g4⟩ := kRule.opn hK
  obtain ⟨B0, d0, B3, d3, rfl, ⟨k0, n0, q0⟩, f1, f2, ⟨k3, n3, q3⟩, f4⟩ := kRule.opn hL
  have hn0 := r0.1
  have hn3 := r3.1
  have hp0 := q0.1
  have hp3 := q3.1
  obtain ⟨n, hsz⟩ : ∃ n, w.heap.size = n := ⟨_, rfl⟩
  obtain ⟨W1, hW1⟩ : ∃ W, W = ((w.alloc (.cells #[.slice A0 r.archs.length c0, .int .u32 r.lo, .int .u32 r.hi, .slice A3 r.tests.length c3, .int .u32 r.word] 51)).alloc (.cells #[.slice B0 s.archs.length d0, .int .u32 s.lo, .int .u32 s.hi, .slice B3 s.tests.length d3, .int .u32 s.word] 51)) := ⟨_, rfl⟩
  have hB1 : Below w.heap.size w W1 := by rw [hW1]; exact below_al (below_al (Below.refl _ _) _) _
  have hR1 : W1.heap[n]? = some (.cells #[.slice A0 r.archs.length c0, .int .u32 r.lo, .int .u32 r.hi, .slice A3 r.tests.length c3, .int .u32 r.word] 51) := by rw [hW1, ← hsz]; exact blk_al (blk_new _ _) _
  have hS1 : W1.heap[n + 1]? = some (.cells #[.slice B0 s.archs.length d0, .int .u32 s.lo, .int .u32 s.hi, .slice B3 s.tests.length d3, .int .u32 s.word] 51) := by
    rw [hW1, ← hsz]
    have h := blk_new (w.alloc (.cells #[.slice A0 r.archs.length c0, .int .u32 r.lo, .int .u32 r.hi, .slice A3 r.tests.length c3, .int .u32 r.word] 51)) (.cells #[.slice B0 s.archs.length d0, .int .u32 s.lo, .int .u32 s.hi, .slice B3 s.tests.length d3, .int .u32 s.word] 51)
    rwa [World.size_alloc] at h
  have HC : Hid (∀ W, Below W1.heap.size W1 W → W.cell? ⟨n, 0, none⟩ = some (.slice A0 r.archs.length c0) ∧ W.cell? ⟨n, 1, none⟩ = some (.int .u32 r.lo) ∧ W.cell? ⟨n, 2, none⟩ = some (.int .u32 r.hi) ∧ W.cell? ⟨n, 3, none⟩ = some (.slice A3 r.tests.length c3) ∧ W.cell? ⟨n, 4, none⟩ = some (.int .u32 r.word) ∧ W.cell? ⟨n + 1, 0, none⟩ = some (.slice B0 s.archs.length d0) ∧ W.cell? ⟨n + 1, 1, none⟩ = some (.int .u32 s.lo) ∧ W.cell? ⟨n + 1, 2, none⟩ = some (.int .u32 s.hi) ∧ W.cell? ⟨n + 1, 3, none⟩ = some (.slice B3 s.tests.length d3) ∧ W.cell? ⟨n + 1, 4, none⟩ = some (.int .u32 s.word)) := fun W h => ⟨blk_cell (blk_bel h hR1) 0, blk_cell (blk_bel h hR1) 1, blk_cell (blk_bel h hR1) 2, blk_cell (blk_bel h hR1) 3, blk_cell (blk_bel h hR1) 4, blk_cell (blk_bel h hS1) 0, blk_cell (blk_bel h hS1) 1, blk_cell (blk_bel h hS1) 2, blk_cell (blk_bel h hS1) 3, blk_cell (blk_bel h hS1) 4⟩
  have H0 := Lib.hid (c_eq32 A0 B0 r.archs s.archs _ _ c0 d0 ok ok' W1 (r0.bel hB1) (q0.bel hB1) rfl rfl)
  have H3 := Lib.hid (fun (W : World) (hW : Below W1.heap.size W1 W) => c_eqTest A3 B3 r.tests s.tests _ _ c3 d3 ok ok' W ((r3.bel hB1).bel hW) ((q3.bel hB1).bel hW) rfl rfl)
  have HB1 := Lib.hid hB1
  have HEXT : Hid (∀ b : Bool, (b = true ↔ (r.archs = s.archs ∧ r.lo = s.lo ∧ r.hi = s.hi ∧ r.tests = s.tests ∧ r.word = s.word)) → (b = true ↔ r = s)) := fun b h => by
    rw [h]
    exact ⟨fun ⟨h0, h1, h2, h3, h4⟩ => Rule.ext' h0 h1 h2 h3 h4, fun h => by subst h; exact ⟨rfl, rfl, rfl, rfl, rfl⟩⟩
  clear hR1 hS1 hB1 r0 r3 q0 q3 l0 m0 l3 m3 k0 n0 k3 n3 g1 g2 g4 f1 f2 f4 hK hL
  have hpost : ∀ e w', (∃ b, e = Ending.returned (.bool b) ∧ (b = true ↔ (r.archs = s.archs ∧ r.lo = s.lo ∧ r.hi = s.hi ∧ r.tests = s.tests ∧ r.word = s.word)) ∧ Below W1.heap.size W1 w') → (∃ b, e = Ending.returned (.bool b) ∧ (b = true ↔ r = s) ∧ Below w.heap.size w w') := fun e w' ⟨b, h1, h2, h3⟩ => ⟨b, h1, HEXT.out b h2, HB1.out.trans (h3.mono HB1.out.size)⟩
  refine Calls.mono (R := fun e w' => ∃ b, e = Ending.returned (.bool b) ∧ (b = true ↔ (r.archs = s.archs ∧ r.lo = s.lo ∧ r.hi = s.hi ∧ r.tests = s.tests ∧ r.word = s.word)) ∧ Below W1.heap.size W1 w') ?_ hpost
  clear hpost HEXT HB1
  obtain ⟨archs, lo, hi, tests, word⟩ := r
  obtain ⟨archs', lo', hi', tests', word'⟩ := s
  simp only at *
  rw [hW1] at HC H0 H3 ⊢
  clear hW1 W1
  obtain ⟨i0, i1, i2, i3, i4, j0, j1, j2, j3, j4⟩ := HC.out _ (Below.refl _ _)
  go_enter Try.func49, Try.ntmps49
  go_wp2_with fail
  refine H0.out.mono ?_
  rintro e w2 ⟨b0, rfl, hb0, hB2⟩
  have HB0 := Lib.hid hb0
  clear hb0
  clear i0 i1 i2 i3 i4 j0 j1 j2 j3 j4
  obtain ⟨i0, i1, i2, i3, i4, j0, j1, j2, j3, j4⟩ := HC.out _ hB2
  cases b0
  · go_wp2_with fail
    go_ret
    refine ⟨_, rfl, ?_, hB2⟩
    have := HB0.out
    simp at this
    simp [this]
  · have H3' := Lib.hid (H3.out _ hB2)
    by_cases hlo : lo = lo'
    · by_cases hhi : hi = hi'
      · go_wp2_with fail
        refine H3'.out.mono ?_
        rintro e w3 ⟨b3, rfl, hb3, hB3⟩
        have hB23 := below_tr hB2 hB3
        have HB3 := Lib.hid hb3
        clear hb3
        clear i0 i1 i2 i3 i4 j0 j1 j2 j3 j4
        obtain ⟨i0, i1, i2, i3, i4, j0, j1, j2, j3, j4⟩ := HC.out _ hB23
        cases b3
        · go_wp2_with fail
          go_ret
          refine ⟨_, rfl, ?_, hB23⟩
          have := HB3.out
          simp at this
          simp [this]
        · by_cases hw : word = word'
          all_goals
            go_wp2_with fail
            go_ret
            refine ⟨_, rfl, ?_, hB23⟩
            have h0 := HB0.out.1 (by first | exact trivial | rfl)
            have h3 := HB3.out.1 (by first | exact trivial | rfl)
            simp [h0, h3, hlo, hhi, hw]
      · go_wp2_with fail
        go_ret
        exact ⟨_, rfl, by simp [hhi], hB2⟩
    · go_wp2_with fail
      go_ret
      exact ⟨_, rfl, by simp [hlo], hB2⟩
theorem eg_sameRule : ∀ args w, (callFunc 49 args).run Try.prog w = .ok (.enter 49 args) w := fun args w => by
  exact (enters_of Try.func49 (by kernel_rfl) rfl) args w
set_option maxRecDepth 100000 in
set_option maxHeartbeats 4000000 in
theorem c_eqRules (A B : Option Addr) (xs ys : List Rule) (n m c d : Nat) (ok ok' : Nat → Prop) (w : World) (hA : kRule.Row w ok A xs) (hB : kRule.Row w ok' B ys) (hn0 : n = xs.length) (hm0 : m = ys.length) :
    Calls Try.prog 48 #[.slice A n c, .slice B m d, .func (.func 49) #[] #[]] w fun e w' => ∃ b, e = .returned (.bool b) ∧ (b = true ↔ xs = ys) ∧ Below w.heap.size w w' := by
  subst hn0
  have hn := hA.1
  have hm := hB.1
  have HA := Lib.hid hA
  have HB := Lib.hid hB
  have heg := eg_sameRule
  clear hA hB
  by_cases hl : xs.length = ys.length
  · obtain rfl : m = xs.length := by omega
    have HL := Lib.hid hl
    clear hl hm0
    go_enter Try.func48, Try.ntmps48
    go_wp2_with fail
    go_loopw [7, 8, 9, 17] (fun _ _ _ i wr => ∃ k : Nat, k ≤ xs.length ∧ i = .int .i64 k ∧ Below w.heap.size w wr ∧ Hid (∀ j (hj : j < xs.length) (hj' : j < ys.length), j < k → xs[j] = ys[j])) (fun _ _ _ i _ => xs.length - (intOf i).toNat)
    case atStart => exact ⟨0, Nat.zero_le _, rfl, Below.refl _ _, fun j _ _ hj => absurd hj (Nat.not_lt_zero _)⟩
    case round =>
      obtain ⟨k, hk, rfl, hB, hno⟩ := hrel
      by_cases hlt : k < xs.length
      · have hlt' : k < ys.length := by have := HL.out; omega
        obtain ⟨ad, A0, c0, A3, c3, rfl, hok, ⟨g0, g1, g2, g3, g4⟩, e0, e1, e2, e3, e4⟩ := kRule.at_ (HA.out.bel hB) hlt
        obtain ⟨bd, B0, d0, B3, d3, rfl, hok', ⟨f0, f1, f2, f3, f4⟩, q0, q1, q2, q3, q4⟩ := kRule.at_ (HB.out.bel hB) hlt'
        have hKx := kRule.mk (x := xs[k]) g0 g1 g2 g3 g4
        have hKy := kRule.mk (x := ys[k]) f0 f1 f2 f3 f4
        have hcall := c_sameRule xs[k] ys[k] ok ok' _ _ ((wr.alloc (.cells #[.slice A0 xs[k].archs.length c0, .int .u32 xs[k].lo, .int .u32 xs[k].hi, .slice A3 xs[k].tests.length c3, .int .u32 xs[k].word] 51)).alloc (.cells #[.slice B0 ys[k].archs.length d0, .int .u32 ys[k].lo, .int .u32 ys[k].hi, .slice B3 ys[k].tests.length d3, .int .u32 ys[k].word] 51)) (Kd.al (d := kRule) (Kd.al (d := kRule) hKx _) _) (Kd.al (d := kRule) (Kd.al (d := kRule) hKy _) _)
        have HCALL := Lib.hid hcall
        have hk0 : (0 : Int) ≤ (k : Int) := by omega
        have hk1 : (k : Int) < (xs.length : Int) := by omega
        have hk2 : (k : Int) < (ys.length : Int) := by omega
        have hne : Hid (xs[k] ≠ ys[k] → ¬ xs = ys) := fun he h => he (by subst h; rfl)
        have heq : Hid (xs[k] = ys[k] → ∀ j (hj : j < xs.length) (hj' : j < ys.length), j < k + 1 → xs[j] = ys[j]) := fun he j hj hj' hjk => by
          rcases Nat.lt_succ_iff_lt_or_eq.1 hjk with h | rfl
          · exact hno.out j hj hj' h
          · exact he
        have h03 := g0.2.2.1
        have h33 := g3.2.2.1
        have h13 := f0.2.2.1
        have h43 := f3.2.2.1
        clear hno hcall hKx hKy g0 g3 f0 f3
        have q0' := cell_al q0 (.cells #[.slice A0 xs[k].archs.length c0, .int .u32 xs[k].lo, .int .u32 xs[k].hi, .slice A3 xs[k].tests.length c3, .int .u32 xs[k].word] 51)
        have q1' := cell_al q1 (.cells #[.slice A0 xs[k].archs.length c0, .int .u32 xs[k].lo, .int .u32 xs[k].hi, .slice A3 xs[k].tests.length c3, .int .u32 xs[k].word] 51)
        have q2' := cell_al q2 (.cells #[.slice A0 xs[k].archs.length c0, .int .u32 xs[k].lo, .int .u32 xs[k].hi, .slice A3 xs[k].tests.length c3, .int .u32 xs[k].word] 51)
        have q3' := cell_al q3 (.cells #[.slice A0 xs[k].archs.length c0, .int .u32 xs[k].lo, .int .u32 xs[k].hi, .slice A3 xs[k].tests.length c3, .int .u32 xs[k].word] 51)
        have q4' := cell_al q4 (.cells #[.slice A0 xs[k].archs.length c0, .int .u32 xs[k].lo, .int .u32 xs[k].hi, .slice A3 xs[k].tests.length c3, .int .u32 xs[k].word] 51)
        clear q0 q1 q2 q3 q4
        generalize xs[k] = x at *
        generalize ys[k] = y at *
        go_wp2_with fail
        refine HCALL.out.mono ?_
        rintro e w2 ⟨b, rfl, hb, hB2⟩
        have HBT := Lib.hid hb
        have HBE := Lib.hid (below_tr hB ((below_al (below_al (Below.refl _ _) _) _).trans (hB2.mono (by simp; omega))))
        clear hb hB2 e0 e1 e2 e3 e4 q0' q1' q2' q3' q4' HCALL
        cases b
        · go_wp2_with fail
          go_ret
          have h := HBT.out
          simp at h
          exact ⟨_, rfl, by simp [hne.out h], HBE.out⟩
        · go_wp2_with fail
          go_roundw
          case rel => exact ⟨k + 1, by omega, by go_num, HBE.out, heq.out (HBT.out.1 (by first | exact trivial | rfl))⟩
          case measure => simp [intOf]; omega
      · obtain rfl : k = xs.length := by omega
        have he : Hid (xs = ys) := List.ext_getElem HL.out (fun j hj hj' => hno.out j hj hj' hj)
        clear hno
        go_wp2_with fail
        go_ret
        exact ⟨_, rfl, by simp [he.out], hB⟩
  · have hne : Hid (¬ xs = ys) := fun h => hl (by rw [h])
    subst hm0
    have hl' : ¬ (xs.length : Int) = (ys.length : Int) := by omega
    go_enter Try.func48, Try.ntmps48
    go_wp2_with fail
    go_ret
    exact ⟨_, rfl, by simp [hne.out], Below.refl _ _⟩
end Go.Proofs.Ytiepnnjodmkolaa
