/- The walks of policy.Same and of the reference's Shadows. -/
import Derived.Test.YtiepnnjodmkolaaK4
namespace Go.Proofs.Ytiepnnjodmkolaa
open Go.RowKit Go.Shelf
set_option linter.unusedVariables false
set_option linter.unusedSimpArgs false

set_option maxRecDepth 100000 in
set_option maxHeartbeats 4000000 in
theorem c_samePolicy (p q : Policy) (ok ok' : Nat → Prop) (cs ds : List Value) (w : World) (hK : kPolicy.K w ok p cs) (hL : kPolicy.K w ok' q ds) :
    Calls Try.prog 27 #[.agg cs.toArray, .agg ds.toArray] w fun e w' => ∃ b, e = .returned (.bool b) ∧ (b = true ↔ p = q) ∧ Below w.heap.size w w' := by
  obtain ⟨A0, c0, rfl, ⟨l0, m0, r0⟩, g1⟩ := kPolicy.opn hK
  obtain ⟨B0, d0, rfl, ⟨k0, n0, q0⟩, f1⟩ := kPolicy.opn hL
  obtain ⟨rules, els⟩ := p
  obtain ⟨rules', els'⟩ := q
  simp only at *
  have hB1 : Below w.heap.size w ((w.alloc (.cells #[.slice A0 rules.length c0, .int .u32 els] 25)).alloc (.cells #[.slice B0 rules'.length d0, .int .u32 els'] 25)) := below_al (below_al (Below.refl _ _) _) _
  have H := Lib.hid (c_eqRules A0 B0 rules rules' _ _ c0 d0 ok ok' _ (r0.bel hB1) (q0.bel hB1) rfl rfl)
  have HB1 := Lib.hid hB1
  clear hB1 r0 q0 hK hL
  by_cases he : els = els'
  · subst he
    go_enter Try.func27, Try.ntmps27
    go_wp2_with (go_at_call 48; refine H.out.mono ?_; rintro e w2 ⟨b, rfl, hb, hB2⟩; have HBB := Lib.hid hb; clear hb)
    go_ret
    exact ⟨_, rfl, by rw [HBB.out]; simp, HB1.out.trans (hB2.mono HB1.out.size)⟩
  · go_enter Try.func27, Try.ntmps27
    go_wp2_with fail
    go_ret
    exact ⟨_, rfl, by simp [he], HB1.out⟩
set_option maxRecDepth 100000 in
set_option maxHeartbeats 8000000 in
theorem c_refShadows (r s : Rule) (ok ok' : Nat → Prop) (cs ds : List Value) (w : World) (hK : kRule.K w ok r cs) (hL : kRule.K w ok' s ds) :
    Calls Try.prog 28 #[.agg cs.toArray, .agg ds.toArray] w fun e w' => e = .returned (.bool (shadR r s)) ∧ Below w.heap.size w w' := by
  obtain ⟨A0, c0, A3, c3, rfl, ⟨l0, m0, r0⟩, g1, g2, ⟨l3, m3, r3⟩, g4⟩ := kRule.opn hK
  obtain ⟨B0, d0, B3, d3, rfl, ⟨k0, n0, q0⟩, f1, f2, ⟨k3, n3, q3⟩, f4⟩ := kRule.opn hL
  have hn0 := r0.1
  have hn3 := r3.1
  have hp0 := q0.1
  have hp3 := q3.1
  obtain ⟨archs, lo, hi, tests, word⟩ := r
  obtain ⟨archs', lo', hi', tests', word'⟩ := s
  unfold shadR missR
  simp only at *
  have R0 := Lib.hid r0
  have Q0 := Lib.hid q0
  clear r0 q0 r3 q3 hK hL l0 m0 l3 m3 k0 n0 k3 n3 g1 g2 g4 f1 f2 f4
  by_cases hT : tests.length = 0
  · by_cases hlo : lo ≤ lo'
    · by_cases hhi : hi' ≤ hi
      · by_cases hA : archs.length = 0
        · go_enter Try.func28, Try.ntmps28
          go_wp2_with fail
          go_ret
          exact ⟨ret_b (by simp [hT, hlo, hhi, hA]), below_al (below_al (Below.refl _ _) _) _⟩
        · have HRES : Hid (∀ b, b = (decide (0 < archs'.length) && !(archs'.any fun y => !(archs.any fun z => y == z))) → b = ((tests.length == 0) && ((archs.length == 0) || (decide (0 < archs'.length) && !(archs'.any fun y => !(archs.any fun z => y == z)))) && decide (lo ≤ lo') && decide (hi' ≤ hi))) := fun b h => by
            subst h
            have hA' : (archs.length == 0) = false := by simpa using hA
            simp [hT, hlo, hhi, hA']
          obtain ⟨res, hres⟩ : ∃ res, res = ((tests.length == 0) && ((archs.length == 0) || (decide (0 < archs'.length) && !(archs'.any fun y => !(archs.any fun z => y == z)))) && decide (lo ≤ lo') && decide (hi' ≤ hi)) := ⟨_, rfl⟩
          rw [← hres]
          rw [← hres] at HRES
          clear hres
          go_enter Try.func28, Try.ntmps28
          go_wp2_with fail
          generalize hW1 : ((w.alloc (.cells #[.slice A0 archs.length c0, .int .u32 lo, .int .u32 hi, .slice A3 0 c3, .int .u32 word] 51)).alloc (.cells #[.slice B0 archs'.length d0, .int .u32 lo', .int .u32 hi', .slice B3 tests'.length d3, .int .u32 word'] 51)) = W1
          have hB1 : Below w.heap.size w W1 := by rw [← hW1]; exact below_al (below_al (Below.refl _ _) _) _
          have hx0 : W1.cell? ⟨w.heap.size, 0, none⟩ = some (.slice A0 archs.length c0) := by rw [← hW1]; exact blk_cell (blk_al (blk_new _ _) _) 0
          have hy0 : W1.cell? ⟨w.heap.size + 1, 0, none⟩ = some (.slice B0 archs'.length d0) := by
            rw [← hW1]
            have h := blk_new (w.alloc (.cells #[.slice A0 archs.length c0, .int .u32 lo, .int .u32 hi, .slice A3 0 c3, .int .u32 word] 51)) (.cells #[.slice B0 archs'.length d0, .int .u32 lo', .int .u32 hi', .slice B3 tests'.length d3, .int .u32 word'] 51)
            rw [World.size_alloc] at h
            exact blk_cell h 0
          have HB1 := Lib.hid hB1
          have HX := Lib.hid hx0
          have HY := Lib.hid hy0
          clear hW1 hB1 hx0 hy0
          have HFIN : Hid (∀ W, Below W1.heap.size W1 W → Below w.heap.size w W) := fun W h => HB1.out.trans (h.mono HB1.out.size)
          have R1 := Lib.hid (R0.out.bel HB1.out)
          have Q1 := Lib.hid (Q0.out.bel HB1.out)
          clear R0 Q0
          generalize w.heap.size + 1 = n1 at *
          generalize hN : w.heap.size = n0 at *
          have HN := Lib.hid hN
          clear hN
          go_loopw [5, 6, 7] (fun i _ _ wr => ∃ k : Nat, k ≤ archs'.length ∧ i = .int .i64 k ∧ Below W1.heap.size W1 wr ∧ Hid (∀ j (hj : j < archs'.length), j < k → (archs.any fun z => archs'[j] == z) = true)) (fun i _ _ _ => archs'.length - (intOf i).toNat)
          case atStart => exact ⟨0, Nat.zero_le _, rfl, Below.refl _ _, fun j _ hj => absurd hj (Nat.not_lt_zero _)⟩
          case round =>
            obtain ⟨k, hk, rfl, hB, hno⟩ := hrel
            have hy := cell_bel hB HY.out
            by_cases hlt : k < archs'.length
            · obtain ⟨bd, rfl, hok', hwf', e0⟩ := Kd.int_at (Q1.out.bel hB) hlt
              have HYES : Hid ((archs.any fun z => archs'[k] == z) = true → ∀ j (hj : j < archs'.length), j < k + 1 → (archs.any fun z => archs'[j] == z) = true) := fun he j hj hjk => by
                rcases Nat.lt_succ_iff_lt_or_eq.1 hjk with h | rfl
                · exact hno.out j hj h
                · exact he
              have HNO : Hid ((archs.any fun z => archs'[k] == z) = false → false = res) := fun he => HRES.out false (by
                have : (archs'.any fun y => !(archs.any fun z => y == z)) = true := List.any_eq_true.2 ⟨_, List.getElem_mem hlt, by rw [he]; rfl⟩
                rw [this]; simp)
              have hk0 : (0 : Int) ≤ (k : Int) := by omega
              have hk1 : (k : Int) < (archs'.length : Int) := by omega
              have HB := Lib.hid hB
              have HE0 := Lib.hid e0
              clear hno hB e0
              generalize archs'[k] = v at *
              go_wp2_with fail
              clear hy
              go_loopw [6, 7] (fun f j wq => ∃ m : Nat, m ≤ archs.length ∧ j = .int .i64 m ∧ f = .bool ((archs.take m).any fun z => v == z) ∧ Below W1.heap.size W1 wq ∧ Hid (wq.cell? (bd.add k) = some (.int .u32 v))) (fun _ j _ => archs.length - (intOf j).toNat)
              case atStart => exact ⟨0, Nat.zero_le _, rfl, rfl, HB.out, HE0.out⟩
              case round =>
                obtain ⟨m, hm, rfl, rfl, hBq, hEq⟩ := hrel
                have hx := cell_bel hBq HX.out
                have hy := cell_bel hBq HY.out
                by_cases hltm : m < archs.length
                · obtain ⟨ad, rfl, hoka, hwfa, a0⟩ := Kd.int_at (R1.out.bel hBq) hltm
                  have hm0 : (0 : Int) ≤ (m : Int) := by omega
                  have hm1 : (m : Int) < (archs.length : Int) := by omega
                  have hee := hEq.out
                  have HT : Hid (((archs.take (m + 1)).any fun z => v == z) = (((archs.take m).any fun z => v == z) || (v == archs[m]))) := by
                    rw [List.take_succ_eq_append_getElem hltm, List.any_append]
                    simp [Hid]
                  generalize ((archs.take m).any fun z => v == z) = t0 at *
                  generalize archs[m] = x at *
                  have HBQ := Lib.hid hBq
                  clear hBq
                  by_cases hvx : x = v
                  · subst hvx
                    go_wp2_with fail
                    go_quiet (fail)
                    go_wp2_with fail
                    go_roundw
                    case rel => exact ⟨m + 1, by omega, by go_num, by rw [HT.out]; simp, below_dN HBQ.out nq, cell_bel (below_dN (Below.refl _ _) nq) hEq.out⟩
                    case measure => simp [intOf]; omega
                  · have hvx' : (v == x) = false := by rw [beq_eq_false_iff_ne]; exact fun h => hvx h.symm
                    have HVX := Lib.hid hvx'
                    clear hvx'
                    go_wp2_with fail
                    go_quiet (fail)
                    go_wp2_with fail
                    go_roundw
                    case rel => exact ⟨m + 1, by omega, by go_num, by rw [HT.out, HVX.out]; simp, below_dN HBQ.out nq, cell_bel (below_dN (Below.refl _ _) nq) hEq.out⟩
                    case measure => simp [intOf]; omega
                · obtain rfl : m = archs.length := by omega
                  rw [List.take_length]
                  generalize (archs.any fun z => v == z) = f at *
                  cases f
                  · go_wp2_with fail
                    go_ret
                    exact ⟨ret_b (HNO.out (by first | exact trivial | rfl)), by rw [HN.out]; exact HFIN.out _ hBq⟩
                  · go_wp2_with fail
                    go_roundw
                    case rel => exact ⟨k + 1, by omega, by go_num, hBq, HYES.out (by first | exact trivial | rfl)⟩
                    case measure => simp [intOf]; omega
            · obtain rfl : k = archs'.length := by omega
              have HR := Lib.hid (HRES.out (decide (0 < archs'.length)) (by
                have : (archs'.any fun y => !(archs.any fun z => y == z)) = false := by
                  rw [List.any_eq_false]
                  intro y hy
                  obtain ⟨i, hi, rfl⟩ := List.getElem_of_mem hy
                  rw [hno.out i hi hi]
                  simp
                rw [this]; simp))
              clear hno HRES
              go_wp2_with fail
              go_ret
              exact ⟨ret_b HR.out, by rw [HN.out]; exact HFIN.out _ hB⟩
      · go_enter Try.func28, Try.ntmps28
        go_wp2_with fail
        go_ret
        exact ⟨ret_b (by have hz : decide (hi' ≤ hi) = false := (by simp; omega); rw [hz]; simp), below_al (below_al (Below.refl _ _) _) _⟩
    · go_enter Try.func28, Try.ntmps28
      go_wp2_with fail
      go_ret
      exact ⟨ret_b (by have hz : decide (lo ≤ lo') = false := (by simp; omega); rw [hz]; simp), below_al (below_al (Below.refl _ _) _) _⟩
  · go_enter Try.func28, Try.ntmps28
    go_wp2_with fail
    go_ret
    exact ⟨ret_b (by simp [hT]), below_al (below_al (Below.refl _ _) _) _⟩
end Go.Proofs.Ytiepnnjodmkolaa
