/- The walk of policy.Check. -/
import Derived.Test.YtiepnnjodmkolaaC1
namespace Go.Proofs.Ytiepnnjodmkolaa
open Go.RowKit Go.Shelf
set_option linter.unusedVariables false
set_option linter.unusedSimpArgs false

def testBad (t : Test) : Bool := decide (t.arg < 0) || decide (t.arg ≥ 6)
set_option maxHeartbeats 400000 in
theorem c_testBad (x : Test) (w : World) :
    Calls Try.prog 42 #[x.agg] w fun e w' => e = .returned (.bool (testBad x)) ∧ Below w.heap.size w w' := by
  obtain ⟨a, h, m, v⟩ := x
  unfold Test.agg testBad
  go_enter Try.func42, Try.ntmps42
  go_wp2
  all_goals
    go_ret
    refine ⟨?_, (Below.refl _ _).alloc (Nat.le_refl _) _⟩
    simp [*]
    try omega
theorem eg_testBad : ∀ args w, (callFunc 42 args).run Try.prog w = .ok (.enter 42 args) w := fun args w => by
  exact (enters_of Try.func42 (by kernel_rfl) rfl) args w
def ruleBad (r : Rule) : Bool := decide (2 < r.archs.length) || decide (r.lo > r.hi) || decide (3 < r.tests.length) || r.tests.any testBad
set_option maxHeartbeats 400000 in
theorem c_ruleBad (x : Rule) (ok : Nat → Prop) (cs : List Value) (w : World) (hK : kRule.K w ok x cs) :
    Calls Try.prog 41 #[.agg cs.toArray] w fun e w' => e = .returned (.bool (ruleBad x)) ∧ Below w.heap.size w w' := by
  obtain ⟨A0, c0, A3, c3, rfl, ⟨l0, m0, r0⟩, g1, g2, ⟨l3, m3, r3⟩, g4⟩ := kRule.opn hK
  obtain ⟨archs, lo, hi, tests, word⟩ := x
  unfold ruleBad
  have h0 := r0.1
  have h3 := r3.1
  simp only at *
  have hct := c_containsTest A3 tests _ c3 42 #[] testBad ok _ (r3.bel (below_al (Below.refl w.heap.size w) (.cells #[.slice A0 archs.length c0, .int .u32 lo, .int .u32 hi, .slice A3 tests.length c3, .int .u32 word] 51))) rfl eg_testBad (fun x _ W cs _ h => by
    obtain ⟨rfl, _⟩ := h
    exact c_testBad x W)
  generalize tests.any testBad = tb at hct
  go_enter Try.func41, Try.ntmps41
  go_wp2_with (go_at_call 37; refine hct.mono ?_; rintro e w' ⟨rfl, hB'⟩)
  all_goals
    go_ret
    refine ⟨ret_b ?_, ?_⟩
  all_goals first | grind | exact below_al (Below.refl _ _) _ | exact below_tr (below_al (Below.refl _ _) _) hB'
end Go.Proofs.Ytiepnnjodmkolaa
