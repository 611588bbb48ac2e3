/- The walk of the reference's returns. -/
import Derived.Test.YtbojjjiggppnaaaGreatM6
namespace Go.Proofs.YtbojjjiggppnaaaGreat
open Go.RowKit Go.Shelf
set_option linter.unusedVariables false
set_option linter.unusedSimpArgs false

set_option maxHeartbeats 400000 in
theorem c_returns04 (x : Insn) (w : World) : Calls Tryz.prog 159 #[x.agg] w fun e w' => e = .returned (.bool (retB x)) ∧ Below w.heap.size w w' := by
  obtain ⟨c, jt, jf, k⟩ := x
  unfold Insn.agg retB
  go_enter Tryz.func159, Tryz.ntmps159
  go_wp2_with fail
  all_goals
    go_ret
    refine ⟨ret_b ?_, below_al (Below.refl _ _) _⟩
  all_goals first | grind | (simp_all)
end Go.Proofs.YtbojjjiggppnaaaGreat
