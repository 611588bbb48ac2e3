/- The walk of the reference's Same. -/
import Derived.Test.YtbojjjiggppnaaaGreatM6
namespace Go.Proofs.YtbojjjiggppnaaaGreat
open Go.RowKit Go.Shelf
set_option linter.unusedVariables false
set_option linter.unusedSimpArgs false

set_option maxRecDepth 100000 in
set_option maxHeartbeats 4000000 in
/-- Of two lists that are one. -/
theorem c_same (A B : Option Addr) (c d : Nat) (l : List Insn) (ok ok' : Nat → Prop) (w : World) (hA : kInsn.Row w ok A l) (hB : kInsn.Row w ok' B l) :
    Calls Tryz.prog 68 #[.slice A l.length c, .slice B l.length d] w fun e w' => e = .returned (.bool true) ∧ Below w.heap.size w w' := by
  have hn := hA.1
  have HA := Lib.hid hA
  have HB := Lib.hid hB
  clear hA hB
  go_enter Tryz.func68, Tryz.ntmps68
  go_wp2_with fail
  go_loopw [5, 13] (fun _ i wr => ∃ (k : Nat), k ≤ l.length ∧ i = .int .i64 k ∧ Below w.heap.size w wr) (fun _ i _ => l.length - (intOf i).toNat)
  case atStart => exact ⟨0, Nat.zero_le _, rfl, Below.refl _ _⟩
  case round =>
    obtain ⟨k, hk, rfl, hB⟩ := hrel
    by_cases hlt : k < l.length
    · obtain ⟨ad, rfl, hok, hwf, c0, c1, c2, c3⟩ := kInsn.at_ (HA.out.bel hB) hlt
      obtain ⟨bd, rfl, hok', -, d0, d1, d2, d3⟩ := kInsn.at_ (HB.out.bel hB) hlt
      generalize l[k] = x at *
      obtain ⟨code, jt, jf, kk⟩ := x
      simp only at *
      have hk0 : (0 : Int) ≤ (k : Int) := by omega
      have hk1 : (k : Int) < (l.length : Int) := by omega
      go_wp2_with fail
      go_quiet (fail)
      go_wp2_with fail
      go_roundw
      case rel => exact ⟨k + 1, by omega, by go_num, below_dN hB nq⟩
      case measure => simp [intOf]; omega
    · obtain rfl : k = l.length := by omega
      go_wp2_with fail
      go_ret
      exact ⟨rfl, hB⟩
end Go.Proofs.YtbojjjiggppnaaaGreat
