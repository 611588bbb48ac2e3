/- The walks of chain.place: a binary search among filters by rising numbers. -/
import Derived.Test.YtbojjjiggppnaaaGreatB3
import Derived.Test.YtbojjjiggppnaaaGreatD3
namespace Go.Proofs.YtbojjjiggppnaaaGreat
open Go.RowKit Go.Shelf
set_option linter.unusedVariables false
set_option linter.unusedSimpArgs false

def cmpI (a b : Int) : Int := if a < b then -1 else if b < a then 1 else 0
theorem c_isNaN (a : Int) (w : World) : Calls Tryz.prog 178 #[.int .i64 a] w fun e w' => e = .returned (.bool false) ∧ w' = w := by
  go_enter Tryz.func178, Tryz.ntmps178
  go_wp2_with fail
  go_ret
  exact ⟨by simp, rfl⟩
theorem c_cmp (a b : Int) (w : World) : Calls Tryz.prog 142 #[.int .i64 a, .int .i64 b] w fun e w' => e = .returned (.int .i64 (cmpI a b)) ∧ w' = w := by
  have HA := Lib.hid (c_isNaN a)
  have HB := Lib.hid (c_isNaN b)
  unfold cmpI
  go_enter Tryz.func142, Tryz.ntmps142
  go_wp2_with (first
    | (go_at_call 178; (with_reducible refine (HA.out w).mono ?_); rintro e w1 ⟨rfl, rfl⟩)
    | (go_at_call 178; (with_reducible refine (HB.out _).mono ?_); rintro e w2 ⟨rfl, rfl⟩))
  all_goals
    go_ret
    refine ⟨ret_i ?_, rfl⟩
    grind
theorem c_place1 (x : Node) (ok : Nat → Prop) (cs : List Value) (w : World) (hK : kNode.K w ok x cs) : Calls Tryz.prog 151 #[.agg cs.toArray] w fun e w' => e = .returned (.int .i64 x.id) ∧ Below w.heap.size w w' := by
  obtain ⟨A2, c2, rfl, -⟩ := kNode.opn hK
  go_enter Tryz.func151, Tryz.ntmps151
  go_wp2_with fail
  go_ret
  exact ⟨rfl, below_al (Below.refl _ _) _⟩
theorem eg_place1 : ∀ args w, (callFunc 151 args).run Tryz.prog w = .ok (.enter 151 args) w := fun args w => by
  exact (enters_of Tryz.func151 (by kernel_rfl) rfl) args w
set_option maxHeartbeats 1000000 in
theorem c_row1 (x : Node) (n : Int) (b : Nat) (ok : Nat → Prop) (cs : List Value) (w : World) (hK : kNode.K w ok x cs) (hb : w.heap[b]? = some (.cells #[.func (.func 151) #[] #[]] 198)) : Calls Tryz.prog 183 #[.agg cs.toArray, .int .i64 n, .pointer (some ⟨b, 0, none⟩)] w fun e w' => e = .returned (.int .i64 (cmpI x.id n)) ∧ Below w.heap.size w w' := by
  have heg := eg_place1
  have hp := c_place1 x ok cs (w.alloc (.cells cs.toArray 65)) (Kd.al (d := kNode) hK _)
  have hc := c_cmp x.id n
  obtain ⟨A2, c2, rfl, -, -, g2, -⟩ := kNode.opn hK
  have h2 := g2.2.2.1
  have hb0 : (w.alloc (.cells #[.int .i64 x.id, .int .i64 x.parent, .slice A2 x.program.length c2, .int .i64 x.size, .int .i64 x.count, .int .u64 x.one, .int .u64 x.two] 65)).cell? ⟨b, 0, none⟩ = some (.func (.func 151) #[] #[]) := cell_al (blk_cell hb 0) _
  have HP := Lib.hid hp
  have HC := Lib.hid hc
  clear hp hc hK hb g2
  obtain ⟨id, parent, program, size, count, one, two⟩ := x
  simp only at *
  generalize cmpI id n = r at *
  go_enter Tryz.func183, Tryz.ntmps183
  go_wp2_with fail
  refine HP.out.mono ?_
  rintro e w2 ⟨rfl, hB2⟩
  have HB2 := Lib.hid (below_tr (below_al (Below.refl _ _) _) hB2)
  clear hB2 hb0
  go_wp2_with fail
  refine (HC.out w2).mono ?_
  rintro e w3 ⟨rfl, rfl⟩
  go_wp2_with fail
  go_ret
  exact ⟨rfl, HB2.out⟩
theorem eg_row1 : ∀ args w, (callFunc 183 args).run Tryz.prog w = .ok (.enter 183 args) w := fun args w => by
  exact (enters_of Tryz.func183 (by kernel_rfl) rfl) args w
end Go.Proofs.YtbojjjiggppnaaaGreat
