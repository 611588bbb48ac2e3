/- The walks of vm.loaded, operations and Alu at a policy's instructions. -/
import Derived.Test.YtbojjjiggppnaaaGreatD8
import Derived.Test.YtbojjjiggppnaaaGreatBB
namespace Go.Proofs.YtbojjjiggppnaaaGreat
open Go.RowKit Go.Shelf
set_option linter.unusedVariables false
set_option linter.unusedSimpArgs false

def zero16 : Array Value := #[.int .u32 0, .int .u32 0, .int .u32 0, .int .u32 0, .int .u32 0, .int .u32 0, .int .u32 0, .int .u32 0, .int .u32 0, .int .u32 0, .int .u32 0, .int .u32 0, .int .u32 0, .int .u32 0, .int .u32 0, .int .u32 0]
/-- A machine whose memory and other register are as they began. -/
def mc (pc a : Int) : Array Value := #[.int .i64 pc, .int .u32 a, .int .u32 0, .int .u32 0, .int .u32 0, .int .u32 0, .int .u32 0, .int .u32 0, .int .u32 0, .int .u32 0, .int .u32 0, .int .u32 0, .int .u32 0, .int .u32 0, .int .u32 0, .int .u32 0, .int .u32 0, .int .u32 0, .int .u32 0]
set_option maxRecDepth 100000 in
set_option maxHeartbeats 2000000 in
theorem c_loaded (d : Data) (hd : d.wf) (i : Nat) (hi : i < 16) (x : Insn) (hx : x.code = 32) (hk : x.k = 4 * i) (pc a : Int) (w : World) : Calls Tryz.prog 215 #[x.agg, d.agg, .agg (mc pc a)] w fun e w' => e = .returned (.int .u32 (wordB (encB d) i)) ∧ Below w.heap.size w w' := by
  have hws := fun w => c_word d hd i hi x.k hk w
  clear hk
  generalize wordB (encB d) i = wi at *
  obtain ⟨nr, arch, ip, a0, a1, a2, a3, a4, a5⟩ := d
  obtain ⟨code, jt, jf, k⟩ := x
  unfold Data.agg Insn.agg at *
  simp only at hws hx ⊢
  subst hx
  clear hd
  go_enter Tryz.func215, Tryz.ntmps215
  go_wp2_with (first
    | (go_at_call 234; refine (hws _).mono ?_; rintro e w2 ⟨rfl, hB2⟩))
  go_ret
  exact ⟨rfl, (below_al (below_al (below_al (Below.refl _ _) _) _) _).trans (hB2.mono (by simp; omega))⟩
set_option maxRecDepth 100000 in
set_option maxHeartbeats 2000000 in
theorem c_operations (w : World) : Calls Tryz.prog 235 #[] w fun e w' => e = .returned (.agg #[.func (.func 248) #[] #[], .func (.func 249) #[] #[], .func (.func 250) #[] #[], .func (.func 251) #[] #[], .func (.func 252) #[] #[], .func (.func 253) #[] #[], .func (.func 254) #[] #[], .func (.func 255) #[] #[], .func (.func 256) #[] #[], .nilFunc, .func (.func 257) #[] #[]]) ∧ Below w.heap.size w w' := by
  go_enter Tryz.func235, Tryz.ntmps235
  go_wp2_with (refine wpList_store_row rfl _ _ _ rfl w.heap.size _ rfl rfl _ _ (blk_new _ _) (by kernel_rfl) (by rfl) (by kernel_rfl) ?_; intro W hW)
  refine bodyPost_ret (results_cell_row rfl _ _ _ _ _ _ _ rfl hW.here Tryz.underlying306 rfl (by kernel_rfl)) rfl ?_
  exact ⟨rfl, (below_al (Below.refl _ _) _).trans hW.bel⟩
theorem c_and (a b : Int) (w : World) : Calls Tryz.prog 253 #[.int .u32 a, .int .u32 b] w fun e w' => e = .returned (.tuple #[.int .u32 (bits .and .u32 a b), .bool true]) ∧ w' = w := by
  go_enter Tryz.func253, Tryz.ntmps253
  go_wp2_with fail
  go_ret2
  exact ⟨rfl, rfl⟩
theorem ops_index (w : World) : (Instr.index 306 (.agg #[.func (.func 248) #[] #[], .func (.func 249) #[] #[], .func (.func 250) #[] #[], .func (.func 251) #[] #[], .func (.func 252) #[] #[], .func (.func 253) #[] #[], .func (.func 254) #[] #[], .func (.func 255) #[] #[], .func (.func 256) #[] #[], .nilFunc, .func (.func 257) #[] #[]]) (.int .i64 5)).run Tryz.prog w = .ok (.func (.func 253) #[] #[]) w := by kernel_rfl
set_option maxRecDepth 100000 in
set_option maxHeartbeats 2000000 in
theorem c_alu (a b : Int) (w : World) : Calls Tryz.prog 216 #[.int .u16 84, .int .u32 a, .int .u32 b] w fun e w' => e = .returned (.tuple #[.int .u32 (bits .and .u32 a b), .bool true]) ∧ Below w.heap.size w w' := by
  have hix := ops_index
  have eg := enters_of Tryz.func253 (by kernel_rfl) rfl
  go_enter Tryz.func216, Tryz.ntmps216
  have hb0 : bits .and .u16 84 240 = 80 := by kernel_rfl
  have hb1 : wrap64 80 = 80 := by kernel_rfl
  have hb2 : (80 : Int) / 16 = 5 := by kernel_rfl
  have hfn : ∀ w, (binOp .eql 305 (.func (.func 253) #[] #[]) .nilFunc).run Tryz.prog w = .ok (.bool false) w := fun _ => by kernel_rfl
  go_wp2_with fail
  refine (c_operations _).mono ?_
  rintro e w1 ⟨rfl, hB1⟩
  go_wp2_with fail
  refine (c_operations _).mono ?_
  rintro e w2 ⟨rfl, hB2⟩
  go_wp2_with fail
  refine (c_operations _).mono ?_
  rintro e w3 ⟨rfl, hB3⟩
  go_wp2_with (go_at_call 253; refine (c_and a b _).mono ?_; rintro e w4 ⟨rfl, rfl⟩)
  go_ret2
  exact ⟨rfl, below_tr (below_tr hB1 hB2) hB3⟩
end Go.Proofs.YtbojjjiggppnaaaGreat
