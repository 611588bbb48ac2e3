/- The walk of slices.Delete at filters. -/
import Derived.Test.YtbojjjiggppnaaaGreatM9
import Derived.Test.YtbojjjiggppnaaaGreatBC
import Derived.Deep.RegionLaw
import Derived.Shelf.RegionOpenPlain
namespace Go.Proofs.YtbojjjiggppnaaaGreat
open Go.RowKit Go.Shelf
set_option linter.unusedVariables false
set_option linter.unusedSimpArgs false

section
variable {P : Program}
theorem step_append_run {ops : Array Oper} {o : Oper} {a : Act} {w : World} {K : Act → World → Prop} {Q : Exit → Act → World → Prop} {E : Prop}
    (hg : o.guard = none) (d x : Operand) (dT sT : TypeId) (hop : o.op = Op.call { callee := Callee.builtin Builtin.append, args := #[d, x], argTypes := #[dT, sT] })
    (v u : Value) (hd : a.eval d = v) (hx : a.eval x = u) {v' : Value} {w' : World} (hr : (Builtin.append_ #[dT, sT] o.type #[v, u]).run P w = .ok v' w') (hK : K (a.put o.dst v') w') :
    if Region.wanted o (yielded ops a.tmps) = true then Oper.wp P o a w K Q else E := by
  have hw : Region.wanted o (yielded ops a.tmps) = true := by simp [Region.wanted, hg]
  rw [if_pos hw]
  unfold Oper.wp execOp
  simp only [hop, resolve, invoke, builtin, Sem.run_bind, Sem.run_pure, Result.andThen_ok, List.map_toArray, List.map_cons, List.map_nil, hd, hx, hr]
  exact hK
theorem wpList_clear_run {w : World} {ops : Array Oper} {rest : List Oper} {o : Oper} {a : Act} {Q : Exit → Act → World → Prop} (hgd : o.guard = none) (s : Operand) (t : TypeId)
    (ho : o.op = .call { callee := .builtin .clear, args := #[s], argTypes := #[t] }) (v : Value) (hs : a.eval s = v) {v' : Value} {w' : World}
    (hr : (Builtin.clear_ #[t] o.type #[v]).run P w = .ok v' w') (h : wpList P ops Q rest (a.put o.dst v') w') : wpList P ops Q (o :: rest) a w :=
  wpList_plain hgd fun K hK => by
    unfold Oper.wp execOp
    simp only [ho, resolve, invoke, builtin, Sem.run_bind, Sem.run_pure, Result.andThen_ok, List.map_toArray, List.map_cons, List.map_nil, hs, hr]
    exact hK _ _ h
end
theorem zero_node (w : World) : (zeroValue 65).run Tryz.prog w = .ok (.agg #[.int .i64 0, .int .i64 0, .slice none 0 0, .int .i64 0, .int .i64 0, .int .u64 0, .int .u64 0]) w := by kernel_rfl
set_option maxRecDepth 100000 in
set_option maxHeartbeats 4000000 in
/-- One filter out of a row of the call's own. -/
theorem c_deleteN (xs : List Node) (g c base : Nat) (ok : Nat → Prop) (w : World) (hO : kNode.Own 65 w base ok (.slice (some ⟨g, 0, none⟩) xs.length c) xs) (i : Nat) (hi : i < xs.length) (hl : xs.length ≤ 1000000) :
    Calls Tryz.prog 100 #[.slice (some ⟨g, 0, none⟩) xs.length c, .int .i64 i, .int .i64 ((i : Int) + 1)] w fun e w' => e = .returned (.slice (some ⟨g, 0, none⟩) (xs.length - 1) c) ∧ kNode.Own 65 w' base ok (.slice (some ⟨g, 0, none⟩) (xs.length - 1) c) (xs.eraseIdx i) ∧ (∀ k, k ≠ g → w'.heap[k]? = w.heap[k]?) ∧ Below g w w' := by
  obtain ⟨cur0, cur1, cur2, h0, h1, h2, h3, h4, h5⟩ := Kd.Own.del hO hi 29 (.agg #[.int .i64 0, .int .i64 0, .slice none 0 0, .int .i64 0, .int .i64 0, .int .u64 0, .int .u64 0]) 72 Tryz.underlying29 infoNode rfl (by simp [Value.cells, Value.oneCell']) zero_node
  obtain ⟨_, c', hv, hlc, hcm⟩ := hO.form
  simp only [Value.slice.injEq, true_and] at hv
  obtain ⟨-, rfl⟩ := hv
  have hcm' : c ≤ 9223372036854775807 := by unfold maxLen at hcm; omega
  clear hcm
  generalize hn : xs.length = n at *
  have HN := Lib.hid hn
  have H5 := Lib.hid h5
  clear h5 hO hn
  have hic : i ≤ c := by omega
  have hjc : i + 1 ≤ c := by omega
  have hsz : kNode.sz = 7 := rfl
  rw [hsz] at h1 h3
  have H1 : Hid (∀ (ad : Addr) (ty : TypeId), (i + 1 < n → ad = ⟨g, (i + 1) * 7, none⟩) → (Builtin.append_ #[29, 29] ty #[.slice (some ⟨g, 0, none⟩) i c, .slice (some ad) (n - (i + 1)) (c - (i + 1))]).run Tryz.prog w.drew = .ok (.slice (some ⟨g, 0, none⟩) (n - 1) c) (w.drew.setRow g cur1)) := fun ad ty had => h1 w.drew ad ty _ h0 had
  have H2 := Lib.hid (h2 w.drew h0)
  have HF := Lib.hid (fun k (hk : k ≠ g) => setRow_other w.drew g k cur1 hk)
  have HBL := Lib.hid (undrew (stored_row (w := w.drew) (cs := cur1) h0).bel)
  have H3 := Lib.hid (fun ty c' => h3 (w.drew.setRow g cur1) ty c' H2.out)
  have H4 := Lib.hid (h4 (w.drew.setRow g cur1) H2.out)
  clear h0 h1 h2 h3 h4 hsz
  go_enter Tryz.func100, Tryz.ntmps100
  go_wp2_with fail
  obtain ⟨ad, hA, had⟩ : ∃ ad : Addr, (if c = i + 1 then (some ⟨g, 0, none⟩ : Option Addr) else some ⟨g, (i + 1) * 7, none⟩) = some ad ∧ (i + 1 < n → ad = ⟨g, (i + 1) * 7, none⟩) := by
    by_cases hcc : c = i + 1
    · exact ⟨_, by rw [if_pos hcc], fun h => by omega⟩
    · exact ⟨_, by rw [if_neg hcc], fun h => rfl⟩
  obtain ⟨W1, hW1⟩ : ∃ W1, W1 = w.drew.setRow g cur1 := ⟨_, rfl⟩
  rw [← hW1] at H1 H2 HF HBL H3 H4
  have H1' := Lib.hid (H1.out ad 29 had)
  have mixed : (Tryz.prog).follows Departure.mixedOrders = true := by kernel_rfl
  have hn1 : IntKind.i64.wrap ((i : Int) + 1) = (i : Int) + 1 := by rw [wrap_i64 (by omega)]
  have hb1 : (0 : Int) ≤ (i : Int) + 1 := by omega
  have hb2 : (i : Int) + 1 ≤ (n : Int) := by omega
  have hc1 : ¬ c = n - 1 := by omega
  have hb3 : ((n - 1 : Nat) : Int) ≤ (n : Int) := by omega
  have hb4 : n - (n - 1) = 1 := by omega
  clear hW1 H1 had
  go_region_law_o (refine step_append_run rfl (.tmp 22) (.tmp 25) 29 29 rfl (.slice (some ⟨g, 0, none⟩) i c) (.slice (some ad) (n - (i + 1)) (c - (i + 1))) (by simp [Act.eval, Act.put]) (by simp [Act.eval, Act.put]) H1'.out ?_)
  have hcl : ∀ ty, (Builtin.clear_ #[29] ty #[.slice (some ⟨g, (n - 1) * 7, none⟩) 1 (c - (n - 1))]).run Tryz.prog W1 = .ok (.tuple #[]) (W1.setRow g cur2) := fun ty => H3.out ty _
  go_wp2_with fail
  go_ret
  have hf : ∀ k, k ≠ g → (W1.setRow g cur2).heap[k]? = w.heap[k]? := fun k hk => (setRow_other W1 g k cur2 hk).trans (HF.out k hk)
  exact ⟨rfl, H5.out _ H4.out (fun k hk _ => hf k hk), hf, HBL.out.trans (stored_row H2.out).bel⟩
end Go.Proofs.YtbojjjiggppnaaaGreat
