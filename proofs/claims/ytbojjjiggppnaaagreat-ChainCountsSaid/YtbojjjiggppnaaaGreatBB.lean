/- Whole rows out of and into a block, with the world behind them a letter. No program in sight. -/
import Derived.Test.YtbojjjiggppnaaaGreatB0
import Derived.Laws.Rows
import Derived.Laws.Tables
import Derived.Deep.WholeRow
namespace Go.Proofs.YtbojjjiggppnaaaGreat
open Go.RowKit
variable {P : Program}

/-- A world behind a store of a whole row in block g. -/
structure Stored (w : World) (g : Nat) (cs : Array Value) (t : TypeId) (W : World) : Prop where
  here : W.heap[g]? = some (.cells cs t (0, 0))
  far : ∀ k, k ≠ g → W.heap[k]? = w.heap[k]?
  size : W.heap.size = w.heap.size
  bel : Below g w W
theorem stored_row {w : World} {g : Nat} {old cs : Array Value} {t : TypeId} (hg : w.heap[g]? = some (.cells old t (0, 0))) : Stored w g cs t (w.setRow g cs) where
  here := setRow_heap w g old cs t (0, 0) hg
  far := fun k hk => setRow_other w g k cs hk
  size := size_setRow w g cs
  bel := ⟨rfl, rfl, rfl, Nat.le_of_eq (size_setRow w g cs).symm, fun k hk => setRow_other w g k cs (by omega)⟩
theorem run_loadAt_row {w : World} (ty : TypeId) (g : Nat) (t : TypeId) (cs : Array Value) (fr : Nat × Nat) (d : TypeDesc) (hg : w.heap[g]? = some (.cells cs t fr))
    (hu : P.underlying ty = some d) (hd : (match d with | .struct _ | .array _ _ => true | _ => false) = true) (hi : (P.info? ty).map (·.size) = some cs.size) :
    (Instr.loadAt ty (.pointer (some ⟨g, 0, none⟩))).run P w = .ok (.agg cs) w := by
  simp only [Instr.loadAt, Instr.sureAddr, Sem.run_bind, Sem.run_pure, Result.andThen_ok, run_loadVar_row w g t ty cs fr d hg hu hd hi]
theorem run_storeAt_row {w : World} (ty : TypeId) (g : Nat) (cs : Array Value) (old : Array Value) (t : TypeId) (hg : w.heap[g]? = some (.cells old t (0, 0)))
    (hi : (P.info? ty).map (·.size) = some cs.size) (hs : old.size = cs.size) (h1 : cs.all (·.oneCell') = true) :
    ∃ W, (Instr.storeAt ty (.pointer (some ⟨g, 0, none⟩)) (.agg cs)).run P w = .ok () W ∧ Stored w g cs t W := by
  refine ⟨_, ?_, stored_row hg⟩
  simp only [Instr.storeAt, Instr.sureAddr, Sem.run_bind, Sem.run_pure, Result.andThen_ok, run_storeVar_row w g t ty old cs hg hi hs h1]
theorem run_loadFrom_row {w : World} (g : Nat) (t : TypeId) (cs : Array Value) (fr : Nat × Nat) (hg : w.heap[g]? = some (.cells cs t fr)) (m : Nat) (hm : cs.size = m) :
    (loadCellsFrom ⟨g, 0, none⟩ 0 m #[]).run P w = .ok cs w := by
  subst hm
  have := run_loadCells_list (P := P) w ⟨g, 0, none⟩ cs.toList (fun j v hv => by
    have hadd : (⟨g, 0, none⟩ : Addr).add j = ⟨g, j, none⟩ := by unfold Addr.add; split <;> simp_all
    rw [hadd, cell_of_row _ _ j cs t fr hg]
    simpa using hv)
  simpa [loadCells] using this
theorem run_storeCells_row {w : World} (ty : TypeId) (g : Nat) (cs : Array Value) (old : Array Value) (t : TypeId) (hg : w.heap[g]? = some (.cells old t (0, 0)))
    (hi : (P.info? ty).map (·.size) = some cs.size) (hs : old.size = cs.size) (h1 : cs.all (·.oneCell') = true) :
    ∃ W, (storeCells ⟨g, 0, none⟩ cs.toList 0).run P w = .ok () W ∧ Stored w g cs t W := by
  refine ⟨_, ?_, stored_row hg⟩
  have := run_storeVar_row (P := P) w g t ty old cs hg hi hs h1
  cases hq : P.info? ty with
  | none => simp [hq] at hi
  | some i =>
    have hs : cs.size = i.size := by simp [hq] at hi; omega
    simpa [storeVar, sizeOf, typeInfo, hq, Value.cells, hs] using this
theorem wp_store_row {o : Oper} {a : Act} {w : World} {K : Act → World → Prop} {Q : Exit → Act → World → Prop} (ty : TypeId) (x y : Operand) (ho : o.op = .store ty x y)
    (g : Nat) (cs : Array Value) (hx : a.eval x = .pointer (some ⟨g, 0, none⟩)) (hy : a.eval y = .agg cs) (old : Array Value) (t : TypeId) (hg : w.heap[g]? = some (.cells old t (0, 0)))
    (hi : (P.info? ty).map (·.size) = some cs.size) (hs : old.size = cs.size) (h1 : cs.all (·.oneCell') = true)
    (h : ∀ W, Stored w g cs t W → K (a.put o.dst undef) W) : o.wp P a w K Q := by
  unfold Oper.wp execOp
  simp only [ho, hx, hy, Instr.storeAt, Instr.sureAddr, Sem.run_bind, Sem.run_pure, Result.andThen_ok, run_storeVar_row w g t ty old cs hg hi hs h1]
  exact h _ (stored_row hg)
theorem wpList_store_row {ops : Array Oper} {rest : List Oper} {o : Oper} {a : Act} {w : World} {Q : Exit → Act → World → Prop} (hgd : o.guard = none) (ty : TypeId) (x y : Operand) (ho : o.op = .store ty x y)
    (g : Nat) (cs : Array Value) (hx : a.eval x = .pointer (some ⟨g, 0, none⟩)) (hy : a.eval y = .agg cs) (old : Array Value) (t : TypeId) (hg : w.heap[g]? = some (.cells old t (0, 0)))
    (hi : (P.info? ty).map (·.size) = some cs.size) (hs : old.size = cs.size) (h1 : cs.all (·.oneCell') = true)
    (h : ∀ W, Stored w g cs t W → wpList P ops Q rest (a.put o.dst undef) W) : wpList P ops Q (o :: rest) a w :=
  wpList_plain hgd fun _ hK => wp_store_row ty x y ho g cs hx hy old t hg hi hs h1 fun W hW => hK _ _ (h W hW)
/-- A world behind a new row, in block n. -/
structure Made (w : World) (n : Nat) (cs : Array Value) (t : TypeId) (W : World) : Prop where
  here : W.heap[n]? = some (.cells cs t (0, 0))
  size : W.heap.size = n + 1
  bel : Below n w W
  old : ∀ (b : Nat) (o : Obj), w.heap[b]? = some o → W.heap[b]? = some o
theorem made (w : World) (n : Nat) (hn : w.heap.size = n) (cs : Array Value) (t : TypeId) : Made w n cs t (w.alloc (.cells cs t)) := by
  subst hn
  exact ⟨blk_new _ _, by simp, below_al (Below.refl _ _) _, fun b o h => blk_al h _⟩
theorem wpList_box_row {ops : Array Oper} {rest : List Oper} {o : Oper} {a : Act} {w : World} {Q : Exit → Act → World → Prop} (hgd : o.guard = none) (ty : TypeId) (x : Operand) (ho : o.op = .box ty x)
    (n : Nat) (hn : w.heap.size = n) (cs : Array Value) (hx : a.eval x = .agg cs) (h : ∀ W, Made w n cs ty W → wpList P ops Q rest (a.put o.dst (.pointer (some ⟨n, 0, none⟩))) W) : wpList P ops Q (o :: rest) a w :=
  wpList_plain hgd fun K hK => by
    have hr : (Instr.box ty (.agg cs)).run P w = .ok (.pointer (some ⟨w.heap.size, 0, none⟩)) (w.alloc (.cells cs ty)) := rfl
    unfold Oper.wp execOp
    simp only [ho, hx, Sem.run_bind, Sem.run_pure, hr, Result.andThen_ok]
    exact hK _ _ (hn ▸ h _ (made w n hn cs ty))
theorem wpList_alloc_row {ops : Array Oper} {rest : List Oper} {o : Oper} {a : Act} {w : World} {Q : Exit → Act → World → Prop} (hgd : o.guard = none) (ty : TypeId) (ho : o.op = .alloc ty)
    (n : Nat) (hn : w.heap.size = n) (cs : Array Value) (m : Nat) (hz : (P.info? ty).map (fun i => (i.zero, i.size)) = some (some (.agg cs), m)) (h : ∀ W, Made w n cs ty W → wpList P ops Q rest (a.put o.dst (.pointer (some ⟨n, 0, none⟩))) W) : wpList P ops Q (o :: rest) a w :=
  wpList_plain hgd fun K hK => by
    have hr : (Instr.alloc ty true (.tuple #[])).run P w = .ok (.pointer (some ⟨w.heap.size, 0, none⟩)) (w.alloc (.cells cs ty)) := by
      unfold Instr.alloc
      rw [Sem.run_bind, (zero_of_info hz).1 w]
      rfl
    unfold Oper.wp execOp
    simp only [ho, Sem.run_bind, Sem.run_pure, hr, Result.andThen_ok]
    exact hK _ _ (hn ▸ h _ (made w n hn cs ty))
theorem results_ctt {fn : Func} {p u v : Tmp} {ty : TypeId} (h : fn.results = #[.cell p ty, .tmp u, .tmp v]) (tmps : Array Value) (w : World) (g : Nat) (t : TypeId) (cs : Array Value) (fr : Nat × Nat) (d : TypeDesc)
    (hp : tmps.getD p undef = .pointer (some ⟨g, 0, none⟩)) (hg : w.heap[g]? = some (.cells cs t fr))
    (hu : P.underlying ty = some d) (hd : (match d with | .struct _ | .array _ _ => true | _ => false) = true) (hi : (P.info? ty).map (·.size) = some cs.size) :
    (results fn tmps).run P w = .ok (.tuple #[.agg cs, tmps.getD u undef, tmps.getD v undef]) w := by
  have hp' : tmps[p]?.getD undef = .pointer (some ⟨g, 0, none⟩) := by simpa using hp
  simp [results, h, hp', asAddr, run_loadVar_row w g t ty cs fr d hg hu hd hi]
end Go.Proofs.YtbojjjiggppnaaaGreat
