/- A set of numbers in a map of the call's own: map[int]bool. -/
import Derived.Test.YtiepnnjodmkolaaK3
import Derived.Maps.OwnOps
import Derived.Maps.Views
import Derived.WideMake
namespace Go.Proofs.Ytiepnnjodmkolaa
open Go.RowKit Go.Shelf Go.Maps
set_option linter.unusedVariables false
set_option linter.unusedSimpArgs false

theorem key_int : Keyed Try.prog 3 := int_keyed Try.underlying3
/-- Block b is a map that is true at the numbers of S alone. -/
def Marks (w : World) (b : Nat) (S : List Int) : Prop := ∃ (D : DataW Unit), w.ownsMap Try.prog 3 (plainElem Try.prog 4) b S.length D ∧ IsMap D ∧ ∀ k : Int, D.atKey (.int .i64 k) (.lit (.bool false)) = .lit (.bool (decide (k ∈ S)))
theorem Marks.made (w : World) : Marks (w.alloc (.map #[] 0)) w.heap.size [] := ⟨.map [], World.ownsMap_made _ _ _ _, isMap_empty, fun k => by simp [DataW.atKey]⟩
theorem Marks.same {w w' : World} {b : Nat} {S : List Int} (h : Marks w b S) (hb : w'.heap[b]? = w.heap[b]?) : Marks w' b S := by
  obtain ⟨D, ⟨es, clock, h1, h2⟩, h3⟩ := h
  exact ⟨D, ⟨es, clock, hb.trans h1, h2⟩, h3⟩
theorem Marks.lt {w : World} {b : Nat} {S : List Int} (h : Marks w b S) : b < w.heap.size := by
  obtain ⟨D, h1, _⟩ := h
  exact h1.lt
theorem Marks.bel {w w' : World} {b : Nat} {S : List Int} (h : Marks w b S) (hb : Below w.heap.size w w') : Marks w' b S := h.same (hb.block b h.lt)
theorem Marks.grown {w w' : World} {b : Nat} {S : List Int} {row : Option Nat} (h : Marks w b S) (hg : w.grownBy w' row) (hne : some b ≠ row) : Marks w' b S := h.same (hg.block b h.lt hne)
theorem i64_wf {k : Int} (hk : Kd.rng .i64 k) : (Lit.int .i64 k).wf = true := by
  simp only [Kd.rng] at hk
  simp only [Lit.wf, Bool.and_eq_true, decide_eq_true_eq, IntKind.min, IntKind.max, IntKind.signed, IntKind.bits, if_true]
  omega
theorem zero_bool (w : World) : (zeroValue 4).run Try.prog w = .ok (.bool false) w := by kernel_rfl
theorem bool_of {P : Program} {e : TypeId} {v : Value} {x : Bool} {ps : List MemPlace} (he : Unit → P.underlying e = some .bool) (hv : plainElem (H := Unit) P e v = some (.lit (.bool x), ps)) : v = .bool x := by
  unfold plainElem at hv
  rw [he ()] at hv
  cases v <;> simp at hv
  rw [hv.1]
theorem Marks.look {w : World} {b : Nat} {S : List Int} (h : Marks w b S) {k : Int} (hk : Kd.rng .i64 k) : (Instr.lookup 67 (.map (some b)) (.int .i64 k) false).run Try.prog w = .ok (.bool (decide (k ∈ S))) w := by
  obtain ⟨D, h1, h2, h3⟩ := h
  obtain ⟨v, ps, hrun, hv⟩ := h1.lookup key_int Try.underlying67 (zero_bool w) (plainElem_bool Try.underlying4 false) (keyOf_int_mk Try.underlying3 (i64_wf hk))
  rw [h3 k] at hv
  rw [hrun]
  have : v = .bool (decide (k ∈ S)) := by
    exact bool_of (fun x => Try.underlying4) hv
  rw [this]
theorem Marks.put {D : DataW Unit} {S : List Int} (h2 : IsMap D) (h3 : ∀ k : Int, D.atKey (.int .i64 k) (.lit (.bool false)) = .lit (.bool (decide (k ∈ S)))) (s : Int) : ∀ k : Int, (D.put (.int .i64 s) (.lit (.bool true))).atKey (.int .i64 k) (.lit (.bool false)) = .lit (.bool (decide (k ∈ S ++ [s]))) := fun k => by
  by_cases hks : k = s
  · subst hks
    rw [atKey_put_same h2 (show WideAt.IsKeyLit (.int .i64 k) from trivial)]
    simp
  · rw [atKey_put_other (by simp [hks]), h3 k]
    simp [hks]
/-- m[s] = true AT THE OPERATION. -/
theorem wp_mark {w : World} {ops : Array Oper} {rest : List Oper} {o : Oper} {a : Act} {Q : Exit → Act → World → Prop} {b : Nat} {S : List Int} (hgd : o.guard = none) (m x v : Operand) (ho : o.op = .mapUpdate 67 m x v)
    (hm : a.eval m = .map (some b)) (s : Int) (hx : a.eval x = .int .i64 s) (hv : a.eval v = .bool true) (hs : Kd.rng .i64 s) (h : Marks w b S) (hS : S.length < maxLen)
    (hK : ∀ w', Marks w' b (S ++ [s]) → w.grownBy w' (some b) → wpList Try.prog ops Q rest (a.put o.dst undef) w') : wpList Try.prog ops Q (o :: rest) a w := by
  obtain ⟨D, h1, h2, h3⟩ := h
  refine wpList_mapUpdate_own w hgd m x v 67 ho 3 4 key_int Try.underlying67 _ b S.length D hm h1 hS _ _ (.int .i64 s) hx hv (keyOf_int_mk Try.underlying3 (i64_wf hs)) (.lit (.bool true)) [] (plainElem_bool Try.underlying4 true) ?_
  intro w' h1' hg
  exact hK w' ⟨D.put (.int .i64 s) (.lit (.bool true)), by rw [List.length_append]; exact h1', h2.put _ _, Marks.put h2 h3 s⟩ hg
end Go.Proofs.Ytiepnnjodmkolaa
