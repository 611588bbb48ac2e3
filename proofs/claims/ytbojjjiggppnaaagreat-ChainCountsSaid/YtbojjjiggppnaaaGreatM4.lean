/- Counts in a map of the call's own: map[int]int; which pools may be. -/
import Derived.Test.YtbojjjiggppnaaaGreatM3
import Derived.Maps.OwnOps
import Derived.Maps.Views
import Derived.WideMake
namespace Go.Proofs.YtbojjjiggppnaaaGreat
open Go.RowKit Go.Shelf Go.Maps
set_option linter.unusedVariables false
set_option linter.unusedSimpArgs false

theorem key_int : Keyed Tryz.prog 3 := int_keyed Tryz.underlying3
/-- Block b is a map that holds f. -/
def Counts (w : World) (b n : Nat) (f : Int → Int) : Prop := ∃ (D : DataW Unit), w.ownsMap Tryz.prog 3 (plainElem Tryz.prog 3) b n D ∧ IsMap D ∧ ∀ k : Int, D.atKey (.int .i64 k) (.lit (.int .i64 0)) = .lit (.int .i64 (f k))
theorem Counts.made (w : World) : Counts (w.alloc (.map #[] 0)) w.heap.size 0 (fun _ => 0) := ⟨.map [], World.ownsMap_made _ _ _ _, isMap_empty, fun k => by simp [DataW.atKey]⟩
theorem Counts.same {w w' : World} {b n : Nat} {f : Int → Int} (h : Counts w b n f) (hb : w'.heap[b]? = w.heap[b]?) : Counts w' b n f := by
  obtain ⟨D, ⟨es, clock, h1, h2⟩, h3⟩ := h
  exact ⟨D, ⟨es, clock, hb.trans h1, h2⟩, h3⟩
theorem Counts.lt {w : World} {b n : Nat} {f : Int → Int} (h : Counts w b n f) : b < w.heap.size := by
  obtain ⟨D, h1, _⟩ := h
  exact h1.lt
theorem Counts.bel {w w' : World} {b n : Nat} {f : Int → Int} (h : Counts w b n f) (hb : Below w.heap.size w w') : Counts w' b n f := h.same (hb.block b h.lt)
theorem Counts.grown {w w' : World} {b n : Nat} {f : Int → Int} {row : Option Nat} (h : Counts w b n f) (hg : w.grownBy w' row) (hne : some b ≠ row) : Counts w' b n f := h.same (hg.block b h.lt hne)
theorem i64_wf {k : Int} (hk : Kd.rng .i64 k) : (Lit.int .i64 k).wf = true := by
  simp only [Kd.rng] at hk
  simp only [Lit.wf, Bool.and_eq_true, decide_eq_true_eq, IntKind.min, IntKind.max, IntKind.signed, IntKind.bits, if_true]
  omega
theorem zero_int (w : World) : (zeroValue 3).run Tryz.prog w = .ok (.int .i64 0) w := by kernel_rfl
theorem lit_inj {k : IntKind} {a b : Int} (h : (DataW.lit (.int k a) : DataW Unit) = .lit (.int k b)) : a = b := by
  cases h
  rfl
theorem Counts.look {w : World} {b n : Nat} {f : Int → Int} (h : Counts w b n f) {k : Int} (hk : Kd.rng .i64 k) : (Instr.lookup 84 (.map (some b)) (.int .i64 k) false).run Tryz.prog w = .ok (.int .i64 (f k)) w := by
  obtain ⟨D, h1, h2, h3⟩ := h
  obtain ⟨c, hrun, hat, -⟩ := h1.lookup_int key_int Tryz.underlying84 Tryz.underlying3 (zero_int w) (keyOf_int_mk Tryz.underlying3 (i64_wf hk))
  rw [h3 k] at hat
  rw [hrun]
  rw [lit_inj hat]
theorem Counts.put {D : DataW Unit} {f : Int → Int} (h2 : IsMap D) (h3 : ∀ k : Int, D.atKey (.int .i64 k) (.lit (.int .i64 0)) = .lit (.int .i64 (f k))) (s v : Int) : ∀ k : Int, (D.put (.int .i64 s) (.lit (.int .i64 v))).atKey (.int .i64 k) (.lit (.int .i64 0)) = .lit (.int .i64 (if k = s then v else f k)) := fun k => by
  by_cases hks : k = s
  · subst hks
    rw [atKey_put_same h2 (show WideAt.IsKeyLit (.int .i64 k) from trivial), if_pos rfl]
  · rw [atKey_put_other (by simp [hks]), h3 k, if_neg hks]
/-- m[s] = v AT THE OPERATION. -/
theorem wp_count {w : World} {ops : Array Oper} {rest : List Oper} {o : Oper} {a : Act} {Q : Exit → Act → World → Prop} {b n : Nat} {f : Int → Int} (hgd : o.guard = none) (m x v : Operand) (ho : o.op = .mapUpdate 84 m x v)
    (hm : a.eval m = .map (some b)) (s u : Int) (hx : a.eval x = .int .i64 s) (hv : a.eval v = .int .i64 u) (hs : Kd.rng .i64 s) (hu : Kd.rng .i64 u) (h : Counts w b n f) (hS : n < maxLen)
    (hK : ∀ w', Counts w' b (n + 1) (fun k => if k = s then u else f k) → w.grownBy w' (some b) → wpList Tryz.prog ops Q rest (a.put o.dst undef) w') : wpList Tryz.prog ops Q (o :: rest) a w := by
  obtain ⟨D, h1, h2, h3⟩ := h
  refine wpList_mapUpdate_own w hgd m x v 84 ho 3 3 key_int Tryz.underlying84 _ b n D hm h1 hS _ _ (.int .i64 s) hx hv (keyOf_int_mk Tryz.underlying3 (i64_wf hs)) (.lit (.int .i64 u)) [] (plainElem_int Tryz.underlying3 (i64_wf hu)) ?_
  intro w' h1' hg
  exact hK w' ⟨D.put (.int .i64 s) (.lit (.int .i64 u)), h1', h2.put _ _, Counts.put h2 h3 s u⟩ hg

/-- Of how many a filter is the parent. -/
def kids (xs : List Node) (t : Int) : Nat := xs.countP (fun x => x.parent == t)
theorem kids_take {xs : List Node} {k : Nat} (hk : k < xs.length) : (fun t : Int => (kids (xs.take (k + 1)) t : Int)) = fun t => if t = xs[k].parent then (kids (xs.take k) xs[k].parent : Int) + 1 else (kids (xs.take k) t : Int) := by
  funext t
  unfold kids
  rw [List.take_succ_eq_append_getElem hk, List.countP_append]
  by_cases h : t = xs[k].parent
  · subst h; simp
  · rw [if_neg h]
    have : (xs[k].parent == t) = false := by rw [beq_eq_false_iff_ne]; exact fun e => h e.symm
    simp [List.countP_cons, this]
theorem kids_le (xs : List Node) (t : Int) : kids xs t ≤ xs.length := List.countP_le_length
/-- Are the numbers right up to k? -/
def idsTo (xs : List Node) (k : Nat) : Prop := ∀ j (hj : j < xs.length), j < k → j < 24 ∧ 1 ≤ xs[j].id ∧ xs[j].id ≤ 24 ∧ ∀ i (hi : i < xs.length), i + 1 = j → xs[i].id < xs[j].id
theorem idsTo.rising {xs : List Node} (h : idsTo xs xs.length) : Rising xs := by
  intro i j hi hj hij
  obtain ⟨d, rfl⟩ : ∃ d, j = i + 1 + d := ⟨j - (i + 1), by omega⟩
  induction d with
  | zero => exact (h (i + 1) hj hj).2.2.2 i hi rfl
  | succ d ih => exact Int.lt_trans (ih (by omega) (by omega)) ((h (i + 1 + (d + 1)) hj hj).2.2.2 (i + 1 + d) (by omega) (by omega))
/-- May the k-th filter be? -/
def goodN (xs : List Node) (x : Node) : Prop := max (kids xs x.id : Int) 1 ≤ x.count ∧ rightN xs x = true
open Classical in
/-- May a pool be? -/
noncomputable def poolE (xs : List Node) : Int := if idsTo xs xs.length ∧ ∀ x ∈ xs, goodN xs x then 0 else 190
theorem poolE_bad {xs : List Node} {k : Nat} (hk : k < xs.length) (h : ¬ (k < 24 ∧ 1 ≤ xs[k].id ∧ xs[k].id ≤ 24 ∧ ∀ i (hi : i < xs.length), i + 1 = k → xs[i].id < xs[k].id)) : poolE xs = 190 := by
  unfold poolE
  rw [if_neg (fun hh => h (hh.1 k hk hk))]
theorem poolE_worse {xs : List Node} {k : Nat} (hk : k < xs.length) (h : ¬ goodN xs xs[k]) : poolE xs = 190 := by
  unfold poolE
  rw [if_neg (fun hh => h (hh.2 _ (List.getElem_mem hk)))]
theorem poolE_ok {xs : List Node} (h1 : idsTo xs xs.length) (h2 : ∀ j (hj : j < xs.length), goodN xs xs[j]) : poolE xs = 0 := by
  unfold poolE
  rw [if_pos ⟨h1, fun x hx => by
    obtain ⟨i, hi, rfl⟩ := List.getElem_of_mem hx
    exact h2 i hi⟩]
theorem poolE_inv {xs : List Node} (h : poolE xs = 0) : idsTo xs xs.length ∧ ∀ x ∈ xs, goodN xs x := by
  unfold poolE at h
  split at h
  · assumption
  · simp at h
end Go.Proofs.YtbojjjiggppnaaaGreat
