/- A range over an iterator with cells, whose round's variables are cells too. No program in sight. -/
import Derived.Test.YtbojjjiggppnaaaGreatP0
namespace Go.Proofs.YtbojjjiggppnaaaGreat
open Go.RowKit Go.Shelf
set_option linter.unusedVariables false
set_option linter.unusedSimpArgs false

/-- The same, where the round's variables are cells of their own. -/
theorem wpIn_range_goesA {P : Program} {n : Nat} {α : Type} {g : Operand} {ps : Array Tmp} {assign body : Code} {Q : Exit → Act → World → Prop} {a : Act} {w : World}
    (h1 : 1 ≤ n) {gf : Nat} {lb : Array Value} (hg : a.eval g = .func (.func gf) #[] lb) (eg : ∀ args w, (callFunc gf args).run P w = .ok (.enter gf args) w)
    {encs : α → Array Value} (hps : ∀ x, (encs x).size = ps.size) (S : Nat → Prop) (b0 : Nat) (hb0 : b0 ≤ w.heap.size) (xs : List α)
    (hseq : Iter (n - 1) P gf lb encs xs S b0 w)
    (I : List α → World → Prop) (hI : Stays b0 w.heap.size I) (h0 : I [] w) (Ax : α → Act → World → Prop) (hAx : ∀ x a' A B, KpS S A B → Ax x a' A → Ax x a' B)
    (hassign : ∀ (l : Nat) (pre : List α) (x : α) (W : World) (K : Act → World → Prop), pre ++ [x] <+: xs → w.heap.size ≤ W.heap.size → I pre W → (∀ a' W', Below W.heap.size W W' → Ax x a' W' → K a' W') →
      assign.wpIn (Fence.wide.inRound l) (n - 1 - 1) P (Exit.then K (fun _ _ _ => False)) { tmps := (ps.zip (encs x)).foldl (fun t (p, v) => t.setIfInBounds p v) a.tmps, defers := [] } W)
    (hbody : ∀ (l : Nat) (pre : List α) (x : α) (a' : Act) (W : World), pre ++ [x] <+: xs → w.heap.size ≤ W.heap.size → I pre W → Ax x a' W → body.wpIn (Fence.wide.inRound l) (n - 1 - 1) P (fun e _ W' => e = .normal ∧ KeepsOthers W W' ∧ KpS S W W' ∧ I (pre ++ [x]) W') a' W)
    (hdone : ∀ (D : Nat) (W : World), w.heap.size ≤ D → I xs W → W.heap[D]? = some (.deferred (some [])) → Q .normal { a with defers := { target := .collected D, args := #[] } :: a.defers } W) :
    (Code.rangeFunc g ps assign body).wpIn Fence.wide n P Q a w := by
  refine wpIn_rangeFunc ?_
  intro fn hfn
  obtain ⟨rec, hrec⟩ : ∃ rec : LoopState → Option Code → Loop, rec = fun st pe => { state := st, pending := pe, fn, tmps := a.tmps, params := ps, assign, body, defers := w.heap.size } := ⟨_, rfl⟩
  obtain ⟨W1, hW1⟩ : ∃ W1, (w.alloc (.deferred (some []))).alloc (.loop (rec .ready none)) = W1 := ⟨_, rfl⟩
  have hs1 : W1.heap.size = w.heap.size + 1 + 1 := by rw [← hW1]; simp
  have hL1 : W1.heap[w.heap.size + 1]? = some (.loop (rec .ready none)) := by
    rw [← hW1]; have := World.alloc_heap_new (w.alloc (.deferred (some []))) (.loop (rec .ready none)); rwa [World.size_alloc] at this
  have hK1 : W1.heap[w.heap.size]? = some (.deferred (some [])) := by
    rw [← hW1]; exact (Below.heap_alloc _ _ _ (by simp)).trans (World.alloc_heap_new w _)
  have hb1 : Below w.heap.size w W1 := by rw [← hW1]; exact below_al (below_al (Below.refl _ _) _) _
  have hI1 : I [] W1 := hI.bel _ _ _ h0 hb1
  refine ⟨w.heap.size + 1, [{ target := .collected w.heap.size, args := #[] }], W1, { target := .fn (.func gf) lb, args := #[.func (.yield (w.heap.size + 1)) #[] #[]] }, W1, gf,
    #[.func (.yield (w.heap.size + 1)) #[] #[]] ++ lb, W1, ?_, ?_, ?_, ?_, fun _ => h1, ?_⟩
  · rw [← hW1, hrec]; exact run_enterLoop_outer _ _ _ _ _
  · simp only [resolve, hg]
    simp [go_sem]
  · intro f' hf'; trivial
  · simp [invoke, go_sem, eg]
  · refine (hseq (w.heap.size + 1)
      (fun pre W => I pre W ∧ W.heap[w.heap.size + 1]? = some (.loop (rec .ready none)) ∧ W.heap[w.heap.size]? = some (.deferred (some [])) ∧ w.heap.size ≤ W.heap.size) W1 hb1
      ⟨fun s A B hs hB => ⟨hI.goes s A B hs.1 hB, hB.kept.same _ _ hs.2.1 rfl, hB.kept.same _ _ hs.2.2.1 rfl, Nat.le_trans hs.2.2.2 hB.bel.size⟩,
       fun s A B hs hB => ⟨hI.bel s A B hs.1 (hB.mono (by omega)), (hB.block _ (by omega)).trans hs.2.1, (hB.block _ (by omega)).trans hs.2.2.1, Nat.le_trans hs.2.2.2 hB.size⟩⟩
      ?_ ⟨hI1, hL1, hK1, by omega⟩).mono ?_
    · rintro pre x W hpx ⟨hi, hl, hk, hsW⟩
      have hlt : w.heap.size + 1 < W.heap.size := (Array.getElem?_eq_some_iff.1 hl).1
      have hy := run_yield (P := P) (args := encs x) hl (by rw [hrec]; exact hps x)
      rw [hrec] at hy
      refine ⟨fn, _, assign, body, hy, roundIn_of_wpIn hfn (hassign _ pre x W _ hpx hsW hi (fun a' W0 hB0 hA0 => ⟨_, run_beginRound (blk_bel hB0 hl) (by rw [hrec]), ?_⟩))⟩
      have hlW := hl
      have hWW := hB0
      have hi := hI.bel _ _ _ hi (hB0.mono hsW)
      have hl := blk_bel hB0 hl
      have hk := blk_bel hB0 hk
      have hsW0 := hsW
      have hsW := Nat.le_trans hsW hB0.size
      have hlt : w.heap.size + 1 < W0.heap.size := (Array.getElem?_eq_some_iff.1 hl).1
      have hkp0 : KpS S W W0 := KpS.bel hB0
      have hl2 : (W0.putObj (w.heap.size + 1) (.loop { rec .ready none with state := .busy })).heap[w.heap.size + 1]? = some (.loop { rec .ready none with state := .busy }) := World.putObj_heap_same hlt
      have hk2 : (W0.putObj (w.heap.size + 1) (.loop { rec .ready none with state := .busy })).heap[w.heap.size]? = some (.deferred (some [])) := (World.putObj_heap_other (by omega)).trans hk
      have hw2 : KpS S W0 (W0.putObj (w.heap.size + 1) (.loop { rec .ready none with state := .busy })) := KpS.put _ hl rfl
      refine wpIn_mono (hbody _ pre x a' _ hpx (by simpa using hsW) (hI.bel _ _ _ hi (below_put _ _ _ (by omega) hl)) (hAx _ _ _ _ hw2 hA0)) ?_
      rintro e a3 W3 ⟨rfl, hk3, hkp3, hi3⟩
      have hl3 := hk3.same _ _ hl2 rfl
      have hr := run_endRound (P := P) none hl3
      rw [hrec] at hr
      refine ⟨_, _, hr, rfl, ⟨hI.bel _ _ _ hi3 (below_put _ _ _ (by omega) hl3), ?_, ?_, ?_⟩, ((hkp0.trans hw2).trans hkp3).trans (KpS.put _ hl3 rfl), ?_⟩
      · rw [hrec]; exact World.putObj_heap_same (Array.getElem?_eq_some_iff.1 hl3).1
      · exact (World.putObj_heap_other (by omega)).trans (hk3.same _ _ hk2 rfl)
      · have := hk3.size
        simp at this ⊢
        omega
      · refine KeepsOthers.trans (kept_bel hWW) ⟨by have := hk3.size; simp at this ⊢; omega, fun k o hk' ho => ?_⟩
        by_cases e : k = w.heap.size + 1
        · subst e
          rw [hl] at hk'
          cases hk'
          rw [hrec]
          exact World.putObj_heap_same (Array.getElem?_eq_some_iff.1 hl3).1
        · exact (World.putObj_heap_other e).trans (hk3.same _ _ ((World.putObj_heap_other e).trans hk') ho)
    · rintro e W2 ⟨⟨v, rfl⟩, hi, hl, hk, hsW⟩
      exact ⟨none, _, by have := run_endLoop (P := P) hl (by rw [hrec]; simp); rw [hrec] at this; exact this, hdone _ _ (Nat.le_refl _) (hI.bel _ _ _ hi (below_put _ _ _ (by omega) hl)) ((World.putObj_heap_other (by omega)).trans hk)⟩
end Go.Proofs.YtbojjjiggppnaaaGreat
