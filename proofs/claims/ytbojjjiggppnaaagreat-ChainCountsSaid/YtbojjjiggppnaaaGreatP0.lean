/- A range over an iterator that has cells of its own, within one or not. No program in sight. -/
import Derived.Test.YtbojjjiggppnaaaGreatB0
import Derived.RangeFuncNested
import Derived.RangeFuncBound
import Derived.RangeFuncCalls
import Derived.RangeFuncLeaves
import Derived.OwnWalkIn
import Derived.TacticsInMore
import Derived.LoopNIn
import Derived.LoopIn
namespace Go.Proofs.YtbojjjiggppnaaaGreat
open Go.RowKit Go.Shelf
set_option linter.unusedVariables false
set_option linter.unusedSimpArgs false

/-- What an iterator may do beside what it yields: blocks below b0 stay, and whatever is no cells. -/
structure Goes (b0 : Nat) (A B : World) : Prop where
  bel : Below b0 A B
  kept : KeepsOthers A B
theorem Goes.refl (b0 : Nat) (A : World) : Goes b0 A A := ⟨Below.refl _ _, KeepsOthers.refl _⟩
theorem Goes.trans {b0 : Nat} {A B C : World} (h : Goes b0 A B) (k : Goes b0 B C) : Goes b0 A C := ⟨h.bel.trans k.bel, h.kept.trans k.kept⟩
theorem Goes.mono {b0 b1 : Nat} {A B : World} (h : Goes b1 A B) (hb : b0 ≤ b1) : Goes b0 A B := ⟨h.bel.mono hb, h.kept⟩
theorem kept_bel {A B : World} (h : Below A.heap.size A B) : KeepsOthers A B := ⟨h.size, fun k o hk _ => blk_bel h hk⟩
theorem Goes.of {b0 : Nat} {A B : World} (h : Below A.heap.size A B) (hb : b0 ≤ A.heap.size) : Goes b0 A B := ⟨h.mono hb, kept_bel h⟩
theorem Goes.set {b0 : Nat} (A : World) {p : Addr} (hp : b0 ≤ p.block) (v : Value) : Goes b0 A (A.setCell p v) := ⟨(Below.refl _ _).setCell hp v, KeepsOthers.setCell _ _ _⟩
/-- A round keeps every cell but those of S. -/
def KpS (S : Nat → Prop) (A B : World) : Prop := A.heap.size ≤ B.heap.size ∧ ∀ (k : Nat) (cs : Array Value) (t : TypeId) (f : Nat × Nat), ¬ S k → A.heap[k]? = some (.cells cs t f) → B.heap[k]? = some (.cells cs t f)
theorem KpS.trans {S : Nat → Prop} {A B C : World} (h : KpS S A B) (k : KpS S B C) : KpS S A C := ⟨Nat.le_trans h.1 k.1, fun q cs t f hq hc => k.2 q cs t f hq (h.2 q cs t f hq hc)⟩
theorem KpS.bel {S : Nat → Prop} {w w' : World} (h : Below w.heap.size w w') : KpS S w w' := ⟨h.size, fun k cs t f _ hk => blk_bel h hk⟩
theorem KpS.set {S : Nat → Prop} (w : World) {p : Addr} (hp : S p.block) (v : Value) : KpS S w (w.setCell p v) := ⟨Nat.le_of_eq (World.size_setCell ..).symm, fun k cs t f hk h => blk_far h (fun e => hk (e ▸ hp)) _⟩
theorem KpS.mono {S S' : Nat → Prop} {A B : World} (h : KpS S A B) (hS : ∀ k, S k → S' k) : KpS S' A B := ⟨h.1, fun k cs t f hk hc => h.2 k cs t f (fun hs => hk (hS k hs)) hc⟩
theorem KpS.put {S : Nat → Prop} {l : Nat} {W : World} {o : Obj} (o' : Obj) (h : W.heap[l]? = some o) (ho : o.isCells = false) : KpS S W (W.putObj l o') := by
  refine ⟨by simp, fun k cs t f _ hk => ?_⟩
  have hne : k ≠ l := by
    rintro rfl
    rw [h] at hk
    cases hk
    cases ho
  exact (World.putObj_heap_other hne).trans hk
theorem KpS.cell {S : Nat → Prop} {A B : World} (h : KpS S A B) {a : Addr} {v : Value} (ha : ¬ S a.block) (hc : A.cell? a = some v) : B.cell? a = some v := by
  cases hq : A.heap[a.block]? with
  | none => simp [World.cell?, hq] at hc
  | some o =>
    cases o with
    | cells cs t f => rw [World.cell?_of_block ((h.2 _ _ _ _ ha hq).trans hq.symm)]; exact hc
    | _ => simp [World.cell?, hq] at hc
theorem below_put {B l : Nat} (W : World) (o o' : Obj) (hl : B ≤ l) (h : W.heap[l]? = some o) : Below B W (W.putObj l o') :=
  (Below.refl B W).grown (grownBy_putObj' W l o') (by have := (Array.getElem?_eq_some_iff.1 h).1; omega) (fun k e => by cases e; omega)
/-- Stays under what an iterator may do, and under what is new from n on. -/
structure Stays {α : Type} (b0 n : Nat) (J : List α → World → Prop) : Prop where
  goes : ∀ s A B, J s A → Goes b0 A B → J s B
  bel : ∀ s A B, J s A → Below n A B → J s B
theorem Stays.mono {α : Type} {b0 n b1 n1 : Nat} {J : List α → World → Prop} (h : Stays b0 n J) (hb : b0 ≤ b1) (hn : n ≤ n1) : Stays b1 n1 J := ⟨fun s A B hs hg => h.goes s A B hs (hg.mono hb), fun s A B hs hg => h.bel s A B hs (hg.mono hn)⟩
theorem Stays.of {α : Type} {b0 n : Nat} {J : List α → World → Prop} (hn : b0 ≤ n) (h : ∀ s A B, J s A → Below b0 A B → J s B) : Stays b0 n J := ⟨fun s A B hs hg => h s A B hs hg.bel, fun s A B hs hg => h s A B hs (hg.mono hn)⟩
/-- Called with a yield, the iterator yields just these, in turn. -/
def Iter {α : Type} (m : Nat) (P : Program) (gf : Nat) (lb : Array Value) (encs : α → Array Value) (xs : List α) (S : Nat → Prop) (b0 : Nat) (w : World) : Prop :=
  ∀ (l : Nat) (J : List α → World → Prop) (W : World), Below w.heap.size w W → Stays b0 W.heap.size J →
    (∀ pre x W1, pre ++ [x] <+: xs → J pre W1 → YieldAt Fence.wide (m - 1) P l (encs x) W1 fun e W' => e = .returned (.bool true) ∧ J (pre ++ [x]) W' ∧ KpS S W1 W' ∧ KeepsOthers W1 W') → J [] W →
    CallsIn Fence.wide m P gf (#[.func (.yield l) #[] #[]] ++ lb) W fun e W' => (∃ v, e = .returned v) ∧ J xs W'
theorem YieldAt.deep {m m' : Nat} {P : Program} {l : Nat} {args : Array Value} {W : World} {R : Ending → World → Prop} (h : YieldAt Fence.wide m P l args W R) : YieldAt Fence.wide m' P l args W R := by
  obtain ⟨fn, tmps, assign, body, hy, hR⟩ := h
  exact ⟨fn, tmps, assign, body, hy, ⟨hR.1, fun c cs _ => hR.2 c cs (fun d h => by cases h)⟩⟩
theorem wpIn_range_goes {P : Program} {n : Nat} {α : Type} {g : Operand} {ps : Array Tmp} {assign body : Code} {Q : Exit → Act → World → Prop} {a : Act} {w : World}
    (h1 : 1 ≤ n) {gf : Nat} {lb : Array Value} (hg : a.eval g = .func (.func gf) #[] lb) (eg : ∀ args w, (callFunc gf args).run P w = .ok (.enter gf args) w)
    {encs : α → Array Value} (hps : ∀ x, (encs x).size = ps.size) (S : Nat → Prop) (b0 : Nat) (hb0 : b0 ≤ w.heap.size) (xs : List α)
    (hseq : Iter (n - 1) P gf lb encs xs S b0 w)
    (I : List α → World → Prop) (hI : Stays b0 w.heap.size I) (h0 : I [] w) (a₁ : α → Act)
    (hassign : ∀ (l : Nat) (x : α) (W : World) (K : Act → World → Prop), K (a₁ x) W →
      assign.wpIn (Fence.wide.inRound l) (n - 1 - 1) P (Exit.then K (fun _ _ _ => False)) { tmps := (ps.zip (encs x)).foldl (fun t (p, v) => t.setIfInBounds p v) a.tmps, defers := [] } W)
    (hbody : ∀ (l : Nat) (pre : List α) (x : α) (W : World), pre ++ [x] <+: xs → w.heap.size ≤ W.heap.size → I pre W → body.wpIn (Fence.wide.inRound l) (n - 1 - 1) P (fun e _ W' => e = .normal ∧ KeepsOthers W W' ∧ KpS S W W' ∧ I (pre ++ [x]) W') (a₁ x) W)
    (hdone : ∀ (D : Nat) (W : World), w.heap.size ≤ D → I xs W → W.heap[D]? = some (.deferred (some [])) → Q .normal { a with defers := { target := .collected D, args := #[] } :: a.defers } W) :
    (Code.rangeFunc g ps assign body).wpIn Fence.wide n P Q a w := by
  refine wpIn_rangeFunc ?_
  intro fn hfn
  obtain ⟨rec, hrec⟩ : ∃ rec : LoopState → Option Code → Loop, rec = fun st pe => { state := st, pending := pe, fn, tmps := a.tmps, params := ps, assign, body, defers := w.heap.size } := ⟨_, rfl⟩
  obtain ⟨W1, hW1⟩ : ∃ W1, (w.alloc (.deferred (some []))).alloc (.loop (rec .ready none)) = W1 := ⟨_, rfl⟩
  have hs1 : W1.heap.size = w.heap.size + 1 + 1 := by rw [← hW1]; simp
  have hL1 : W1.heap[w.heap.size + 1]? = some (.loop (rec .ready none)) := by
    rw [← hW1]; have := World.alloc_heap_new (w.alloc (.deferred (some []))) (.loop (rec .ready none)); rwa [World.size_alloc] at this
  have hK1 : W1.heap[w.heap.size]? = some (.deferred (some [])) := by
    rw [← hW1]; exact (Below.heap_alloc _ _ _ (by simp)).trans (World.alloc_heap_new w _)
  have hb1 : Below w.heap.size w W1 := by rw [← hW1]; exact below_al (below_al (Below.refl _ _) _) _
  have hI1 : I [] W1 := hI.bel _ _ _ h0 hb1
  refine ⟨w.heap.size + 1, [{ target := .collected w.heap.size, args := #[] }], W1, { target := .fn (.func gf) lb, args := #[.func (.yield (w.heap.size + 1)) #[] #[]] }, W1, gf,
    #[.func (.yield (w.heap.size + 1)) #[] #[]] ++ lb, W1, ?_, ?_, ?_, ?_, fun _ => h1, ?_⟩
  · rw [← hW1, hrec]; exact run_enterLoop_outer _ _ _ _ _
  · simp only [resolve, hg]
    simp [go_sem]
  · intro f' hf'; trivial
  · simp [invoke, go_sem, eg]
  · refine (hseq (w.heap.size + 1)
      (fun pre W => I pre W ∧ W.heap[w.heap.size + 1]? = some (.loop (rec .ready none)) ∧ W.heap[w.heap.size]? = some (.deferred (some [])) ∧ w.heap.size ≤ W.heap.size) W1 hb1
      ⟨fun s A B hs hB => ⟨hI.goes s A B hs.1 hB, hB.kept.same _ _ hs.2.1 rfl, hB.kept.same _ _ hs.2.2.1 rfl, Nat.le_trans hs.2.2.2 hB.bel.size⟩,
       fun s A B hs hB => ⟨hI.bel s A B hs.1 (hB.mono (by omega)), (hB.block _ (by omega)).trans hs.2.1, (hB.block _ (by omega)).trans hs.2.2.1, Nat.le_trans hs.2.2.2 hB.size⟩⟩
      ?_ ⟨hI1, hL1, hK1, by omega⟩).mono ?_
    · rintro pre x W hpx ⟨hi, hl, hk, hsW⟩
      have hlt : w.heap.size + 1 < W.heap.size := (Array.getElem?_eq_some_iff.1 hl).1
      have hy := run_yield (P := P) (args := encs x) hl (by rw [hrec]; exact hps x)
      rw [hrec] at hy
      refine ⟨fn, _, assign, body, hy, roundIn_of_wpIn hfn (hassign _ x W _ ⟨_, run_beginRound hl (by rw [hrec]), ?_⟩)⟩
      have hl2 : (W.putObj (w.heap.size + 1) (.loop { rec .ready none with state := .busy })).heap[w.heap.size + 1]? = some (.loop { rec .ready none with state := .busy }) := World.putObj_heap_same hlt
      have hk2 : (W.putObj (w.heap.size + 1) (.loop { rec .ready none with state := .busy })).heap[w.heap.size]? = some (.deferred (some [])) := (World.putObj_heap_other (by omega)).trans hk
      have hw2 : KpS S W (W.putObj (w.heap.size + 1) (.loop { rec .ready none with state := .busy })) := KpS.put _ hl rfl
      refine wpIn_mono (hbody _ pre x _ hpx (by simpa using hsW) (hI.bel _ _ _ hi (below_put _ _ _ (by omega) hl))) ?_
      rintro e a3 W3 ⟨rfl, hk3, hkp3, hi3⟩
      have hl3 := hk3.same _ _ hl2 rfl
      have hr := run_endRound (P := P) none hl3
      rw [hrec] at hr
      refine ⟨_, _, hr, rfl, ⟨hI.bel _ _ _ hi3 (below_put _ _ _ (by omega) hl3), ?_, ?_, ?_⟩, (hw2.trans hkp3).trans (KpS.put _ hl3 rfl), ?_⟩
      · rw [hrec]; exact World.putObj_heap_same (Array.getElem?_eq_some_iff.1 hl3).1
      · exact (World.putObj_heap_other (by omega)).trans (hk3.same _ _ hk2 rfl)
      · have := hk3.size
        simp at this ⊢
        omega
      · refine ⟨by have := hk3.size; simp at this ⊢; omega, fun k o hk' ho => ?_⟩
        by_cases e : k = w.heap.size + 1
        · subst e
          rw [hl] at hk'
          cases hk'
          rw [hrec]
          exact World.putObj_heap_same (Array.getElem?_eq_some_iff.1 hl3).1
        · exact (World.putObj_heap_other e).trans (hk3.same _ _ ((World.putObj_heap_other e).trans hk') ho)
    · rintro e W2 ⟨⟨v, rfl⟩, hi, hl, hk, hsW⟩
      exact ⟨none, _, by have := run_endLoop (P := P) hl (by rw [hrec]; simp); rw [hrec] at this; exact this, hdone _ _ (Nat.le_refl _) (hI.bel _ _ _ hi (below_put _ _ _ (by omega) hl)) ((World.putObj_heap_other (by omega)).trans hk)⟩
end Go.Proofs.YtbojjjiggppnaaaGreat
