/- A row of instructions that grows beside boxes that stay: the state of a walk that appends. No program in sight. -/
import Derived.Test.YtiepnnjodmkolaaH0
import Derived.Test.YtiepnnjodmkolaaC3
namespace Go.Proofs.Ytiepnnjodmkolaa
open Go.RowKit
set_option linter.unusedVariables false

/-- Since world w, of n blocks: the boxes bx stay, and v is a row of the call's own. -/
structure St (w : World) (n : Nat) (bx : Nat → Option Obj) (W : World) (v : Value) (xs : List Insn) : Prop where
  wn : w.heap.size = n
  bel : Below n w W
  box : ∀ b o, bx b = some o → W.heap[b]? = some o
  own : kInsn.Own 39 W n (fun q => bx q = none) v xs
section
variable {w W : World} {n : Nat} {bx : Nat → Option Obj} {v : Value} {xs : List Insn}
theorem St.size (h : St w n bx W v xs) : n ≤ W.heap.size := by have := h.bel.size; rw [h.wn] at this; exact this
theorem St.new (h : St w n bx W v xs) {k : Nat} (hk : W.heap.size ≤ k) : bx k = none := by
  cases hq : bx k with
  | none => rfl
  | some o => have := blk_lt (h.box k o hq); omega
theorem St.cell (h : St w n bx W v xs) {b j : Nat} {cs : Array Value} {t : TypeId} {f : Nat × Nat} {u : Value} (hb : bx b = some (.cells cs t f)) (hj : cs[j]? = some u) : W.cell? ⟨b, j, none⟩ = some u := (blk_cell (h.box _ _ hb) j).trans hj
theorem St.alloc (h : St w n bx W v xs) (o : Obj) : St w n bx (W.alloc o) v xs := ⟨h.wn, h.bel.alloc h.size o, fun b o' hb => blk_al (h.box b o' hb) o, h.own.al o⟩
theorem St.drew (h : St w n bx W v xs) : St w n bx W.drew v xs := ⟨h.wn, below_d1 h.bel, h.box, h.own.bel (below_d1 (Below.refl _ _))⟩
theorem St.call (h : St w n bx W v xs) {W' : World} (hB : Below W.heap.size W W') : St w n bx W' v xs := ⟨h.wn, h.bel.trans (hB.mono h.size), fun b o hb => blk_bel hB (h.box b o hb), h.own.bel hB⟩
theorem plain_insn : kInsn.Plain := fun _ _ _ _ _ _ h => h
theorem St.push (h : St w n bx W v xs) {w1 : World} {v1 : Value} {ys : List Insn} (hO : kInsn.Own 39 w1 n (fun q => bx q = none) v1 ys) (hg : W.grownBy w1 v.ownBlock) : St w n bx w1 v1 ys := by
  refine ⟨h.wn, h.bel.grown hg h.size h.own.le, fun b o hb => ?_, hO⟩
  have hb' := h.box b o hb
  refine (hg.block b (blk_lt hb') fun e => ?_).trans hb'
  have := h.own.ok_ b e.symm
  rw [hb] at this
  cases this
/-- One box more. -/
theorem St.more (h : St w n bx W v xs) (o : Obj) (m : Nat) (hm : W.heap.size = m) : St w n (fun q => if q = m then some o else bx q) (W.alloc o) v xs := by
  refine ⟨h.wn, h.bel.alloc h.size o, fun b o' hb => ?_, (h.own.al o).shift plain_insn fun k hk => ⟨rfl, ?_⟩⟩
  · by_cases e : b = m
    · subst e
      rw [if_pos rfl] at hb
      cases hb
      rw [← hm]
      exact blk_new _ _
    · rw [if_neg e] at hb
      exact blk_al (h.box b o' hb) o
  · have hlt := Kd.Own.lt_ (h.own) k hk
    rw [if_neg (by omega)]
    exact h.own.ok_ k hk
theorem St.more' (h : St w n bx W v xs) (o : Obj) (m : Nat) (hm : W.heap.size = m) : ∃ bx', St w n bx' (W.alloc o) v xs ∧ bx' m = some o ∧ ∀ b o', bx b = some o' → bx' b = some o' :=
  ⟨_, h.more o m hm, if_pos rfl, fun b o' hb => by
    have := blk_lt (h.box b o' hb)
    show (if b = m then some o else bx b) = some o'
    rw [if_neg (by omega)]
    exact hb⟩
theorem St.less {bx' : Nat → Option Obj} (h : St w n bx W v xs) (hb : ∀ b o, bx' b = some o → bx b = some o) : St w n bx' W v xs :=
  ⟨h.wn, h.bel, fun b o h' => h.box b o (hb b o h'), h.own.shift plain_insn fun k hk => ⟨rfl, by
    have := h.own.ok_ k hk
    cases hq : bx' k with
    | none => rfl
    | some o => rw [hb k o hq] at this; cases this⟩⟩
theorem St.as (h : St w n bx W v xs) {ys : List Insn} (e : xs = ys) : St w n bx W v ys := e ▸ h
end
end Go.Proofs.Ytiepnnjodmkolaa
