/- The plain law of PolicyLast. No program in sight. -/
import Derived.Test.YtiepnnjodmkolaaF2
import Derived.Test.YtiepnnjodmkolaaC5
namespace Go.Proofs.Ytiepnnjodmkolaa
open Go.RowKit
set_option linter.unusedVariables false
set_option linter.unusedSimpArgs false

theorem encI_inj {x y : Insn} (hx : x.wf) (hy : y.wf) (h : encI x = encI y) : x = y := by
  obtain ⟨c, jt, jf, k⟩ := x
  obtain ⟨c', jt', jf', k'⟩ := y
  obtain ⟨a0, a1, a2, a3⟩ := hx
  obtain ⟨b0, b1, b2, b3⟩ := hy
  simp only [Kd.rng] at a0 a1 a2 a3 b0 b1 b2 b3
  simp only [encI, leB, List.cons_append, List.nil_append, List.cons.injEq, and_true] at h
  obtain ⟨h0, h1, rfl, rfl, h4, h5, h6, h7⟩ := h
  have e0 : c = c' := by omega
  have e1 : k = k' := by omega
  subst e0 e1
  rfl
theorem encL_inj {a b : List Insn} (ha : ∀ x ∈ a, x.wf) (hb : ∀ x ∈ b, x.wf) (h : encL a = encL b) : a = b := by
  induction a generalizing b with
  | nil =>
    cases b with
    | nil => rfl
    | cons y ys => have := congrArg List.length h; rw [encL_length, encL_length] at this; simp at this
  | cons x xs ih =>
    cases b with
    | nil => have := congrArg List.length h; rw [encL_length, encL_length] at this; simp at this
    | cons y ys =>
      have h' : encI x ++ encL xs = encI y ++ encL ys := h
      obtain ⟨h1, h2⟩ := List.append_inj h' (by rw [encI_length, encI_length])
      rw [encI_inj (ha x (by simp)) (hb y (by simp)) h1, ih (fun z hz => ha z (by simp [hz])) (fun z hz => hb z (by simp [hz])) h2]
def c6 (x : Insn) : Bool := x.code == 6
theorem patch_code (f n i : Nat) (x : Insn) : (patch f n i x).code = x.code := by
  unfold patch
  repeat' split
  all_goals rfl
theorem cnt_ofR (r : Rule) : (ofR r).countP c6 = 1 := by
  have hm : (ofR r).map Insn.code = (baseOf r).map Insn.code := by
    apply List.ext_getElem
    · simp [ofR]
    · intro i h1 h2
      simp [ofR, patch_code]
  have hc : ∀ l : List Insn, l.countP c6 = (l.map Insn.code).countP (fun c => c == 6) := fun l => by rw [List.countP_map]; rfl
  rw [hc, hm, ← hc]
  have h1 : (archBlk r.archs).countP c6 = 0 := by
    rw [List.countP_eq_zero]
    intro x hx
    unfold archBlk at hx
    split at hx
    · cases hx
    · simp only [List.mem_cons, List.mem_append, List.not_mem_nil, or_false, archIns, List.mem_map] at hx
      rcases hx with rfl | ⟨p, _, rfl⟩ | rfl <;> simp [c6, insn]
  have h2 : (tests3 r.tests).countP c6 = 0 := by
    rw [List.countP_eq_zero]
    intro x hx
    simp only [tests3, List.mem_flatMap, List.mem_cons, List.not_mem_nil, or_false] at hx
    obtain ⟨t, _, rfl | rfl | rfl⟩ := hx <;> simp [c6, insn]
  simp only [baseOf, List.countP_append, h1, h2]
  rfl
theorem cnt_flat (l : List Rule) : (l.flatMap ofR).countP c6 = l.length := by
  induction l with
  | nil => rfl
  | cons r l ih => simp only [List.flatMap_cons, List.countP_append, cnt_ofR, ih, List.length_cons]; omega
theorem cnt_progP (p : Policy) : (progP p).countP c6 = p.rules.length + 1 := by
  simp only [progP, List.countP_append, cnt_flat]
  rfl
/-- One program: one word for all else, and as many rules. -/
theorem progP_inj {p q : Policy} (h : progP p = progP q) : p.els = q.els ∧ p.rules.length = q.rules.length := by
  refine ⟨?_, ?_⟩
  · have := congrArg List.getLast? h
    simp only [progP, List.getLast?_append, List.getLast?_singleton, Option.some_or, Option.some.injEq, insn, Insn.mk.injEq] at this
    exact this.2.2.2
  · have := congrArg (List.countP c6) h
    rw [cnt_progP, cnt_progP] at this
    omega
theorem progP_pos (p : Policy) : 1 ≤ (progP p).length := by simp [progP]
theorem progP_last (p : Policy) (h : (progP p).length - 1 < (progP p).length) : (progP p)[(progP p).length - 1] = insn 6 p.els := by
  simp [progP]
theorem progP_one (p : Policy) : ((progP p).length = 1) ↔ (p.rules.length = 0) := by
  obtain ⟨rules, els⟩ := p
  cases rules with
  | nil => simp [progP]
  | cons r rs =>
    have := ofR_length r
    simp only [progP, List.flatMap_cons, List.length_append, List.length_cons, List.length_nil]
    omega
end Go.Proofs.Ytiepnnjodmkolaa
