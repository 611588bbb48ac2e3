/- A policy's program may be. No program in sight. -/
import Derived.Test.YtiepnnjodmkolaaI3
namespace Go.Proofs.Ytiepnnjodmkolaa
open Go.RowKit Go.Shelf
set_option linter.unusedVariables false
set_option linter.unusedSimpArgs false

/-- An instruction that leaves so many behind it. -/
def fitI (x : Insn) (m : Int) : Prop := (x.code = 32 ∧ (x.k % 4 = 0 ∧ x.k < 64)) ∨ x.code = 84 ∨ x.code = 6 ∨ (x.code = 5 ∧ x.k < m) ∨ ((x.code = 21 ∨ x.code = 37 ∨ x.code = 53) ∧ x.jt < m ∧ x.jf < m)
theorem fit_one {x : Insn} {i n : Int} (h : fitI x (n - 1 - i)) : oneF x i n = 0 := by
  obtain ⟨c, jt, jf, k⟩ := x
  unfold fitI at h
  simp only at h
  have f32 : formF 32 = 2 := by decide
  have f84 : formF 84 = 1 := by decide
  have f6 : formF 6 = 1 := by decide
  have f5 : formF 5 = 4 := by decide
  have f21 : formF 21 = 5 := by decide
  have f37 : formF 37 = 5 := by decide
  have f53 : formF 53 = 5 := by decide
  unfold oneF
  rcases h with ⟨rfl, h1, h2⟩ | rfl | rfl | ⟨rfl, h1⟩ | ⟨rfl | rfl | rfl, h1, h2⟩
  all_goals simp [f32, f84, f6, f5, f21, f37, f53]
  all_goals omega
theorem firstBad_none {n : Int} (l : List Insn) : ∀ i : Nat, (∀ (j : Nat) (hj : j < l.length), oneF l[j] ((i + j : Nat) : Int) n = 0) → firstBad n l i = none := by
  induction l with
  | nil => intro i _; rfl
  | cons x xs ih =>
    intro i h
    rw [firstBad, if_pos (by have := h 0 (by simp); simpa using this)]
    refine ih (i + 1) (fun j hj => ?_)
    have := h (j + 1) (by simp; omega)
    simp only [List.getElem_cons_succ] at this
    rwa [show i + 1 + j = i + (j + 1) by omega]
/-- All of a list fit, where m more lie behind it. -/
def FitL : List Insn → Int → Prop
  | [], _ => True
  | x :: xs, m => fitI x (xs.length + m) ∧ FitL xs m
theorem fit_more {x : Insn} {m m' : Int} (h : fitI x m) (hm : m ≤ m') : fitI x m' := by
  unfold fitI at *
  rcases h with h | h | h | ⟨h, h1⟩ | ⟨h, h1, h2⟩
  · exact .inl h
  · exact .inr (.inl h)
  · exact .inr (.inr (.inl h))
  · exact .inr (.inr (.inr (.inl ⟨h, by omega⟩)))
  · exact .inr (.inr (.inr (.inr ⟨h, by omega, by omega⟩)))
theorem FitL.more {l : List Insn} {m m' : Int} (h : FitL l m) (hm : m ≤ m') : FitL l m' := by
  induction l with
  | nil => trivial
  | cons x xs ih => exact ⟨fit_more h.1 (by omega), ih h.2⟩
theorem FitL.append {a b : List Insn} {m : Int} (ha : FitL a (b.length + m)) (hb : FitL b m) : FitL (a ++ b) m := by
  induction a with
  | nil => exact hb
  | cons x xs ih =>
    refine ⟨?_, ih ha.2⟩
    have := ha.1
    show fitI x (((xs ++ b).length : Int) + m)
    rw [List.length_append]
    push_cast
    rwa [show ((xs.length : Int) + b.length + m) = xs.length + (b.length + m) by omega]
theorem FitL.at_ {l : List Insn} {m : Int} (h : FitL l m) : ∀ (j : Nat) (hj : j < l.length), fitI l[j] (l.length - 1 - j + m) := by
  induction l with
  | nil => intro j hj; simp at hj
  | cons x xs ih =>
    intro j hj
    cases j with
    | zero =>
      have := h.1
      simp only [List.getElem_cons_zero, List.length_cons]
      exact fit_more this (by push_cast; omega)
    | succ j =>
      have := ih h.2 j (by simpa using hj)
      simp only [List.getElem_cons_succ, List.length_cons]
      exact fit_more this (by push_cast; omega)
theorem fit_tests (ts : List Test) (hb : ts.any testBad = false) : FitL (testsT ts) 2 := by
  induction ts with
  | nil => trivial
  | cons t ts ih =>
    rw [List.any_cons, Bool.or_eq_false_iff] at hb
    have hbt : 0 ≤ t.arg ∧ t.arg < 6 := by
      have := hb.1
      unfold testBad at this
      rw [Bool.or_eq_false_iff, decide_eq_false_iff_not, decide_eq_false_iff_not] at this
      omega
    have ho : offs t % 4 = 0 ∧ offs t < 64 := by
      unfold offs
      split <;> omega
    have hl := testsT_length ts
    refine ⟨.inl ⟨rfl, ho⟩, .inr (.inl rfl), .inr (.inr (.inr (.inr ⟨.inl rfl, ?_, ?_⟩))), ih hb.2⟩
    · show (0 : Int) < (testsT ts).length + 2
      omega
    · show (((3 * ts.length + 1 : Nat) : Int)) < (testsT ts).length + 2
      rw [hl]; push_cast; omega
theorem fit_block (r : Rule) (hts : r.tests.length ≤ 3) (has : r.archs.length ≤ 2) (htb : r.tests.any testBad = false) : FitL (refR r) 1 := by
  have h1 : FitL (testsT r.tests ++ [insn 6 r.word]) 1 := FitL.append (by simpa using fit_tests r.tests htb) ⟨.inr (.inr (.inl rfl)), trivial⟩
  have hl := testsT_length r.tests
  have h2 : FitL ([insn 32 0, ⟨53, 0, 2 + 3 * r.tests.length, r.lo⟩, ⟨37, 1 + 3 * r.tests.length, 0, r.hi⟩] ++ (testsT r.tests ++ [insn 6 r.word])) 1 := by
    refine ⟨.inl ⟨rfl, by decide, by decide⟩, .inr (.inr (.inr (.inr ⟨.inr (.inr rfl), ?_, ?_⟩))), .inr (.inr (.inr (.inr ⟨.inr (.inl rfl), ?_, ?_⟩))), h1⟩
    all_goals
      simp only [List.append_eq, List.nil_append, List.cons_append, List.length_cons, List.length_append, List.length_nil, hl]
      push_cast
      omega
  have he : refR r = archR r ++ ([insn 32 0, ⟨53, 0, 2 + 3 * r.tests.length, r.lo⟩, ⟨37, 1 + 3 * r.tests.length, 0, r.hi⟩] ++ (testsT r.tests ++ [insn 6 r.word])) := by
    rw [refR, testsT_eq]
    simp only [List.append_assoc, List.cons_append, List.nil_append]
  rw [he]
  refine FitL.append ?_ h2
  have hlen : (([insn 32 0, ⟨53, 0, 2 + 3 * r.tests.length, r.lo⟩, ⟨37, 1 + 3 * r.tests.length, 0, r.hi⟩] ++ (testsT r.tests ++ [insn 6 r.word])).length : Int) = 4 + 3 * r.tests.length := by
    simp only [List.append_eq, List.nil_append, List.cons_append, List.length_cons, List.length_append, List.length_nil, hl]
    push_cast
    omega
  rw [hlen]
  obtain ⟨archs, lo, hi, tests, word⟩ := r
  simp only at *
  match archs, has with
  | [], _ => exact trivial
  | [a0], _ =>
    have e : archR ⟨[a0], lo, hi, tests, word⟩ = [insn 32 4, ⟨21, ((1 : Nat) : Int), ((0 : Nat) : Int), a0⟩, ⟨5, 0, 0, ((4 + 3 * tests.length : Nat) : Int)⟩] := by simp [archR, archIns]
    rw [e]
    refine ⟨.inl ⟨rfl, by decide, by decide⟩, .inr (.inr (.inr (.inr ⟨.inl rfl, ?_, ?_⟩))), .inr (.inr (.inr (.inl ⟨rfl, ?_⟩))), trivial⟩
    all_goals
      simp only [List.length_cons, List.length_nil]
      push_cast
      omega
  | [a0, a1], _ =>
    have e : archR ⟨[a0, a1], lo, hi, tests, word⟩ = [insn 32 4, ⟨21, ((2 : Nat) : Int), ((0 : Nat) : Int), a0⟩, ⟨21, ((1 : Nat) : Int), ((0 : Nat) : Int), a1⟩, ⟨5, 0, 0, ((4 + 3 * tests.length : Nat) : Int)⟩] := by simp [archR, archIns]
    rw [e]
    refine ⟨.inl ⟨rfl, by decide, by decide⟩, .inr (.inr (.inr (.inr ⟨.inl rfl, ?_, ?_⟩))), .inr (.inr (.inr (.inr ⟨.inl rfl, ?_, ?_⟩))), .inr (.inr (.inr (.inl ⟨rfl, ?_⟩))), trivial⟩
    all_goals
      simp only [List.length_cons, List.length_nil]
      push_cast
      omega
theorem fit_rules (rules : List Rule) (hb : rules.any ruleBad = false) : FitL (rules.flatMap refR) 1 := by
  induction rules with
  | nil => trivial
  | cons r rules ih =>
    rw [List.any_cons, Bool.or_eq_false_iff] at hb
    have hrb := hb.1
    simp only [ruleBad, Bool.or_eq_false_iff, decide_eq_false_iff_not] at hrb
    obtain ⟨⟨⟨hra, hrl⟩, hrt⟩, hrtb⟩ := hrb
    rw [List.flatMap_cons]
    exact FitL.append ((fit_block r (by omega) (by omega) hrtb).more (by omega)) (ih hb.2)
theorem check_policy (x : Policy) (hc : checkP x = 0) (hlen : (progP x).length ≤ 64) : (checkL (progP x)).2 = 0 := by
  obtain ⟨hb, -⟩ := checkP_ok hc
  obtain ⟨rules, els⟩ := x
  have hp : progP ⟨rules, els⟩ = rules.flatMap refR ++ [insn 6 els] := by rw [flat_ref hb]; rfl
  have hpos : 1 ≤ (progP ⟨rules, els⟩).length := by rw [hp]; simp
  have hfit : FitL (progP ⟨rules, els⟩) 0 := by
    rw [hp]
    exact FitL.append ((fit_rules rules hb).more (by simp)) ⟨.inr (.inr (.inl rfl)), trivial⟩
  have hnone : firstBad (progP ⟨rules, els⟩).length (progP ⟨rules, els⟩) 0 = none := by
    refine firstBad_none _ 0 (fun j hj => fit_one ?_)
    have := hfit.at_ j hj
    exact fit_more this (by push_cast; omega)
  have hlast : (progP ⟨rules, els⟩).getD ((progP ⟨rules, els⟩).length - 1) zInsn = insn 6 els := by
    rw [hp]
    simp
  unfold checkL
  rw [if_neg (by omega), hnone]
  simp only
  rw [hlast, if_pos (by rfl)]
end Go.Proofs.Ytiepnnjodmkolaa
