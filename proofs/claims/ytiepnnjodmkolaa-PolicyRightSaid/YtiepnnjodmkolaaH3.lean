/- The reference's program of a policy is the program. No program in sight. -/
import Derived.Test.YtiepnnjodmkolaaH2
namespace Go.Proofs.Ytiepnnjodmkolaa
open Go.RowKit Go.Shelf
set_option linter.unusedVariables false
set_option linter.unusedSimpArgs false

def archR (r : Rule) : List Insn := if r.archs.length = 0 then [] else insn 32 4 :: (archIns r.archs ++ [⟨5, 0, 0, 4 + 3 * r.tests.length⟩])
def testR (n k : Nat) (t : Test) : List Insn := [insn 32 (offs t), insn 84 t.mask, ⟨21, 0, 3 * ((n : Int) - k) - 2, t.value⟩]
def testsR (l : List Test) : List Insn := l.zipIdx.flatMap fun p => testR l.length p.2 p.1
def refR (r : Rule) : List Insn := archR r ++ [insn 32 0, ⟨53, 0, 2 + 3 * r.tests.length, r.lo⟩, ⟨37, 1 + 3 * r.tests.length, 0, r.hi⟩] ++ testsR r.tests ++ [insn 6 r.word]
theorem refR_eq (r : Rule) (ha : r.archs.length ≤ 2) (ht : r.tests.length ≤ 3) : refR r = ofR r := by
  obtain ⟨archs, lo, hi, tests, word⟩ := r
  simp only at ha ht
  match archs, ha with
  | [], _ =>
    match tests, ht with
    | [], _ => simp [refR, ofR, baseOf, archR, archBlk, archIns, testsR, testR, tests3, patch, insn]
    | [t0], _ => simp [refR, ofR, baseOf, archR, archBlk, archIns, testsR, testR, tests3, patch, insn]
    | [t0, t1], _ => simp [refR, ofR, baseOf, archR, archBlk, archIns, testsR, testR, tests3, patch, insn]
    | [t0, t1, t2], _ => simp [refR, ofR, baseOf, archR, archBlk, archIns, testsR, testR, tests3, patch, insn]
  | [a0], _ =>
    match tests, ht with
    | [], _ => simp [refR, ofR, baseOf, archR, archBlk, archIns, testsR, testR, tests3, patch, insn]
    | [t0], _ => simp [refR, ofR, baseOf, archR, archBlk, archIns, testsR, testR, tests3, patch, insn]
    | [t0, t1], _ => simp [refR, ofR, baseOf, archR, archBlk, archIns, testsR, testR, tests3, patch, insn]
    | [t0, t1, t2], _ => simp [refR, ofR, baseOf, archR, archBlk, archIns, testsR, testR, tests3, patch, insn]
  | [a0, a1], _ =>
    match tests, ht with
    | [], _ => simp [refR, ofR, baseOf, archR, archBlk, archIns, testsR, testR, tests3, patch, insn]
    | [t0], _ => simp [refR, ofR, baseOf, archR, archBlk, archIns, testsR, testR, tests3, patch, insn]
    | [t0, t1], _ => simp [refR, ofR, baseOf, archR, archBlk, archIns, testsR, testR, tests3, patch, insn]
    | [t0, t1, t2], _ => simp [refR, ofR, baseOf, archR, archBlk, archIns, testsR, testR, tests3, patch, insn]
theorem flat_ref {l : List Rule} (h : l.any ruleBad = false) : l.flatMap refR = l.flatMap ofR := by
  induction l with
  | nil => rfl
  | cons r l ih =>
    rw [List.any_cons, Bool.or_eq_false_iff] at h
    have h4 := h.1
    simp only [ruleBad, Bool.or_eq_false_iff, decide_eq_false_iff_not] at h4
    simp only [List.flatMap_cons, ih h.2, refR_eq r (by omega) (by omega)]
end Go.Proofs.Ytiepnnjodmkolaa
