/- The walk of PolicyAhead. -/
import Derived.Test.YtiepnnjodmkolaaG9
import Derived.Test.YtiepnnjodmkolaaH1
namespace Go.Proofs.Ytiepnnjodmkolaa
open Go.RowKit Go.Shelf
set_option linter.unusedVariables false
set_option linter.unusedSimpArgs false

theorem firstH_cons (d : Data) (r : Rule) (l : List Rule) : firstH d (r :: l) = if holdsR d r = true then some 0 else (firstH d l).map (· + 1) := by
  unfold firstH
  rw [List.findIdx?_cons]
theorem ahead_yes {d : Data} {r : Rule} {l : List Rule} {e : Int} (h : holdsR d r = true) : saysW ⟨r :: l, e⟩ d = r.word ∧ saysAt ⟨r :: l, e⟩ d = 0 := by
  have : firstH d (r :: l) = some 0 := by rw [firstH_cons, if_pos h]
  constructor
  · unfold saysW; simp only [this]; rfl
  · unfold saysAt; simp only [this]; rfl
theorem ahead_no {d : Data} {r : Rule} {l : List Rule} {e : Int} (h : holdsR d r = false) : saysW ⟨r :: l, e⟩ d = saysW ⟨l, e⟩ d ∧ saysAt ⟨r :: l, e⟩ d ≠ 0 := by
  have h1 : firstH d (r :: l) = (firstH d l).map (· + 1) := by rw [firstH_cons, if_neg (by rw [h]; decide)]
  cases ho : firstH d l with
  | none =>
    rw [ho] at h1
    simp only [Option.map_none] at h1
    exact ⟨by unfold saysW; simp only [h1, ho], by unfold saysAt; simp only [h1]; decide⟩
  | some k =>
    rw [ho] at h1
    simp only [Option.map_some] at h1
    refine ⟨?_, ?_⟩
    · unfold saysW
      simp only [h1, ho]
      have hk := firstH_lt ho
      rw [getElem!_pos (r :: l) (k + 1) (by simp; exact hk), getElem!_pos l k hk]
      rfl
    · unfold saysAt
      simp only [h1]
      omega
def saysV (x : Policy) (d : Data) : Value := if checkP x = 0 then .tuple #[.int .u32 (saysW x d), .int .i64 (saysAt x d), .int .i64 0] else .tuple #[.int .u32 0, .int .i64 0, .int .i64 330]
theorem c_says (x : Policy) (d : Data) (hd : d.wf) (ok : Nat → Prop) (cs : List Value) (w : World) (hK : kPolicy.K w ok x cs) :
    Calls Try.prog 21 #[.agg cs.toArray, d.agg] w fun e w' => e = .returned (saysV x d) ∧ Below w.heap.size w w' := by
  unfold saysV
  by_cases h : checkP x = 0
  · rw [if_pos h]; exact c_says_yes x d hd ok cs w hK h
  · rw [if_neg h]; exact c_says_no x d ok cs w hK h
theorem checkP_tail {r : Rule} {l : List Rule} {e : Int} (h : checkP ⟨r :: l, e⟩ = 0) : checkP ⟨l, e⟩ = 0 := by
  obtain ⟨h1, h2⟩ := checkP_ok h
  unfold checkP
  rw [if_neg]
  rw [not_or]
  simp only [List.any_cons, Bool.or_eq_false_iff, List.length_cons] at h1 h2
  exact ⟨by show ¬ 6 < l.length; omega, by show ¬ l.any ruleBad = true; rw [h1.2]; decide⟩
end Go.Proofs.Ytiepnnjodmkolaa
