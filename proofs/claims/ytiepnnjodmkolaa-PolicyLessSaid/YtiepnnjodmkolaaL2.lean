/- The plain law of PolicyLess: without the rules that earlier ones hide, a policy says the same. -/
import Derived.Test.YtiepnnjodmkolaaL1
import Derived.Test.YtiepnnjodmkolaaI1
namespace Go.Proofs.Ytiepnnjodmkolaa
set_option linter.unusedVariables false
set_option linter.unusedSimpArgs false

/-- The places that stay, and the rules there. -/
def keptN (l : List Rule) (n : Nat) : List Nat := (List.range n).filter (fun k => !shadAt l k)
def keptI (l : List Rule) (n : Nat) : List Int := (keptN l n).map Int.ofNat
def keptR (l : List Rule) (n : Nat) : List Rule := (keptN l n).map (fun k => l.getD k zRule)
theorem keptN_yes {l : List Rule} {k : Nat} (h : shadAt l k = false) : keptN l (k + 1) = keptN l k ++ [k] := by simp [keptN, List.range_succ, List.filter_append, h]
theorem keptN_no {l : List Rule} {k : Nat} (h : shadAt l k = true) : keptN l (k + 1) = keptN l k := by simp [keptN, List.range_succ, List.filter_append, h]
theorem keptN_len (l : List Rule) (n : Nat) : (keptN l n).length ≤ n := Nat.le_trans (List.length_filter_le _ _) (by simp)
theorem mem_shadL {l : List Rule} {k n : Nat} (hk : k < n) : ((k : Int) ∈ shadL l n) ↔ shadAt l k = true := by
  unfold shadL shadN
  simp only [List.mem_map, List.mem_filter, List.mem_range]
  constructor
  · rintro ⟨a, ⟨ha, hs⟩, e⟩
    have : a = k := by have e' : (a : Int) = (k : Int) := e; omega
    subst this
    exact hs
  · intro h
    exact ⟨k, ⟨hk, h⟩, rfl⟩
theorem shad_holds {d : Data} {r s : Rule} (h : shadR r s = true) (hs : holdsR d s = true) : holdsR d r = true := by
  unfold shadR missR at h
  unfold holdsR at hs ⊢
  simp only [Bool.and_eq_true, Bool.or_eq_true, beq_iff_eq, decide_eq_true_eq, Bool.not_eq_true', List.any_eq_true, List.any_eq_false, Bool.not_eq_true, List.length_eq_zero_iff] at h hs ⊢
  obtain ⟨⟨⟨h0, h1⟩, h2⟩, h3⟩ := h
  obtain ⟨⟨⟨k1, k2⟩, k3⟩, k4⟩ := hs
  refine ⟨⟨⟨?_, by omega⟩, by omega⟩, fun x hx => by rw [h0] at hx; cases hx⟩
  rcases h1 with h1 | ⟨h1, h4⟩
  · exact .inl h1
  · rcases k1 with k1 | ⟨y, hy, k1⟩
    · rw [k1] at h1; simp at h1
    · have h5 := h4 y hy
      simp at h5
      exact .inr ⟨y, h5, k1⟩
theorem first_open {d : Data} {l : List Rule} {k : Nat} (h : firstH d l = some k) : shadAt l k = false := by
  have hk := firstH_lt h
  unfold firstH at h
  rw [List.findIdx?_eq_some_iff_getElem] at h
  obtain ⟨_, hp, hno⟩ := h
  cases hs : shadAt l k with
  | false => rfl
  | true =>
    unfold shadAt at hs
    obtain ⟨r, hr, hsh⟩ := List.any_eq_true.1 hs
    rw [show l.getD k zRule = l[k] from by simp [List.getD, hk]] at hsh
    have := shad_holds hsh hp
    obtain ⟨j, hj, rfl⟩ := List.getElem_of_mem hr
    rw [List.length_take] at hj
    rw [List.getElem_take] at this
    have hc := hno j (by omega)
    rw [this] at hc
    simp at hc
theorem keptN_sorted (l : List Rule) (n : Nat) : (keptN l n).Pairwise (· < ·) := List.Pairwise.sublist List.filter_sublist List.pairwise_lt_range
theorem first_kept {d : Data} {l : List Rule} {k : Nat} (h : firstH d l = some k) : ∃ i, firstH d (keptR l l.length) = some i ∧ (keptN l l.length)[i]? = some k := by
  have hk := firstH_lt h
  have ho := first_open h
  have hm : k ∈ keptN l l.length := by simp [keptN, hk, ho]
  obtain ⟨i, hi, hik⟩ := List.getElem_of_mem hm
  unfold firstH at h ⊢
  rw [List.findIdx?_eq_some_iff_getElem] at h
  obtain ⟨_, hp, hno⟩ := h
  refine ⟨i, ?_, by rw [List.getElem?_eq_getElem hi, hik]⟩
  rw [List.findIdx?_eq_some_iff_getElem]
  refine ⟨by simp [keptR, hi], ?_, fun j hj => ?_⟩
  · simp only [keptR, List.getElem_map, hik]
    rw [show l.getD k zRule = l[k] from by simp [List.getD, hk]]
    exact hp
  · have hlt : (keptN l l.length)[j] < (keptN l l.length)[i] := List.pairwise_iff_getElem.1 (keptN_sorted l l.length) j i (by omega) hi hj
    rw [hik] at hlt
    simp only [keptR, List.getElem_map]
    rw [show l.getD (keptN l l.length)[j] zRule = l[(keptN l l.length)[j]]'(by omega) from by simp [List.getD, show (keptN l l.length)[j] < l.length by omega]]
    exact hno _ hlt
theorem kept_mem {l : List Rule} {r : Rule} (h : r ∈ keptR l l.length) : r ∈ l := by
  unfold keptR at h
  obtain ⟨k, hk, rfl⟩ := List.mem_map.1 h
  unfold keptN at hk
  have hkl := List.mem_range.1 (List.mem_filter.1 hk).1
  rw [show l.getD k zRule = l[k] from by simp [List.getD, hkl]]
  exact List.getElem_mem hkl
theorem first_kept_none {d : Data} {l : List Rule} (h : firstH d l = none) : firstH d (keptR l l.length) = none := by
  unfold firstH at *
  rw [List.findIdx?_eq_none_iff] at *
  exact fun r hr => h r (kept_mem hr)
theorem less_check {p : Policy} (h : checkP p = 0) : checkP ⟨keptR p.rules p.rules.length, p.els⟩ = 0 := by
  obtain ⟨h1, h2⟩ := checkP_ok h
  unfold checkP
  rw [if_neg]
  rw [not_or]
  refine ⟨?_, ?_⟩
  · have := keptN_len p.rules p.rules.length
    simp only [keptR, List.length_map]
    omega
  · rw [Bool.not_eq_true, List.any_eq_false]
    rw [List.any_eq_false] at h1
    exact fun r hr => h1 r (kept_mem hr)
/-- What both say. -/
theorem less_says (l : List Rule) (els : Int) (d : Data) : saysW ⟨keptR l l.length, els⟩ d = saysW ⟨l, els⟩ d ∧
    ((saysAt ⟨l, els⟩ d = -1 ∧ saysAt ⟨keptR l l.length, els⟩ d = -1) ∨ ∃ k i : Nat, saysAt ⟨l, els⟩ d = k ∧ saysAt ⟨keptR l l.length, els⟩ d = i ∧ (keptI l l.length)[i]? = some (k : Int)) := by
  cases h : firstH d l with
  | none =>
    have h' := first_kept_none h
    obtain ⟨a1, a2⟩ := says_none (x := ⟨l, els⟩) h
    obtain ⟨b1, b2⟩ := says_none (x := ⟨keptR l l.length, els⟩) h'
    exact ⟨by rw [a1, b1], .inl ⟨a2, b2⟩⟩
  | some k =>
    obtain ⟨i, h', hi⟩ := first_kept h
    obtain ⟨a0, a1, a2⟩ := says_some (x := ⟨l, els⟩) h
    obtain ⟨b0, b1, b2⟩ := says_some (x := ⟨keptR l l.length, els⟩) h'
    refine ⟨?_, .inr ⟨k, i, a2, b2, by simp [keptI, hi]⟩⟩
    rw [a1, b1]
    have hk : k < l.length := a0
    have e : (keptR l l.length)[i]? = some l[k] := by
      unfold keptR
      rw [List.getElem?_map, hi]
      simp [List.getD, hk]
    show (keptR l l.length)[i]!.word = l[k]!.word
    simp [e, hk, getElem!_def]
end Go.Proofs.Ytiepnnjodmkolaa
