/- Plain law of chains: the way up from a filter. No program in sight. -/
import Derived.Test.YtbojjjiggppnaaaGreatN4
namespace Go.Proofs.YtbojjjiggppnaaaGreat
open Go.RowKit Go.Shelf
set_option linter.unusedVariables false
set_option linter.unusedSimpArgs false

/-! ### the way up from a filter -/
/-- The places of the filters of a chain. -/
inductive Path (xs : List Node) : Int → List Nat → Prop
  | done : Path xs 0 []
  | step {t : Int} {i : Nat} {l : List Nat} (h0 : t ≠ 0) (hi : i < xs.length) (he : xs[i].id = t) (h : Path xs xs[i].parent l) : Path xs t (i :: l)
theorem Path.same {xs : List Node} (hR : Rising xs) {t : Int} {l m : List Nat} (h : Path xs t l) (k : Path xs t m) : l = m := by
  induction h generalizing m with
  | done => cases k with
    | done => rfl
    | step h0 => exact absurd rfl h0
  | @step t i l h0 hi he h ih =>
    cases k with
    | done => exact absurd rfl h0
    | @step _ j l' _ hj he' h' =>
      have : i = j := by
        rcases Nat.lt_trichotomy i j with g | g | g
        · have := hR i j hi hj g; omega
        · exact g
        · have := hR j i hj hi g; omega
      subst this
      rw [ih h']
theorem path_up {xs : List Node} (hR : Rising xs) (hg : ∀ x ∈ xs, goodN xs x) : ∀ (n : Nat) (i : Nat) (hi : i < xs.length), xs[i].id ≠ 0 → under xs xs[i].size ≤ n → ∃ l, Path xs xs[i].id l ∧ l.length ≤ n + 1 := by
  intro n
  induction n with
  | zero =>
    intro i hi h0 hn
    rcases (rightN_iff.1 (hg _ (List.getElem_mem hi)).2).2 with ⟨hp, _⟩ | ⟨hp, m, hm, h1, h2, h3, h4⟩
    · exact ⟨[i], .step h0 hi rfl (by rw [hp]; exact .done), by simp⟩
    · have := under_rise (find_mem hm) (show m.size < xs[i].size by omega)
      omega
  | succ n ih =>
    intro i hi h0 hn
    rcases (rightN_iff.1 (hg _ (List.getElem_mem hi)).2).2 with ⟨hp, _⟩ | ⟨hp, m, hm, h1, h2, h3, h4⟩
    · exact ⟨[i], .step h0 hi rfl (by rw [hp]; exact .done), by simp⟩
    · have hu := under_rise (find_mem hm) (show m.size < xs[i].size by omega)
      have hid := find_id hm
      obtain ⟨j, hj, rfl⟩ := List.getElem_of_mem (find_mem hm)
      obtain ⟨l, hl, hlen⟩ := ih j hj (by rw [hid]; exact hp) (by omega)
      exact ⟨i :: l, .step h0 hi rfl (by rw [← hid]; exact hl), by simp; omega⟩
theorem path_of {xs : List Node} (h : poolE xs = 0) {t : Int} (ht : t = 0 ∨ findN xs t ≠ none) : ∃ l, Path xs t l ∧ l.length ≤ xs.length := by
  obtain ⟨h1, h2⟩ := poolE_inv h
  rcases ht with rfl | ht
  · exact ⟨[], .done, Nat.zero_le _⟩
  · cases hf : findN xs t with
    | none => exact absurd hf ht
    | some x =>
      have hid := find_id hf
      obtain ⟨i, hi, rfl⟩ := List.getElem_of_mem (find_mem hf)
      have hk := (h1 i hi hi).2.1
      have hu := under_lt (xs := xs) (List.getElem_mem hi)
      obtain ⟨l, hl, hlen⟩ := path_up h1.rising h2 (under xs xs[i].size) i hi (by omega) (Nat.le_refl _)
      exact ⟨l, by rw [← hid]; exact hl, by omega⟩
open Classical in
/-- How long the way up is. -/
noncomputable def plen (xs : List Node) (t : Int) : Nat := if h : ∃ l, Path xs t l then (Classical.choose h).length else 0
theorem plen_of {xs : List Node} (hR : Rising xs) {t : Int} {l : List Nat} (h : Path xs t l) : plen xs t = l.length := by
  have hx : ∃ l, Path xs t l := ⟨l, h⟩
  unfold plen
  rw [dif_pos hx, Path.same hR (Classical.choose_spec hx) h]
end Go.Proofs.YtbojjjiggppnaaaGreat
