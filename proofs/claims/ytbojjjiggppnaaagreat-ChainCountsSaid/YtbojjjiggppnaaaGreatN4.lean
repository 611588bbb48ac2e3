/- Plain law of ChainCounts: which pools may be, a filter put in its place, one fewer. No program in sight. -/
import Derived.Test.YtbojjjiggppnaaaGreatN2
namespace Go.Proofs.YtbojjjiggppnaaaGreat
open Go.RowKit Go.Shelf
set_option linter.unusedVariables false
set_option linter.unusedSimpArgs false

/-! ### which pools may be: the program's answer and the document's -/
theorem find_id {xs : List Node} {t : Int} {x : Node} (h : findN xs t = some x) : x.id = t := by
  have := List.find?_some h
  simpa using this
theorem rising_inj {xs : List Node} (hR : Rising xs) {x y : Node} (hx : x ∈ xs) (hy : y ∈ xs) (h : x.id = y.id) : x = y := by
  obtain ⟨i, hi, rfl⟩ := List.getElem_of_mem hx
  obtain ⟨j, hj, rfl⟩ := List.getElem_of_mem hy
  rcases Nat.lt_trichotomy i j with h' | rfl | h'
  · have := hR i j hi hj h'; omega
  · rfl
  · have := hR j i hj hi h'; omega
theorem find_of_mem {xs : List Node} (hR : Rising xs) {x : Node} (hx : x ∈ xs) : findN xs x.id = some x := by
  obtain ⟨i, hi, rfl⟩ := List.getElem_of_mem hx
  exact find_at hR hi rfl
theorem sizedF_succ {xs : List Node} (m : Nat) (t : Int) (h : sizedF xs m t ≠ 0) : sizedF xs (m + 1) t = sizedF xs m t := by
  induction m generalizing t with
  | zero => exact absurd rfl h
  | succ m ih =>
    rw [sizedF] at h ⊢
    conv => rhs; rw [sizedF]
    cases hf : findN xs t with
    | none => rfl
    | some x =>
      rw [hf] at h
      simp only at h ⊢
      split
      · rfl
      · rename_i hp
        rw [if_neg hp] at h
        by_cases h0 : sizedF xs m x.parent = 0
        · rw [if_pos h0] at h; exact absurd rfl h
        · rw [ih _ h0]
theorem sizedF_more {xs : List Node} (m k : Nat) (t : Int) (h : sizedF xs m t ≠ 0) : sizedF xs (m + k) t = sizedF xs m t := by
  induction k with
  | zero => rfl
  | succ k ih =>
    rw [← Nat.add_assoc, sizedF_succ _ _ (by rw [ih]; exact h), ih]
/-- What the document asks of a pool's filter, but for its size. -/
def nodeR (xs : List Node) (x : Node) : Prop := 1 ≤ x.count ∧ (kids xs x.id : Int) ≤ x.count ∧ (checkL x.program).2 = 0
def poolR (xs : List Node) : Prop := idsTo xs xs.length ∧ (∀ x ∈ xs, nodeR xs x) ∧ ∀ x ∈ xs, sizedF xs 24 x.id ≠ 0 ∧ sizedF xs 24 x.id ≤ 256 ∧ x.size = sizedF xs 24 x.id
theorem rightN_iff {xs : List Node} {x : Node} : rightN xs x = true ↔ (checkL x.program).2 = 0 ∧ ((x.parent = 0 ∧ x.size = x.program.length + 4) ∨ (x.parent ≠ 0 ∧ ∃ m, findN xs x.parent = some m ∧ 0 ≤ m.size ∧ m.size ≤ 256 ∧ x.size = x.program.length + 4 + m.size ∧ (x.program.length : Int) + 4 + m.size ≤ 256)) := by
  unfold rightN
  by_cases hp : x.parent = 0
  · simp [hp]
  · simp only [hp, if_false, false_and, false_or, Bool.and_eq_true, decide_eq_true_eq, ne_eq, not_false_eq_true, true_and]
    cases hf : findN xs x.parent with
    | none => simp
    | some m => simp; intro _; omega
theorem idsTo.len {xs : List Node} (h : idsTo xs xs.length) : xs.length ≤ 24 := by
  rcases Nat.eq_zero_or_pos xs.length with h0 | h0
  · omega
  · have := (h (xs.length - 1) (by omega) (by omega)).1
    omega
/-- How many are smaller. -/
def under (xs : List Node) (s : Int) : Nat := xs.countP (fun y => decide (y.size < s))
theorem under_lt {xs : List Node} {x : Node} (hx : x ∈ xs) : under xs x.size < xs.length := by
  unfold under
  rcases Nat.lt_or_ge (xs.countP (fun y => decide (y.size < x.size))) xs.length with h | h
  · exact h
  · have he : xs.countP (fun y => decide (y.size < x.size)) = xs.length := Nat.le_antisymm List.countP_le_length h
    have := List.countP_eq_length.1 he x hx
    simp at this
theorem under_le {xs : List Node} {s t : Int} (h : s ≤ t) : under xs s ≤ under xs t := by
  unfold under
  exact List.countP_mono_left (fun y _ hy => by simp at hy ⊢; omega)
theorem under_rise {xs : List Node} {y : Node} {t : Int} (hy : y ∈ xs) (h : y.size < t) : under xs y.size < under xs t := by
  unfold under
  induction xs with
  | nil => cases hy
  | cons z zs ih =>
    rcases List.mem_cons.1 hy with rfl | hy
    · have := under_le (xs := zs) (Int.le_of_lt h)
      unfold under at this
      simp [List.countP_cons, h]
      omega
    · have := ih hy
      simp only [List.countP_cons]
      by_cases h1 : z.size < y.size
      · have h2 : z.size < t := by omega
        simp [h1, h2]; omega
      · simp [h1]; split <;> omega
theorem size_pos {xs : List Node} (hg : ∀ x ∈ xs, goodN xs x) {x : Node} (hx : x ∈ xs) : 4 ≤ x.size := by
  rcases (rightN_iff.1 (hg x hx).2).2 with ⟨_, h⟩ | ⟨_, m, hm, h1, h2, h3, h4⟩ <;> omega
theorem sized_eq {xs : List Node} (hR : Rising xs) (hg : ∀ x ∈ xs, goodN xs x) : ∀ (n : Nat) (x : Node), x ∈ xs → under xs x.size ≤ n → sizedF xs (n + 1) x.id = x.size := by
  intro n
  induction n with
  | zero =>
    intro x hx hn
    have h := (rightN_iff.1 (hg x hx).2).2
    rw [sizedF, find_of_mem hR hx]
    rcases h with ⟨h0, h1⟩ | ⟨h0, m, hm, h1, h2, h3, h4⟩
    · simp only [h0, if_true]; omega
    · have := under_rise (find_mem hm) (show m.size < x.size by omega)
      omega
  | succ n ih =>
    intro x hx hn
    have h := (rightN_iff.1 (hg x hx).2).2
    rw [sizedF, find_of_mem hR hx]
    rcases h with ⟨h0, h1⟩ | ⟨h0, m, hm, h1, h2, h3, h4⟩
    · simp only [h0, if_true]; omega
    · have hmm := find_mem hm
      have := under_rise hmm (show m.size < x.size by omega)
      have e := ih m hmm (by omega)
      rw [find_id hm] at e
      have := size_pos hg hmm
      simp only [h0, if_false]
      rw [e, if_neg (by omega)]
      omega
theorem poolE_iff (xs : List Node) : poolE xs = 0 ↔ poolR xs := by
  constructor
  · intro h
    obtain ⟨h1, h2⟩ := poolE_inv h
    refine ⟨h1, fun x hx => ?_, fun x hx => ?_⟩
    · obtain ⟨hc, hr⟩ := h2 x hx
      exact ⟨by omega, by omega, (rightN_iff.1 hr).1⟩
    · have hl := h1.len
      have hu := under_lt hx
      have e := sized_eq h1.rising h2 23 x hx (by omega)
      have hp := size_pos h2 hx
      have : x.size ≤ 256 := by
        have hr := rightN_iff.1 (h2 x hx).2
        have := checkL_len hr.1
        rcases hr.2 with ⟨_, h⟩ | ⟨_, m, hm, g1, g2, g3, g4⟩ <;> omega
      rw [e]
      exact ⟨by omega, this, rfl⟩
  · rintro ⟨h1, h2, h3⟩
    unfold poolE
    rw [if_pos]
    refine ⟨h1, fun x hx => ?_⟩
    obtain ⟨c1, c2, c3⟩ := h2 x hx
    obtain ⟨s1, s2, s3⟩ := h3 x hx
    refine ⟨by omega, rightN_iff.2 ⟨c3, ?_⟩⟩
    have hf := find_of_mem h1.rising hx
    rw [sizedF, hf] at s1 s2 s3
    simp only at s1 s2 s3
    by_cases hp : x.parent = 0
    · simp only [hp, if_true] at s3
      exact .inl ⟨hp, s3⟩
    · simp only [hp, if_false] at s1 s2 s3
      by_cases h0 : sizedF xs 23 x.parent = 0
      · rw [if_pos h0] at s1; exact absurd rfl s1
      · rw [if_neg h0] at s1 s2 s3
        cases hm : findN xs x.parent with
        | none => rw [sizedF, hm] at h0; exact absurd rfl h0
        | some m =>
          obtain ⟨t1, t2, t3⟩ := h3 m (find_mem hm)
          rw [find_id hm, sizedF_succ 23 _ h0] at t1 t2 t3
          have hpos : 0 ≤ sizedF xs 23 x.parent := by
            have : ∀ (m : Nat) (t : Int), 0 ≤ sizedF xs m t := by
              intro m
              induction m with
              | zero => intro t; simp [sizedF]
              | succ m ih =>
                intro t
                unfold sizedF
                cases findN xs t with
                | none => simp
                | some x =>
                  have := ih x.parent
                  simp only
                  split
                  · omega
                  · split <;> omega
            exact this _ _
          exact .inr ⟨hp, m, rfl, by omega, by omega, by omega, by omega⟩

/-! ### a filter put in its place -/
/-- The pool with a filter; of the count 0: without it. -/
def putF (n : Node) : Bool → List Node → List Node
  | done, [] => if done then [] else [n]
  | done, x :: xs =>
    if done = false ∧ n.id ≤ x.id then n :: (if x.id ≠ n.id then x :: putF n true xs else putF n true xs)
    else if x.id ≠ n.id then x :: putF n done xs else putF n done xs
def putN (xs : List Node) (n : Node) : List Node := putF n (n.count == 0) xs
theorem rising_cons {x : Node} {xs : List Node} : Rising (x :: xs) ↔ (∀ y ∈ xs, x.id < y.id) ∧ Rising xs := by
  constructor
  · intro h
    refine ⟨fun y hy => ?_, fun i j hi hj hij => ?_⟩
    · obtain ⟨j, hj, rfl⟩ := List.getElem_of_mem hy
      exact h 0 (j + 1) (by simp) (by simp; omega) (by omega)
    · exact h (i + 1) (j + 1) (by simp; omega) (by simp; omega) (by omega)
  · rintro ⟨h1, h2⟩ i j hi hj hij
    obtain ⟨j, rfl⟩ : ∃ k, j = k + 1 := ⟨j - 1, by omega⟩
    cases i with
    | zero => exact h1 _ (List.getElem_mem _)
    | succ i => exact h2 i j (by simp at hi; omega) (by simp at hj; omega) (by omega)
theorem putF_free {n : Node} {xs : List Node} (h : ∀ y ∈ xs, y.id ≠ n.id) : putF n true xs = xs := by
  induction xs with
  | nil => rfl
  | cons x xs ih =>
    have h0 := h x (by simp)
    rw [putF]
    simp [h0, ih (fun y hy => h y (by simp [hy]))]
theorem putF_set {n : Node} {xs : List Node} {i : Nat} (hR : Rising xs) (hi : i < xs.length) (h : xs[i].id = n.id) : putF n false xs = xs.set i n := by
  induction xs generalizing i with
  | nil => simp at hi
  | cons x xs ih =>
    obtain ⟨h1, h2⟩ := rising_cons.1 hR
    cases i with
    | zero =>
      have h0 : x.id = n.id := h
      rw [putF, if_pos ⟨rfl, by omega⟩]
      simp only [h0, ne_eq, not_true_eq_false, if_false, List.set_cons_zero]
      rw [putF_free (fun y hy => by have := h1 y hy; omega)]
    | succ i =>
      have hi' : i < xs.length := by simpa using hi
      have h' : xs[i].id = n.id := by simpa using h
      have hlt := h1 _ (List.getElem_mem hi')
      rw [putF, if_neg (by omega), if_pos (by omega), ih h2 hi' h', List.set_cons_succ]
theorem putF_gone {n : Node} {xs : List Node} {i : Nat} (hR : Rising xs) (hi : i < xs.length) (h : xs[i].id = n.id) : putF n true xs = xs.eraseIdx i := by
  induction xs generalizing i with
  | nil => simp at hi
  | cons x xs ih =>
    obtain ⟨h1, h2⟩ := rising_cons.1 hR
    cases i with
    | zero =>
      have h0 : x.id = n.id := h
      rw [putF, if_neg (by simp)]
      simp only [h0, ne_eq, not_true_eq_false, if_false, List.eraseIdx_cons_zero]
      rw [putF_free (fun y hy => by have := h1 y hy; omega)]
    | succ i =>
      have hi' : i < xs.length := by simpa using hi
      have h' : xs[i].id = n.id := by simpa using h
      have hlt := h1 _ (List.getElem_mem hi')
      rw [putF, if_neg (by simp), if_pos (by omega), ih h2 hi' h', List.eraseIdx_cons_succ]

/-! ### one fewer -/
def down (n : Node) : Node := { n with count := n.count - 1 }
/-- One fewer refers to a filter, and so on up: the pool, those that are gone. -/
def giveO : Nat → List Node → Option Node → List Node × List Int
  | 0, xs, _ => (xs, [])
  | _ + 1, xs, none => (xs, [])
  | m + 1, xs, some n =>
    if 0 < n.count - 1 then (putN xs (down n), [])
    else ((giveO m (putN xs (down n)) (findN (putN xs (down n)) n.parent)).1, n.id :: (giveO m (putN xs (down n)) (findN (putN xs (down n)) n.parent)).2)
/-- What is small enough has its parent there, a smaller one. -/
def Sound (xs : List Node) (S : Int) : Prop := ∀ x ∈ xs, x.size ≤ S → x.parent ≠ 0 → ∃ y ∈ xs, y.id = x.parent ∧ y.size < x.size
theorem sound_of {xs : List Node} (hg : ∀ x ∈ xs, goodN xs x) (S : Int) : Sound xs S := fun x hx _ hp => by
  have h := rightN_iff.1 (hg x hx).2
  rcases h.2 with ⟨h0, _⟩ | ⟨_, m, hm, h1, h2, h3, h4⟩
  · exact absurd h0 hp
  · exact ⟨m, find_mem hm, find_id hm, by omega⟩
theorem Rising.erase {xs : List Node} (h : Rising xs) (i : Nat) : Rising (xs.eraseIdx i) := by
  induction xs generalizing i with
  | nil => simpa using h
  | cons x xs ih =>
    obtain ⟨h1, h2⟩ := rising_cons.1 h
    cases i with
    | zero => simpa using h2
    | succ i =>
      rw [List.eraseIdx_cons_succ, rising_cons]
      exact ⟨fun y hy => h1 y (List.mem_of_mem_eraseIdx hy), ih h2 i⟩
theorem mem_erase {xs : List Node} (hR : Rising xs) {i : Nat} (hi : i < xs.length) {y : Node} (hy : y ∈ xs) (hne : y.id ≠ xs[i].id) : y ∈ xs.eraseIdx i := by
  rw [List.mem_eraseIdx_iff_getElem]
  obtain ⟨j, hj, rfl⟩ := List.getElem_of_mem hy
  exact ⟨j, hj, fun e => hne (by subst e; rfl), rfl⟩
/-- Behind a filter that is gone. -/
theorem Sound.erase {xs : List Node} {S : Int} (hR : Rising xs) (h : Sound xs S) {i : Nat} (hi : i < xs.length) (hS : xs[i].size ≤ S) : Sound (xs.eraseIdx i) (xs[i].size - 1) := fun x hx hxs hp => by
  have hx' := List.mem_of_mem_eraseIdx hx
  obtain ⟨y, hy, e, hlt⟩ := h x hx' (by omega) hp
  refine ⟨y, mem_erase hR hi hy (fun e' => ?_), e, hlt⟩
  have := rising_inj hR hy (List.getElem_mem hi) e'
  subst this
  omega
/-- The parent of what is gone. -/
theorem Sound.up {xs : List Node} {S : Int} (hR : Rising xs) (h : Sound xs S) {i : Nat} (hi : i < xs.length) (hS : xs[i].size ≤ S) (hp : xs[i].parent ≠ 0) : ∃ y, findN (xs.eraseIdx i) xs[i].parent = some y ∧ y.size ≤ xs[i].size - 1 := by
  obtain ⟨y, hy, e, hlt⟩ := h _ (List.getElem_mem hi) hS hp
  refine ⟨y, ?_, by omega⟩
  have hm := mem_erase hR hi hy (fun e' => by
    have := rising_inj hR hy (List.getElem_mem hi) e'
    subst this
    omega)
  rw [← e]
  exact find_of_mem (hR.erase i) hm
theorem giveO_more {m k : Nat} {xs : List Node} {o : Option Node} (hR : Rising xs) (ho : ∀ n, o = some n → n.id ∈ xs.map (·.id) ∧ 1 ≤ n.count) (hc : ∀ x ∈ xs, 1 ≤ x.count) (hm : xs.length ≤ m) : giveO (m + 1 + k) xs o = giveO (m + 1) xs o := by
  induction m generalizing xs o with
  | zero =>
    have hx : xs = [] := List.eq_nil_of_length_eq_zero (by omega)
    subst hx
    cases o with
    | none => rw [Nat.add_right_comm]; rfl
    | some n => have := (ho n rfl).1; simp at this
  | succ m ih =>
    cases o with
    | none => rw [Nat.add_right_comm]; rfl
    | some n =>
      obtain ⟨hn, hc1⟩ := ho n rfl
      rw [Nat.add_right_comm, giveO, giveO]
      by_cases h0 : 0 < n.count - 1
      · rw [if_pos h0, if_pos h0]
      · rw [if_neg h0, if_neg h0]
        obtain ⟨x, hx, hxe⟩ := List.mem_map.1 hn
        obtain ⟨i, hi, rfl⟩ := List.getElem_of_mem hx
        have hd : (down n).count = 0 := by simp [down]; omega
        have hput : putN xs (down n) = xs.eraseIdx i := by
          unfold putN
          rw [hd]
          exact putF_gone hR hi hxe
        rw [hput]
        have hl : (xs.eraseIdx i).length ≤ m := by rw [List.length_eraseIdx]; split <;> omega
        rw [show m + 1 + k = m + 1 + k from rfl, ih (hR.erase i) (fun y hy => ⟨List.mem_map_of_mem (find_mem hy), hc y (List.mem_of_mem_eraseIdx (find_mem hy))⟩) (fun y hy => hc y (List.mem_of_mem_eraseIdx hy)) hl]
theorem put_set {xs : List Node} (hR : Rising xs) {i : Nat} (hi : i < xs.length) (h : 0 < xs[i].count - 1) : putN xs (down xs[i]) = xs.set i (down xs[i]) := by
  unfold putN
  have : (down xs[i]).count ≠ 0 := by simp [down]; omega
  rw [beq_false_of_ne this]
  exact putF_set hR hi rfl
theorem put_gone {xs : List Node} (hR : Rising xs) {i : Nat} (hi : i < xs.length) (h : xs[i].count = 1) : putN xs (down xs[i]) = xs.eraseIdx i := by
  unfold putN
  have : (down xs[i]).count = 0 := by simp [down]; omega
  rw [this]
  exact putF_gone hR hi rfl
/-- All of it: one fewer refers to the filter of an id. -/
def giveG (xs : List Node) (t : Int) : List Node × List Int := giveO (xs.length + 1) xs (findN xs t)
theorem giveG_none {xs : List Node} {t : Int} (h : findN xs t = none) : giveG xs t = (xs, []) := by
  unfold giveG
  rw [h]
  rfl
theorem giveG_keep {xs : List Node} {t : Int} (hR : Rising xs) {i : Nat} (hi : i < xs.length) (hf : findN xs t = some xs[i]) (h : 0 < xs[i].count - 1) : giveG xs t = (xs.set i (down xs[i]), []) := by
  unfold giveG
  rw [hf, giveO, if_pos h, put_set hR hi h]
theorem giveG_gone {xs : List Node} {t : Int} (hR : Rising xs) {i : Nat} (hi : i < xs.length) (hf : findN xs t = some xs[i]) (h : xs[i].count = 1) : giveG xs t = ((giveG (xs.eraseIdx i) xs[i].parent).1, t :: (giveG (xs.eraseIdx i) xs[i].parent).2) := by
  have he : (xs.eraseIdx i).length + 1 = xs.length := by rw [List.length_eraseIdx, if_pos hi]; omega
  unfold giveG
  rw [hf, giveO, if_neg (by omega), put_gone hR hi h, he, find_id hf]
theorem giveG_all {xs : List Node} (hR : Rising xs) (hc : ∀ x ∈ xs, 1 ≤ x.count) (hl : xs.length ≤ 24) (t : Int) : giveO 25 xs (findN xs t) = giveG xs t := by
  unfold giveG
  obtain ⟨k, hk⟩ : ∃ k, 25 = xs.length + 1 + k := ⟨24 - xs.length, by omega⟩
  rw [hk]
  exact giveO_more hR (fun y hy => ⟨List.mem_map_of_mem (find_mem hy), hc y (find_mem hy)⟩) hc (Nat.le_refl _)
end Go.Proofs.YtbojjjiggppnaaaGreat
