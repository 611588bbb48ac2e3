/- The plain law of PolicyRight: a policy's program ends, with what the policy says. No program in sight. -/
import Derived.Test.YtiepnnjodmkolaaE4
import Derived.Test.YtiepnnjodmkolaaI1
import Derived.Test.YtiepnnjodmkolaaH3
namespace Go.Proofs.Ytiepnnjodmkolaa
open Go.RowKit Go.Shelf
set_option linter.unusedVariables false
set_option linter.unusedSimpArgs false

def u32R (a : Int) : Prop := 0 ≤ a ∧ a < 4294967296
theorem bits_rng (x y : Int) : u32R (bits .and .u32 x y) := by
  unfold bits
  simp only [IntKind.wrap_u32]
  exact ⟨Int.emod_nonneg _ (by decide), Int.emod_lt_of_pos _ (by decide)⟩
theorem leB_rng (x : Int) (n : Nat) : ∀ b ∈ leB x n, 0 ≤ b ∧ b < 256 := by
  induction n generalizing x with
  | zero => intro b hb; cases hb
  | succ n ih =>
    intro b hb
    rw [leB] at hb
    rcases List.mem_cons.1 hb with rfl | hb
    · exact ⟨Int.emod_nonneg _ (by decide), Int.emod_lt_of_pos _ (by decide)⟩
    · exact ih _ b hb
theorem encB_rng (d : Data) : ∀ b ∈ encB d, 0 ≤ b ∧ b < 256 := by
  intro b hb
  unfold encB encK at hb
  simp only [List.mem_append, List.mem_flatMap] at hb
  rcases hb with ((h | h) | h) | ⟨a, _, h⟩
  all_goals exact leB_rng _ _ b h
theorem wordB_rng (d : Data) (i : Nat) (hi : i < 16) : u32R (wordB (encB d) i) := by
  have h := leN_rng (part (encB d) (4 * i) 4) (fun b hb => encB_rng d b (List.mem_of_mem_drop (List.mem_of_mem_take hb)))
  rw [part_length _ _ _ (by rw [encB, encK_length d 6 (by decide)]; omega)] at h
  exact h
theorem leN_leB4 (x : Int) (h : u32R x) : leN (leB x 4) = x := by
  obtain ⟨h0, h1⟩ := h
  simp only [leB, leN]
  omega
theorem word_nr (d : Data) (hd : d.wf) : wordB (encB d) 0 = d.nr := by
  have : part (encB d) (4 * 0) 4 = leB d.nr 4 := by
    unfold part encB encK
    simp only [Nat.mul_zero, List.drop_zero, List.append_assoc]
    rw [List.take_append_of_le_length (by rw [leB_length]; exact Nat.le_refl _), List.take_of_length_le (by rw [leB_length]; exact Nat.le_refl _)]
  unfold wordB
  rw [this]
  exact leN_leB4 _ hd.1
theorem word_arch (d : Data) (hd : d.wf) : wordB (encB d) 1 = d.arch := by
  have : part (encB d) (4 * 1) 4 = leB d.arch 4 := by
    unfold part encB encK
    simp only [List.append_assoc]
    rw [List.drop_append_of_le_length (by rw [leB_length]; exact Nat.le_refl _), List.drop_of_length_le (by rw [leB_length]; exact Nat.le_refl _), List.nil_append, List.take_append_of_le_length (by rw [leB_length]; exact Nat.le_refl _), List.take_of_length_le (by rw [leB_length]; exact Nat.le_refl _)]
  unfold wordB
  rw [this]
  exact leN_leB4 _ hd.2.1

/-- From here the program ends, with this word. -/
inductive Ends (l : List Insn) (xs : List Int) : Nat → Int → Int → Prop
  | ret (pc : Nat) (a : Int) (x : Insn) : l[pc]? = some x → okI x → x.code = 6 → u32R a → Ends l xs pc a x.k
  | go (pc : Nat) (a : Int) (x : Insn) (pc' : Nat) (a' r W : Int) : l[pc]? = some x → okI x → u32R a → nextM x xs pc a = ((pc' : Int), a', r, false) → pc < pc' → Ends l xs pc' a' W → Ends l xs pc a W
theorem lastW_cons (p : Int × Int × Int) (t : List (Int × Int × Int)) (h : t ≠ []) : lastW (p :: t) = lastW t := by
  unfold lastW
  rw [List.getLast?_cons_of_ne_nil h]
theorem Ends.runs {l : List Insn} {xs : List Int} (hl : l.length ≤ 64) {pc : Nat} {a W : Int} (h : Ends l xs pc a W) : ∀ f, l.length ≤ f + pc → Runs l xs f pc a ∧ trace l xs f pc a ≠ [] ∧ lastW (trace l xs f pc a) = W := by
  induction h with
  | ret pc a x hx hok h6 ha =>
    intro f hf
    have hlt := (List.getElem?_eq_some_iff.1 hx).1
    have hxe : l[pc]! = x := by rw [getElem!_pos l pc hlt]; exact (List.getElem?_eq_some_iff.1 hx).2
    obtain ⟨f, rfl⟩ : ∃ g, f = g + 1 := ⟨f - 1, by omega⟩
    have hn : nextM x xs pc a = ((pc : Int), a, x.k, true) := by simp [nextM, h6]
    refine ⟨⟨⟨by omega, by omega⟩, ha, by rw [Int.toNat_natCast]; exact hlt, by rw [Int.toNat_natCast, hxe]; exact hok, .inl (by rw [Int.toNat_natCast, hxe, hn])⟩, ?_, ?_⟩
    · rw [trace]; exact List.cons_ne_nil _ _
    · rw [trace, Int.toNat_natCast, hxe, hn]
      simp [lastW]
  | go pc a x pc' a' r W hx hok ha hn hpc _ ih =>
    intro f hf
    have hlt := (List.getElem?_eq_some_iff.1 hx).1
    have hxe : l[pc]! = x := by rw [getElem!_pos l pc hlt]; exact (List.getElem?_eq_some_iff.1 hx).2
    obtain ⟨f, rfl⟩ : ∃ g, f = g + 1 := ⟨f - 1, by omega⟩
    obtain ⟨i1, i2, i3⟩ := ih f (by omega)
    refine ⟨⟨⟨by omega, by omega⟩, ha, by rw [Int.toNat_natCast]; exact hlt, by rw [Int.toNat_natCast, hxe]; exact hok, .inr ?_⟩, ?_, ?_⟩
    · rw [Int.toNat_natCast, hxe, hn]; exact i1
    · rw [trace]; exact List.cons_ne_nil _ _
    · rw [trace, Int.toNat_natCast, hxe, hn]
      simp only [Bool.false_eq_true, if_false]
      rw [lastW_cons _ _ i2]
      exact i3
section
variable {l : List Insn} {xs : List Int} {pc : Nat} {a W : Int} {t : List Insn}
theorem drop_at {x : Insn} (h : l.drop pc = x :: t) : l[pc]? = some x ∧ l.drop (pc + 1) = t := by
  have h1 : (l.drop pc)[0]? = some x := by rw [h]; rfl
  rw [List.getElem?_drop] at h1
  refine ⟨h1, ?_⟩
  rw [← List.drop_drop, h]
  rfl
theorem ends_ld {k : Int} (i : Nat) (hi : i < 16) (hk : k = 4 * i) (ha : u32R a) (h : l.drop pc = insn 32 k :: t) (hE : Ends l xs (pc + 1) (wordB xs i) W) : Ends l xs pc a W := by
  have hw : (insn 32 k).wf := insn_wf (by decide) (by omega)
  refine .go pc a _ (pc + 1) (wordB xs i) 0 W (drop_at h).1 ⟨hw, .inl ⟨rfl, i, hi, hk⟩⟩ ha ?_ (by omega) hE
  have : (k / 4).toNat = i := by omega
  simp [nextM, insn, this]
theorem ends_and {k : Int} (hk : u32R k) (ha : u32R a) (h : l.drop pc = insn 84 k :: t) (hE : Ends l xs (pc + 1) (bits .and .u32 a k) W) : Ends l xs pc a W := by
  refine .go pc a _ (pc + 1) (bits .and .u32 a k) 0 W (drop_at h).1 ⟨insn_wf (by decide) hk, .inr (.inl rfl)⟩ ha ?_ (by omega) hE
  simp [nextM, insn]
theorem ends_ja {k : Nat} (hk : k < 1000) (ha : u32R a) (h : l.drop pc = ⟨5, 0, 0, (k : Int)⟩ :: t) (hE : Ends l xs (pc + 1 + k) a W) : Ends l xs pc a W := by
  refine .go pc a _ (pc + 1 + k) a 0 W (drop_at h).1 ⟨⟨(by decide : (0 : Int) ≤ 5 ∧ (5 : Int) < 65536), (by decide : (0 : Int) ≤ 0 ∧ (0 : Int) < 256), (by decide : (0 : Int) ≤ 0 ∧ (0 : Int) < 256), (show (0 : Int) ≤ (k : Int) ∧ (k : Int) < 4294967296 by omega)⟩, .inr (.inr (.inr (.inr (.inr (.inl rfl)))))⟩ ha ?_ (by omega) hE
  simp [nextM]
theorem ends_ret {k : Int} (hk : u32R k) (ha : u32R a) (h : l.drop pc = insn 6 k :: t) : Ends l xs pc a k :=
  .ret pc a _ (drop_at h).1 ⟨insn_wf (by decide) hk, .inr (.inr (.inr (.inr (.inr (.inr rfl)))))⟩ rfl ha
/-- A test and its jump. -/
theorem ends_if {c k : Int} {jt jf : Nat} (hc : c = 21 ∨ c = 37 ∨ c = 53) (hk : u32R k) (hjt : jt < 256) (hjf : jf < 256) (ha : u32R a) (h : l.drop pc = ⟨c, (jt : Int), (jf : Int), k⟩ :: t)
    (hE : ∀ b : Bool, b = (if c = 21 then decide (a = k) else if c = 37 then decide (k < a) else decide (k ≤ a)) → Ends l xs (pc + 1 + if b = true then jt else jf) a W) : Ends l xs pc a W := by
  have hE' := hE _ rfl
  have hw : Insn.wf ⟨c, (jt : Int), (jf : Int), k⟩ := by
    refine ⟨?_, (show (0 : Int) ≤ (jt : Int) ∧ (jt : Int) < 256 by omega), (show (0 : Int) ≤ (jf : Int) ∧ (jf : Int) < 256 by omega), hk⟩
    show (0 : Int) ≤ c ∧ c < 65536
    rcases hc with rfl | rfl | rfl <;> decide
  refine .go pc a _ _ a 0 W (drop_at h).1 ⟨hw, ?_⟩ ha ?_ (by omega) hE'
  · rcases hc with rfl | rfl | rfl
    · exact .inr (.inr (.inl rfl))
    · exact .inr (.inr (.inr (.inl rfl)))
    · exact .inr (.inr (.inr (.inr (.inl rfl))))
  · rcases hc with rfl | rfl | rfl
    · by_cases hb : a = k <;> simp [nextM, hb]
    · by_cases hb : k < a <;> simp [nextM, hb]
    · by_cases hb : k ≤ a <;> simp [nextM, hb]
end
/-- The tests of a rule, and where each leads. -/
def testsT : List Test → List Insn
  | [] => []
  | t :: ts => [insn 32 (offs t), insn 84 t.mask, ⟨21, 0, ((3 * ts.length + 1 : Nat) : Int), t.value⟩] ++ testsT ts
theorem testsT_from (n : Nat) (l : List Test) : ∀ j, n = j + l.length → (l.zipIdx j).flatMap (fun p => testR n p.2 p.1) = testsT l := by
  induction l with
  | nil => intro j _; rfl
  | cons t ts ih =>
    intro j hj
    rw [List.zipIdx_cons, List.flatMap_cons, ih (j + 1) (by rw [hj, List.length_cons]; omega), testsT]
    congr 1
    unfold testR
    simp only
    rw [show (3 * ((n : Int) - (j : Int)) - 2) = ((3 * ts.length + 1 : Nat) : Int) by rw [hj, List.length_cons]; push_cast; omega]
theorem testsT_eq (l : List Test) : testsR l = testsT l := testsT_from l.length l 0 (by omega)
theorem testsT_length (l : List Test) : (testsT l).length = 3 * l.length := by
  induction l with
  | nil => rfl
  | cons t ts ih => simp only [testsT, List.length_append, List.length_cons, List.length_nil, ih]; omega
theorem drop_more {l t : List Insn} {pc : Nat} (h : l.drop pc = t) (n : Nat) : l.drop (pc + n) = t.drop n := by rw [← List.drop_drop, h]
theorem run_tests (d : Data) (hd : d.wf) (l : List Insn) (ts : List Test) : ∀ (pc : Nat) (a word : Int) (rest : List Insn), ts.length ≤ 80 → ts.any testBad = false → (∀ t ∈ ts, t.wf) → u32R word → u32R a → l.drop pc = testsT ts ++ (insn 6 word :: rest) →
    (ts.any (failsT d) = false → Ends l (encB d) pc a word) ∧ (∀ W, ts.any (failsT d) = true → (∀ a', u32R a' → Ends l (encB d) (pc + 3 * ts.length + 1) a' W) → Ends l (encB d) pc a W) := by
  induction ts with
  | nil =>
    intro pc a word rest _ _ _ hw ha h
    exact ⟨fun _ => ends_ret hw ha h, fun W h' => by simp at h'⟩
  | cons t ts ih =>
    intro pc a word rest hln hb hwf hw ha h
    rw [List.any_cons, Bool.or_eq_false_iff] at hb
    have htw := hwf t (by simp)
    have hbt : 0 ≤ t.arg ∧ t.arg < 6 := by
      have := hb.1
      unfold testBad at this
      rw [Bool.or_eq_false_iff, decide_eq_false_iff_not, decide_eq_false_iff_not] at this
      omega
    obtain ⟨i, hi, ho⟩ : ∃ i : Nat, i < 16 ∧ offs t = 4 * i ∧ (4 + 2 * t.arg.toNat + if t.high then 1 else 0) = i := by
      refine ⟨4 + 2 * t.arg.toNat + if t.high then 1 else 0, by split <;> omega, ?_, rfl⟩
      unfold offs
      split <;> omega
    have hf : failsT d t = (bits .and .u32 (wordB (encB d) i) t.mask != t.value) := by
      unfold failsT
      rw [hb.1, Bool.false_or, ho.2]
    have hwr := wordB_rng d i hi
    have hbr := bits_rng (wordB (encB d) i) t.mask
    have h' : l.drop pc = insn 32 (offs t) :: insn 84 t.mask :: ⟨21, ((0 : Nat) : Int), ((3 * ts.length + 1 : Nat) : Int), t.value⟩ :: (testsT ts ++ (insn 6 word :: rest)) := h
    have h1 := (drop_at h').2
    have h2 := (drop_at h1).2
    have h3 := (drop_at h2).2
    have hlen : 3 * ts.length + 1 < 256 := by rw [List.length_cons] at hln; omega
    · have key : ∀ W, (failsT d t = false → Ends l (encB d) (pc + 3) (bits .and .u32 (wordB (encB d) i) t.mask) W) → (failsT d t = true → Ends l (encB d) (pc + 3 + (3 * ts.length + 1)) (bits .and .u32 (wordB (encB d) i) t.mask) W) → Ends l (encB d) pc a W := by
        intro W k1 k2
        refine ends_ld i hi ho.1 ha h' (ends_and htw.2.1 hwr h1 (ends_if (.inl rfl) htw.2.2 (by decide) hlen hbr h2 ?_))
        intro b hbv
        rw [if_pos rfl] at hbv
        cases hv : b with
        | true =>
          rw [hv] at hbv
          have he := of_decide_eq_true hbv.symm
          rw [if_pos rfl]
          exact k1 (by rw [hf, he]; simp)
        | false =>
          rw [hv] at hbv
          have he := of_decide_eq_false hbv.symm
          rw [if_neg (by decide)]
          exact k2 (by rw [hf]; simpa using he)
      obtain ⟨i1, i2⟩ := ih (pc + 3) (bits .and .u32 (wordB (encB d) i) t.mask) word rest (by rw [List.length_cons] at hln; omega) hb.2 (fun x hx => hwf x (by simp [hx])) hw hbr h3
      refine ⟨fun hall => ?_, fun W hany hE => ?_⟩
      · rw [List.any_cons, Bool.or_eq_false_iff] at hall
        exact key word (fun _ => i1 hall.2) (fun hc => by rw [hall.1] at hc; cases hc)
      · refine key W (fun hc => ?_) (fun _ => ?_)
        · rw [List.any_cons, hc, Bool.false_or] at hany
          refine i2 W hany (fun a' ha' => ?_)
          have := hE a' ha'
          rwa [List.length_cons, show pc + 3 * (ts.length + 1) + 1 = pc + 3 + 3 * ts.length + 1 by omega] at this
        · have := hE _ hbr
          rwa [List.length_cons, show pc + 3 * (ts.length + 1) + 1 = pc + 3 + (3 * ts.length + 1) by omega] at this
/-- The numbers' part of a rule's block, and the tests. -/
theorem run_nr (d : Data) (hd : d.wf) (l : List Insn) (r : Rule) (hlo : u32R r.lo) (hhi : u32R r.hi) (hwo : u32R r.word) (hts : r.tests.length ≤ 3) (htb : r.tests.any testBad = false) (htw : ∀ t ∈ r.tests, t.wf) (pc : Nat) (a : Int) (rest : List Insn) (ha : u32R a)
    (h : l.drop pc = [insn 32 0, ⟨53, 0, 2 + 3 * r.tests.length, r.lo⟩, ⟨37, 1 + 3 * r.tests.length, 0, r.hi⟩] ++ (testsT r.tests ++ (insn 6 r.word :: rest))) :
    ((decide (r.lo ≤ d.nr) && decide (d.nr ≤ r.hi) && !(r.tests.any (failsT d))) = true → Ends l (encB d) pc a r.word) ∧
    (∀ W, (decide (r.lo ≤ d.nr) && decide (d.nr ≤ r.hi) && !(r.tests.any (failsT d))) = false → (∀ a', u32R a' → Ends l (encB d) (pc + (4 + 3 * r.tests.length)) a' W) → Ends l (encB d) pc a W) := by
  have hnr : u32R d.nr := hd.1
  have h' : l.drop pc = insn 32 0 :: ⟨53, ((0 : Nat) : Int), ((2 + 3 * r.tests.length : Nat) : Int), r.lo⟩ :: ⟨37, ((1 + 3 * r.tests.length : Nat) : Int), ((0 : Nat) : Int), r.hi⟩ :: (testsT r.tests ++ (insn 6 r.word :: rest)) := by
    rw [h]; push_cast; rfl
  have h1 := (drop_at h').2
  have h2 := (drop_at h1).2
  have h3 := (drop_at h2).2
  obtain ⟨i1, i2⟩ := run_tests d hd l r.tests (pc + 1 + 1 + 1) d.nr r.word rest (by omega) htb htw hwo hnr h3
  have key : ∀ W, (¬ r.lo ≤ d.nr → Ends l (encB d) (pc + 1 + 1 + (2 + 3 * r.tests.length)) d.nr W) → (r.lo ≤ d.nr → r.hi < d.nr → Ends l (encB d) (pc + 1 + 1 + 1 + (1 + 3 * r.tests.length)) d.nr W) → (r.lo ≤ d.nr → ¬ r.hi < d.nr → Ends l (encB d) (pc + 1 + 1 + 1) d.nr W) → Ends l (encB d) pc a W := by
    intro W k1 k2 k3
    refine ends_ld 0 (by decide) (by decide) ha h' ?_
    rw [word_nr d hd]
    refine ends_if (.inr (.inr rfl)) hlo (by decide) (by omega) hnr h1 (fun b hb => ?_)
    rw [if_neg (by decide), if_neg (by decide)] at hb
    cases hv : b with
    | false =>
      rw [hv] at hb
      rw [if_neg (by decide)]
      exact k1 (of_decide_eq_false hb.symm)
    | true =>
      rw [hv] at hb
      have hle := of_decide_eq_true hb.symm
      rw [if_pos rfl]
      refine ends_if (.inr (.inl rfl)) hhi (by omega) (by decide) hnr h2 (fun b2 hb2 => ?_)
      rw [if_neg (by decide), if_pos rfl] at hb2
      cases hv2 : b2 with
      | true =>
        rw [hv2] at hb2
        rw [if_pos rfl]
        exact k2 hle (of_decide_eq_true hb2.symm)
      | false =>
        rw [hv2] at hb2
        rw [if_neg (by decide)]
        exact k3 hle (of_decide_eq_false hb2.symm)
  refine ⟨fun hall => ?_, fun W hany hE => ?_⟩
  · rw [Bool.and_eq_true, Bool.and_eq_true, decide_eq_true_iff, decide_eq_true_iff] at hall
    obtain ⟨⟨q1, q2⟩, q3⟩ := hall
    refine key _ (fun h => absurd q1 h) (fun _ h => by omega) (fun _ _ => i1 ?_)
    simpa using q3
  · have hEnd := hE d.nr hnr
    refine key _ (fun _ => ?_) (fun _ _ => ?_) (fun q1 q2 => ?_)
    · rwa [show pc + (4 + 3 * r.tests.length) = pc + 1 + 1 + (2 + 3 * r.tests.length) by omega] at hEnd
    · rwa [show pc + (4 + 3 * r.tests.length) = pc + 1 + 1 + 1 + (1 + 3 * r.tests.length) by omega] at hEnd
    · refine i2 W ?_ (fun a' ha' => ?_)
      · have q3 : d.nr ≤ r.hi := by omega
        rw [decide_eq_true q1, decide_eq_true q3] at hany
        simpa using hany
      · have := hE a' ha'
        rwa [show pc + (4 + 3 * r.tests.length) = pc + 1 + 1 + 1 + 3 * r.tests.length + 1 by omega] at this
/-- A rule's block. -/
theorem run_block (d : Data) (hd : d.wf) (l : List Insn) (r : Rule) (hlo : u32R r.lo) (hhi : u32R r.hi) (hwo : u32R r.word) (har : ∀ x ∈ r.archs, u32R x) (has : r.archs.length ≤ 2) (hts : r.tests.length ≤ 3) (htb : r.tests.any testBad = false) (htw : ∀ t ∈ r.tests, t.wf) (pc : Nat) (a : Int) (rest : List Insn) (ha : u32R a)
    (h : l.drop pc = refR r ++ rest) :
    (holdsR d r = true → Ends l (encB d) pc a r.word) ∧ (∀ W, holdsR d r = false → (∀ a', u32R a' → Ends l (encB d) (pc + (refR r).length) a' W) → Ends l (encB d) pc a W) := by
  have hda : u32R d.arch := hd.2.1
  have hn := fun pc a ha h => run_nr d hd l r hlo hhi hwo hts htb htw pc a rest ha h
  have hlen : (refR r).length = (archR r).length + (4 + 3 * r.tests.length) := by
    simp only [refR, List.length_append, List.length_cons, List.length_nil, testsT_eq, testsT_length]
    omega
  have hh : l.drop pc = archR r ++ ([insn 32 0, ⟨53, 0, 2 + 3 * r.tests.length, r.lo⟩, ⟨37, 1 + 3 * r.tests.length, 0, r.hi⟩] ++ (testsT r.tests ++ (insn 6 r.word :: rest))) := by
    rw [h, refR, testsT_eq]
    simp only [List.append_assoc, List.cons_append, List.nil_append]
  rw [hlen]
  have hdef : holdsR d r = ((r.archs.length == 0 || r.archs.any (fun y => d.arch == y)) && (decide (r.lo ≤ d.nr) && decide (d.nr ≤ r.hi) && !(r.tests.any (failsT d)))) := by
    unfold holdsR
    simp only [Bool.and_assoc]
  rw [hdef]
  obtain ⟨archs, lo, hi, tests, word⟩ := r
  simp only at *
  generalize (decide (lo ≤ d.nr) && decide (d.nr ≤ hi) && !(tests.any (failsT d))) = nb at *
  match archs, has, har with
  | [], _, _ =>
    have he : archR ⟨[], lo, hi, tests, word⟩ = [] := rfl
    rw [he] at hh
    simp only [List.nil_append] at hh
    obtain ⟨i1, i2⟩ := hn pc a ha hh
    refine ⟨fun h => i1 (by simpa using h), fun W h hE => i2 W (by simpa using h) (by rw [he] at hE; simpa using hE)⟩
  | [a0], _, har =>
    have he : archR ⟨[a0], lo, hi, tests, word⟩ = [insn 32 4, ⟨21, ((1 : Nat) : Int), ((0 : Nat) : Int), a0⟩, ⟨5, 0, 0, ((4 + 3 * tests.length : Nat) : Int)⟩] := by
      simp [archR, archIns]
    rw [he] at hh ⊢
    have h1 := (drop_at hh).2
    have h2 := (drop_at h1).2
    have h3 := (drop_at h2).2
    have ha0 := har a0 (by simp)
    have key : ∀ W, (d.arch = a0 → Ends l (encB d) (pc + 1 + 1 + 1) d.arch W) → (d.arch ≠ a0 → Ends l (encB d) (pc + 1 + 1 + 1 + (4 + 3 * tests.length)) d.arch W) → Ends l (encB d) pc a W := by
      intro W k1 k2
      refine ends_ld 1 (by decide) (by decide) ha hh ?_
      rw [word_arch d hd]
      refine ends_if (.inl rfl) ha0 (by decide) (by decide) hda h1 (fun b hb => ?_)
      rw [if_pos rfl] at hb
      cases hv : b with
      | true =>
        rw [hv] at hb
        rw [if_pos rfl]
        exact k1 (of_decide_eq_true hb.symm)
      | false =>
        rw [hv] at hb
        rw [if_neg (by decide)]
        exact ends_ja (by omega) hda h2 (k2 (of_decide_eq_false hb.symm))
    obtain ⟨i1, i2⟩ := hn (pc + 1 + 1 + 1) d.arch hda h3
    refine ⟨fun h => ?_, fun W h hE => ?_⟩
    · simp at h
      exact key _ (fun _ => i1 h.2) (fun hne => absurd h.1 hne)
    · refine key W (fun he => i2 W ?_ (fun a' ha' => ?_)) (fun hne => ?_)
      · simp [he] at h
        exact h
      · have := hE a' ha'
        simpa [Nat.add_assoc, Nat.add_comm, Nat.add_left_comm] using this
      · have := hE d.arch hda
        simpa [Nat.add_assoc, Nat.add_comm, Nat.add_left_comm] using this
  | [a0, a1], _, har =>
    have he : archR ⟨[a0, a1], lo, hi, tests, word⟩ = [insn 32 4, ⟨21, ((2 : Nat) : Int), ((0 : Nat) : Int), a0⟩, ⟨21, ((1 : Nat) : Int), ((0 : Nat) : Int), a1⟩, ⟨5, 0, 0, ((4 + 3 * tests.length : Nat) : Int)⟩] := by
      simp [archR, archIns]
    rw [he] at hh ⊢
    have h1 := (drop_at hh).2
    have h2 := (drop_at h1).2
    have h3 := (drop_at h2).2
    have h4 := (drop_at h3).2
    have ha0 := har a0 (by simp)
    have ha1 := har a1 (by simp)
    have key : ∀ W, (d.arch = a0 ∨ d.arch = a1 → Ends l (encB d) (pc + 1 + 1 + 1 + 1) d.arch W) → (¬ (d.arch = a0 ∨ d.arch = a1) → Ends l (encB d) (pc + 1 + 1 + 1 + 1 + (4 + 3 * tests.length)) d.arch W) → Ends l (encB d) pc a W := by
      intro W k1 k2
      refine ends_ld 1 (by decide) (by decide) ha hh ?_
      rw [word_arch d hd]
      refine ends_if (.inl rfl) ha0 (by decide) (by decide) hda h1 (fun b hb => ?_)
      rw [if_pos rfl] at hb
      cases hv : b with
      | true =>
        rw [hv] at hb
        rw [if_pos rfl]
        exact k1 (.inl (of_decide_eq_true hb.symm))
      | false =>
        rw [hv] at hb
        have hne := of_decide_eq_false hb.symm
        rw [if_neg (by decide)]
        refine ends_if (.inl rfl) ha1 (by decide) (by decide) hda h2 (fun b2 hb2 => ?_)
        rw [if_pos rfl] at hb2
        cases hv2 : b2 with
        | true =>
          rw [hv2] at hb2
          rw [if_pos rfl]
          exact k1 (.inr (of_decide_eq_true hb2.symm))
        | false =>
          rw [hv2] at hb2
          have hne2 := of_decide_eq_false hb2.symm
          rw [if_neg (by decide)]
          exact ends_ja (by omega) hda h3 (k2 (by rintro (h | h); exact hne h; exact hne2 h))
    obtain ⟨i1, i2⟩ := hn (pc + 1 + 1 + 1 + 1) d.arch hda h4
    refine ⟨fun h => ?_, fun W h hE => ?_⟩
    · simp at h
      exact key _ (fun _ => i1 h.2) (fun hne => absurd h.1 hne)
    · refine key W (fun he => i2 W ?_ (fun a' ha' => ?_)) (fun hne => ?_)
      · simp at h
        exact h he
      · have := hE a' ha'
        simpa [Nat.add_assoc, Nat.add_comm, Nat.add_left_comm] using this
      · have := hE d.arch hda
        simpa [Nat.add_assoc, Nat.add_comm, Nat.add_left_comm] using this
/-- What a rule's fields may be. -/
def ruleWf (r : Rule) : Prop := u32R r.lo ∧ u32R r.hi ∧ u32R r.word ∧ (∀ x ∈ r.archs, u32R x) ∧ (∀ t ∈ r.tests, t.wf)
theorem run_rules (d : Data) (hd : d.wf) (l : List Insn) (els : Int) (hels : u32R els) (rules : List Rule) : ∀ (pc : Nat) (a : Int), rules.any ruleBad = false → (∀ r ∈ rules, ruleWf r) → u32R a → l.drop pc = rules.flatMap refR ++ [insn 6 els] → Ends l (encB d) pc a (saysW ⟨rules, els⟩ d) := by
  induction rules with
  | nil =>
    intro pc a _ _ ha h
    exact ends_ret hels ha h
  | cons r rules ih =>
    intro pc a hb hwf ha h
    rw [List.any_cons, Bool.or_eq_false_iff] at hb
    have hrb := hb.1
    simp only [ruleBad, Bool.or_eq_false_iff, decide_eq_false_iff_not] at hrb
    obtain ⟨⟨⟨hra, hrl⟩, hrt⟩, hrtb⟩ := hrb
    obtain ⟨w1, w2, w3, w4, w5⟩ := hwf r (by simp)
    rw [List.flatMap_cons, List.append_assoc] at h
    obtain ⟨i1, i2⟩ := run_block d hd l r w1 w2 w3 w4 (by omega) (by omega) hrtb w5 pc a _ ha h
    cases hh : holdsR d r with
    | true =>
      rw [(ahead_yes (l := rules) (e := els) hh).1]
      exact i1 hh
    | false =>
      rw [(ahead_no (l := rules) (e := els) hh).1]
      refine i2 _ hh (fun a' ha' => ih _ a' hb.2 (fun x hx => hwf x (by simp [hx])) ha' ?_)
      have := drop_more h (refR r).length
      rwa [List.drop_left] at this
theorem kRule_wf {w : World} {ok : Nat → Prop} {r : Rule} {cs : List Value} (h : kRule.K w ok r cs) : ruleWf r := by
  obtain ⟨A0, c0, A3, c3, -, ⟨-, -, r0⟩, g1, g2, ⟨-, -, r3⟩, g4⟩ := kRule.opn h
  refine ⟨g1, g2, g4, fun x hx => ?_, fun t ht => ?_⟩
  · obtain ⟨i, hi, rfl⟩ := List.mem_iff_getElem.1 hx
    obtain ⟨_, _, _, h, _⟩ := Kd.int_at r0 hi
    exact h
  · obtain ⟨i, hi, rfl⟩ := List.mem_iff_getElem.1 ht
    obtain ⟨_, _, _, h, _⟩ := kTest.at_ r3 hi
    exact h
theorem kPolicy_wf {w : World} {ok : Nat → Prop} {x : Policy} {cs : List Value} (h : kPolicy.K w ok x cs) : (∀ r ∈ x.rules, ruleWf r) ∧ u32R x.els := by
  obtain ⟨A0, c0, -, ⟨-, -, r0⟩, g1⟩ := kPolicy.opn h
  refine ⟨fun r hr => ?_, g1⟩
  obtain ⟨i, hi, rfl⟩ := List.mem_iff_getElem.1 hr
  obtain ⟨_, _, _, _, hK, _⟩ := r0.get hi
  exact kRule_wf hK
/-- The program ends, with what the policy says. -/
theorem run_policy (x : Policy) (d : Data) (hd : d.wf) (hc : checkP x = 0) (hwf : ∀ r ∈ x.rules, ruleWf r) (hels : u32R x.els) (hlen : (progP x).length ≤ 64) : Runs (progP x) (encB d) (progP x).length 0 0 ∧ runP (progP x) d = saysW x d := by
  obtain ⟨hb, -⟩ := checkP_ok hc
  obtain ⟨rules, els⟩ := x
  have hp : progP ⟨rules, els⟩ = rules.flatMap refR ++ [insn 6 els] := by rw [flat_ref hb]; rfl
  have hE : Ends (progP ⟨rules, els⟩) (encB d) 0 0 (saysW ⟨rules, els⟩ d) := run_rules d hd _ els hels rules 0 0 hb hwf ⟨by decide, by decide⟩ (by rw [List.drop_zero, hp])
  obtain ⟨h1, h2, h3⟩ := hE.runs hlen (progP ⟨rules, els⟩).length (by omega)
  exact ⟨h1, h3⟩
end Go.Proofs.Ytiepnnjodmkolaa
