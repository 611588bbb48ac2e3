/- The walks of the laws' wakes and over. -/
import Derived.Test.YtiepnnjodmkolaaE4
import Derived.Test.YtiepnnjodmkolaaC5
namespace Go.Proofs.Ytiepnnjodmkolaa
open Go.RowKit Go.Shelf
set_option linter.unusedVariables false
set_option linter.unusedSimpArgs false

instance rngDec (k : IntKind) (n : Int) : Decidable (Kd.rng k n) := by unfold Kd.rng; cases k <;> infer_instance
def wRule : Rule := ⟨[], 3, 5, [], 9⟩
def wPol : Policy := ⟨[wRule], 7⟩
def wDat (n : Int) : Data := ⟨n, 0, 0, 0, 0, 0, 0, 0, 0⟩
def wProg : List Insn := [⟨32, 0, 0, 0⟩, ⟨53, 0, 2, 3⟩, ⟨37, 1, 0, 5⟩, ⟨6, 0, 0, 9⟩, ⟨6, 0, 0, 7⟩]
theorem wPol_comp : compL wPol = wProg ∧ compE wPol = 0 := by
  constructor <;> rfl
theorem wProg_check : checkL wProg = (0, 0) := by rfl
theorem wDat_word (n : Int) : wordB (encB (wDat n)) 0 = leN (leB n 4) := by
  rfl
theorem wOk : ∀ x ∈ wProg, okI x := by
  intro x hx
  simp only [wProg, List.mem_cons, List.not_mem_nil, or_false] at hx
  rcases hx with rfl | rfl | rfl | rfl | rfl
  · exact ⟨⟨by decide, by decide, by decide, by decide⟩, .inl ⟨rfl, 0, by decide, rfl⟩⟩
  all_goals exact ⟨⟨by decide, by decide, by decide, by decide⟩, by simp⟩
theorem wAt (i : Nat) (h : i < 5) : okI wProg[i]! := wOk _ (by rw [getElem!_pos wProg i h]; exact List.getElem_mem _)
theorem wRuns4 : Runs wProg (encB (wDat 4)) 5 0 0 ∧ runP wProg (wDat 4) = 9 := by
  have h : wordB (encB (wDat 4)) 0 = 4 := by rw [wDat_word]; rfl
  have h0 := wAt 0 (by decide)
  have h1 := wAt 1 (by decide)
  have h2 := wAt 2 (by decide)
  have h3 := wAt 3 (by decide)
  unfold runP
  generalize encB (wDat 4) = xs at *
  constructor
  · simp [Runs, nextM, wProg, h] at *
    exact ⟨h0, h1, h2, h3⟩
  · simp [trace, nextM, wProg, h, lastW]
theorem wRuns6 : Runs wProg (encB (wDat 6)) 5 0 0 ∧ runP wProg (wDat 6) = 7 := by
  have h : wordB (encB (wDat 6)) 0 = 6 := by rw [wDat_word]; rfl
  have h0 := wAt 0 (by decide)
  have h1 := wAt 1 (by decide)
  have h2 := wAt 2 (by decide)
  have h4 := wAt 4 (by decide)
  unfold runP
  generalize encB (wDat 6) = xs at *
  constructor
  · simp [Runs, nextM, wProg, h] at *
    exact ⟨h0, h1, h2, h4⟩
  · simp [trace, nextM, wProg, h, lastW]
theorem wDat_wf (n : Int) (h : 0 ≤ n ∧ n < 4294967296) : (wDat n).wf := ⟨h, (by decide : Kd.rng .u32 0), (by decide : Kd.rng .u64 0), (by decide : Kd.rng .u64 0), (by decide : Kd.rng .u64 0), (by decide : Kd.rng .u64 0), (by decide : Kd.rng .u64 0), (by decide : Kd.rng .u64 0), (by decide : Kd.rng .u64 0)⟩
set_option maxRecDepth 100000 in
set_option maxHeartbeats 4000000 in
theorem c_wakes (w : World) : Calls Try.prog 10 #[] w fun e w' => e = .returned (.bool true) ∧ Below w.heap.size w w' := by
  go_enter Try.func10, Try.ntmps10
  go_wp2_with fail
  have hO := Kd.Own.lit (d := kRule) (w := w) (e := 51) (base := 0) (ok := fun _ => True) (n := 1) (xs := [wRule]) (cells := [.slice none 0 0, .int .u32 3, .int .u32 5, .slice none 0 0, .int .u32 9]) rfl (Kd.Reps.single (kRule.mk (x := wRule) (A0 := none) (c0 := 0) (A3 := none) (c3 := 0) ⟨by decide, by decide, Kd.Row.nil _ _ _ _⟩ (by decide) (by decide) ⟨by decide, by decide, Kd.Row.nil _ _ _ _⟩ (by decide))) (Nat.zero_le _) (by decide) trivial
  obtain ⟨A, c, e1, l1, m1, r1⟩ := hO.K
  simp only [List.cons.injEq, Value.slice.injEq, and_true] at e1
  obtain ⟨rfl, -, rfl⟩ := e1
  have hK := kPolicy.mk (x := wPol) ⟨l1, m1, r1.bel (below_al (Below.refl _ _) (.cells #[.slice (some ⟨w.heap.size, 0, none⟩) 1 1, .int .u32 7] 25))⟩ (by decide)
  refine (c_compile wPol _ _ _ hK).mono ?_
  rintro e w1 ⟨v, rfl, hv, hB1⟩
  rw [wPol_comp.1] at hv
  rw [wPol_comp.2]
  obtain ⟨A2, c2, e2, -, -, r2⟩ := hv
  simp only [List.cons.injEq, and_true] at e2
  subst e2
  have h4 := fun w ok h => c_run wProg (wDat 4) (wDat_wf 4 (by decide)) A2 c2 ok w h (by rw [wProg_check]) wRuns4.1 (by decide)
  have h6 := fun w ok h => c_run wProg (wDat 6) (wDat_wf 6 (by decide)) A2 c2 ok w h (by rw [wProg_check]) wRuns6.1 (by decide)
  rw [wRuns4.2] at h4
  rw [wRuns6.2] at h6
  have H4 := Lib.hid h4
  have H6 := Lib.hid h6
  have HB1 := Lib.hid hB1
  have R2 := Lib.hid r2
  clear h4 h6 hO hK hB1 l1 m1 r1 r2
  have hlen : wProg.length = 5 := rfl
  have ha4 : (wDat 4).agg = .agg #[.int .u32 4, .int .u32 0, .int .u64 0, .int .u64 0, .int .u64 0, .int .u64 0, .int .u64 0, .int .u64 0, .int .u64 0] := rfl
  have ha6 : (wDat 6).agg = .agg #[.int .u32 6, .int .u32 0, .int .u64 0, .int .u64 0, .int .u64 0, .int .u64 0, .int .u64 0, .int .u64 0, .int .u64 0] := rfl
  go_wp2_with fail
  refine (H4.out _ _ R2.out).mono ?_
  rintro e w2 ⟨rfl, hB2⟩
  go_wp2_with fail
  refine (H6.out _ _ (R2.out.bel hB2)).mono ?_
  rintro e w3 ⟨rfl, hB3⟩
  go_wp2_with fail
  go_ret
  exact ⟨rfl, below_tr (below_tr (below_tr (below_al (below_al (Below.refl _ _) _) _) HB1.out) hB2) hB3⟩

def ruleOver (r : Rule) : Bool := decide (50 < r.archs.length ∨ 50 < r.tests.length)
def overP (p : Policy) : Bool := decide (50 < p.rules.length) || p.rules.any ruleOver
theorem any_false_step {l : List Rule} {k : Nat} (hk : k < l.length) (h : ruleOver l[k] = false) (h0 : (l.take k).any ruleOver = false) : (l.take (k + 1)).any ruleOver = false := by
  rw [List.take_succ_eq_append_getElem hk, List.any_append, h0]
  simp [h]
theorem any_true_at {l : List Rule} {k : Nat} (hk : k < l.length) (h : ruleOver l[k] = true) : l.any ruleOver = true := List.any_eq_true.2 ⟨_, List.getElem_mem hk, h⟩
set_option maxRecDepth 100000 in
set_option maxHeartbeats 4000000 in
theorem c_over (x : Policy) (ok : Nat → Prop) (cs : List Value) (w : World) (hK : kPolicy.K w ok x cs) :
    Calls Try.prog 11 #[.agg cs.toArray] w fun e w' => e = .returned (.bool (overP x)) ∧ Below w.heap.size w w' := by
  obtain ⟨A0, c0, rfl, ⟨l0, m0, r0⟩, g1⟩ := kPolicy.opn hK
  obtain ⟨rules, els⟩ := x
  simp only at *
  clear m0 l0 hK
  by_cases hb : 50 < rules.length
  · have ho : overP ⟨rules, els⟩ = true := by simp [overP, hb]
    rw [ho]
    clear ho
    have hb' : (50 : Int) < (rules.length : Int) := by omega
    have hn := r0.1
    go_enter Try.func11, Try.ntmps11
    go_wp2_with fail
    go_ret
    exact ⟨rfl, below_al (Below.refl _ _) _⟩
  · have ho : overP ⟨rules, els⟩ = rules.any ruleOver := by simp [overP, hb]
    rw [ho]
    clear ho
    have hn : rules.length ≤ 50 := by omega
    clear hb
    go_enter Try.func11, Try.ntmps11
    go_wp2_with fail
    go_loopw [4, 12] (fun _ i wr => ∃ (k : Nat), k ≤ rules.length ∧ i = .int .i64 k ∧ Hid ((rules.take k).any ruleOver = false) ∧ Below w.heap.size w wr) (fun _ i _ => rules.length - (intOf i).toNat)
    case atStart => exact ⟨0, Nat.zero_le _, rfl, rfl, below_al (Below.refl _ _) _⟩
    case round =>
      obtain ⟨k, hk, rfl, hany, hB⟩ := hrel
      by_cases hlt : k < rules.length
      · obtain ⟨ad, B0, d0, B3, d3, rfl, hok, ⟨h0, h1, h2, h3, h4⟩, e0, e1, e2, e3, e4⟩ := kRule.at_ (r0.bel hB) hlt
        have HT : Hid (ruleOver rules[k] = true → rules.any ruleOver = true) := fun h => any_true_at hlt h
        have HF : Hid (ruleOver rules[k] = false → (rules.take (k + 1)).any ruleOver = false) := fun h => any_false_step hlt h hany.out
        have hu : ruleOver rules[k] = decide (50 < rules[k].archs.length ∨ 50 < rules[k].tests.length) := rfl
        have HU := Lib.hid hu
        have hna := h0.2.2.1
        have hnt := h3.2.2.1
        generalize rules[k] = r at *
        clear hu h0 h1 h2 h3 h4
        go_wp2_with fail
        all_goals first
          | (go_ret; exact ⟨ret_b (HT.out (by rw [HU.out]; exact decide_eq_true (by omega))).symm, below_al hB _⟩)
          | exact ⟨⟨k + 1, by omega, by go_num, HF.out (by rw [HU.out]; exact decide_eq_false (by omega)), below_al hB _⟩, by simp [intOf]; omega⟩
      · obtain rfl : k = rules.length := by omega
        have h := hany.out
        rw [List.take_length] at h
        have H := Lib.hid h
        clear h hany
        go_wp2_with fail
        go_ret
        exact ⟨ret_b H.out.symm, hB⟩
end Go.Proofs.Ytiepnnjodmkolaa
