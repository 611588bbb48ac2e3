/- The walks of the reference's Right, Half, far, Length. -/
import Derived.Test.YtiepnnjodmkolaaC5
namespace Go.Proofs.Ytiepnnjodmkolaa
open Go.RowKit Go.Shelf
set_option linter.unusedVariables false
set_option linter.unusedSimpArgs false

def rightB (p : Policy) : Bool := !(decide (6 < p.rules.length) || p.rules.any ruleBad)
theorem rightB_iff (p : Policy) : rightB p = true ↔ checkP p = 0 := by
  unfold rightB checkP
  by_cases h : 6 < p.rules.length ∨ p.rules.any ruleBad = true
  · rw [if_pos h]
    rcases h with h | h <;> simp [h]
  · rw [if_neg h]
    rw [not_or] at h
    simp [h.1, h.2]
theorem rightB_bad {p : Policy} {k : Nat} (hk : k < p.rules.length) (h : ruleBad p.rules[k] = true) : rightB p = false := by
  have : p.rules.any ruleBad = true := List.any_eq_true.2 ⟨_, List.getElem_mem hk, h⟩
  simp [rightB, this]
theorem any_step {α : Type} {p : α → Bool} {l : List α} {k : Nat} (hk : k < l.length) (h0 : (l.take k).any p = false) (h : p l[k] = false) : (l.take (k + 1)).any p = false := by
  rw [List.take_succ_eq_append_getElem hk, List.any_append, h0]
  simp [h]
theorem ruleBad_no {r : Rule} (h0 : ¬ 2 < r.archs.length) (h1 : ¬ r.hi < r.lo) (h2 : ¬ 3 < r.tests.length) (h3 : r.tests.any testBad = false) : ruleBad r = false := by
  unfold ruleBad
  rw [h3]
  simp
  omega
set_option maxRecDepth 100000 in
set_option maxHeartbeats 4000000 in
theorem c_right (x : Policy) (ok : Nat → Prop) (cs : List Value) (w : World) (hK : kPolicy.K w ok x cs) :
    Calls Try.prog 15 #[.agg cs.toArray] w fun e w' => e = .returned (.bool (rightB x)) ∧ Below w.heap.size w w' := by
  obtain ⟨A0, c0, rfl, ⟨l0, m0, r0⟩, g1⟩ := kPolicy.opn hK
  have hbad := fun (k : Nat) (hk : k < x.rules.length) (h : ruleBad x.rules[k] = true) => rightB_bad hk h
  obtain ⟨rules, els⟩ := x
  simp only at *
  have HBAD := Lib.hid hbad
  have hn := r0.1
  clear hbad hK m0 l0
  by_cases h6 : 6 < rules.length
  · have hr : rightB ⟨rules, els⟩ = false := by simp [rightB, h6]
    rw [hr]
    clear hr
    go_enter Try.func15, Try.ntmps15
    go_wp2
    go_ret
    exact ⟨rfl, below_al (Below.refl _ _) _⟩
  · obtain ⟨n, hsz⟩ : ∃ n, w.heap.size = n := ⟨_, rfl⟩
    obtain ⟨rb, hrb⟩ : ∃ rb, rightB ⟨rules, els⟩ = rb := ⟨_, rfl⟩
    have HRB : Hid (rules.any ruleBad = false → rb = true) := fun h => by rw [← hrb]; unfold rightB; rw [h]; simp [h6]
    have HBAD2 : Hid (∀ (k : Nat) (hk : k < rules.length), ruleBad rules[k] = true → rb = false) := fun k hk h => by rw [← hrb]; exact HBAD.out k hk h
    rw [hrb]
    clear hrb HBAD
    go_enter Try.func15, Try.ntmps15
    go_wp2_with fail
    obtain ⟨W1, hW1⟩ : ∃ W, W = (w.alloc (.cells #[.slice A0 rules.length c0, .int .u32 els] 25)) := ⟨_, rfl⟩
    have hB1 : Below w.heap.size w W1 := by rw [hW1]; exact below_al (Below.refl _ _) _
    have hR1 : W1.heap[n]? = some (.cells #[.slice A0 rules.length c0, .int .u32 els] 25) := by rw [hW1, ← hsz]; exact blk_new _ _
    rw [← hW1]
    clear hW1
    have HB1 := Lib.hid hB1
    have HR1 := Lib.hid hR1
    have HSZ := Lib.hid hsz
    clear hB1 hR1 hsz
    go_loopw [3, 4, 5] (fun i _ _ wr => ∃ (k : Nat), k ≤ rules.length ∧ i = .int .i64 k ∧ Hid ((rules.take k).any ruleBad = false) ∧ Hid (Below W1.heap.size W1 wr)) (fun i _ _ _ => rules.length - (intOf i).toNat)
    case atStart => exact ⟨0, Nat.zero_le _, rfl, rfl, Below.refl _ _⟩
    case round =>
      obtain ⟨k, hk, rfl, hany, hB⟩ := hrel
      have hbw := HB1.out.trans (hB.out.mono HB1.out.size)
      have p0 : wr.cell? ⟨n, 0, none⟩ = some (.slice A0 rules.length c0) := blk_cell (blk_bel hB.out HR1.out) 0
      by_cases hlt : k < rules.length
      · obtain ⟨ad, B0, d0, B3, d3, rfl, hok, ⟨h0, h1, h2, h3, h4⟩, e0, e1, e2, e3, e4⟩ := kRule.at_ (r0.bel hbw) hlt
        have HF := Lib.hid (HBAD2.out k hlt)
        have HG := Lib.hid (fun h => any_step (p := ruleBad) hlt hany.out h)
        have HBW := Lib.hid hbw
        generalize rules[k] = r at *
        obtain ⟨archs, lo, hi, tests, word⟩ := r
        simp only at *
        have hna := h0.2.2.1
        have hnt := h3.2.2.1
        have HT := Lib.hid h3.2.2
        clear h0 h3 hbw
        simp only [Kd.rng] at h1 h2 h4
        by_cases ha : 2 < archs.length
        · go_wp2_with fail
          go_ret
          exact ⟨ret_b (HF.out (by unfold ruleBad; simp [ha])).symm, by first | exact HBW.out.alloc HBW.out.size _ | (rw [HSZ.out] at HBW; exact HBW.out.alloc HBW.out.size _)⟩
        by_cases ht : 3 < tests.length
        · go_wp2_with fail
          go_ret
          exact ⟨ret_b (HF.out (by unfold ruleBad; simp [ht])).symm, by first | exact HBW.out.alloc HBW.out.size _ | (rw [HSZ.out] at HBW; exact HBW.out.alloc HBW.out.size _)⟩
        by_cases hl : hi < lo
        · go_wp2_with fail
          go_ret
          exact ⟨ret_b (HF.out (by unfold ruleBad; simp [hl])).symm, by first | exact HBW.out.alloc HBW.out.size _ | (rw [HSZ.out] at HBW; exact HBW.out.alloc HBW.out.size _)⟩
        have HNB : Hid (tests.any testBad = false → ruleBad ⟨archs, lo, hi, tests, word⟩ = false) := fun h => ruleBad_no ha hl ht h
        have HYB : Hid (∀ (j : Nat) (hj : j < tests.length), testBad tests[j] = true → ruleBad ⟨archs, lo, hi, tests, word⟩ = true) := fun j hj h => by
          have : tests.any testBad = true := List.any_eq_true.2 ⟨_, List.getElem_mem hj, h⟩
          simp [ruleBad, this]
        go_wp2_with fail
        clear e0 e1 e2 e3 e4 p0 ha hl
        obtain ⟨m, hm⟩ : ∃ m, wr.heap.size = m := ⟨_, rfl⟩
        obtain ⟨W5, hW5⟩ : ∃ W, W = (wr.alloc (.cells #[.slice B0 archs.length d0, .int .u32 lo, .int .u32 hi, .slice B3 tests.length d3, .int .u32 word] 51)) := ⟨_, rfl⟩
        have hB5 : Below wr.heap.size wr W5 := by rw [hW5]; exact below_al (Below.refl _ _) _
        have hR5 : W5.heap[m]? = some (.cells #[.slice B0 archs.length d0, .int .u32 lo, .int .u32 hi, .slice B3 tests.length d3, .int .u32 word] 51) := by rw [hW5, ← hm]; exact blk_new _ _
        rw [← hW5]
        have HB15 := Lib.hid (below_tr hB.out hB5)
        have HR5 := Lib.hid hR5
        have HT5 := Lib.hid (HT.out.bel hB5)
        have HBW5 := Lib.hid (below_tr HBW.out hB5)
        rw [hm]
        clear hB5 hR5 hW5 hm HT HBW hB
        clear wr
        go_loopw [5] (fun i wr => ∃ (j : Nat), j ≤ tests.length ∧ i = .int .i64 j ∧ Hid ((tests.take j).any testBad = false) ∧ Hid (wr = W5)) (fun i _ => tests.length - (intOf i).toNat)
        case atStart => exact ⟨0, Nat.zero_le _, rfl, rfl, rfl⟩
        case round =>
          obtain ⟨j, hj, rfl, hta, hWe⟩ := hrel
          obtain rfl := hWe.out
          have q3 : wr.cell? ⟨m, 3, none⟩ = some (.slice B3 tests.length d3) := blk_cell HR5.out 3
          by_cases hjt : j < tests.length
          · obtain ⟨bd, rfl, hokt, hwf, f0, f1, f2, f3⟩ := kTest.at_ HT5.out hjt
            have HY := Lib.hid (HYB.out j hjt)
            have HN := Lib.hid (fun h => any_step (p := testBad) hjt hta.out h)
            generalize tests[j] = t at *
            obtain ⟨arg, high, mask, value⟩ := t
            simp only at *
            obtain ⟨⟨ha1, ha2⟩, -, -⟩ := hwf
            simp only at ha1 ha2
            by_cases hneg : arg < 0
            · go_wp2_with fail
              go_ret
              exact ⟨ret_b (HF.out (HY.out (by unfold testBad; simp [hneg]))).symm, HBW5.out⟩
            by_cases hbig : 5 < arg
            · go_wp2_with fail
              go_ret
              exact ⟨ret_b (HF.out (HY.out (by unfold testBad; simp; omega))).symm, HBW5.out⟩
            have HN' := Lib.hid (HN.out (by unfold testBad; simp; omega))
            clear hta
            go_wp2_with fail
            go_roundw
            case rel => exact ⟨j + 1, by omega, by go_num, HN'.out, by first | exact trivial | exact rfl⟩
            case measure => simp [intOf]; omega
          · obtain rfl : j = tests.length := by omega
            rw [List.take_length] at hta
            have HG' := Lib.hid (HG.out (HNB.out hta.out))
            clear hta HG HNB
            go_wp2_with fail
            go_roundw
            case rel => exact ⟨k + 1, by omega, by go_num, HG'.out, HB15.out⟩
            case measure => simp [intOf]; omega
      · obtain rfl : k = rules.length := by omega
        rw [List.take_length] at hany
        go_wp2
        go_ret
        exact ⟨ret_b (HRB.out hany.out).symm, by first | exact hbw | (rw [HSZ.out] at hbw; exact hbw)⟩

set_option maxHeartbeats 400000 in
theorem c_half (x : Test) (w : World) (h0 : 0 ≤ x.arg) (h6 : x.arg < 6) :
    Calls Try.prog 32 #[x.agg] w fun e w' => e = .returned (.int .u32 (offs x)) ∧ Below w.heap.size w w' := by
  obtain ⟨a, h, m, v⟩ := x
  unfold Test.agg offs
  simp only at h0 h6
  cases h <;>
  · go_enter Try.func32, Try.ntmps32
    go_wp2
    go_ret
    refine ⟨ret_i ?_, (Below.refl _ _).alloc (Nat.le_refl _) _⟩
    simp
    try omega
set_option maxHeartbeats 400000 in
theorem c_far (A : Option Addr) (n c : Nat) (p : Int) (w : World) (hn : n ≤ 1000000) (hp : 0 ≤ p ∧ p ≤ 1000000) :
    Calls Try.prog 31 #[.slice A n c, .int .i64 p] w fun e w' => e = .returned (.int .i64 (p - n - 1)) ∧ w = w' := by
  obtain ⟨h0, h1⟩ := hp
  go_enter Try.func31, Try.ntmps31
  go_wp2
  go_ret
  exact ⟨rfl, rfl⟩
/-- How many instructions a rule's block has. -/
def lenR (r : Rule) : Nat := 4 + 3 * r.tests.length + (if r.archs.length = 0 then 0 else 2 + r.archs.length)
set_option maxHeartbeats 400000 in
theorem c_length (r : Rule) (ok : Nat → Prop) (cs : List Value) (w : World) (hK : kRule.K w ok r cs) (ha : r.archs.length ≤ 1000) (ht : r.tests.length ≤ 1000) :
    Calls Try.prog 30 #[.agg cs.toArray] w fun e w' => e = .returned (.int .i64 (lenR r)) ∧ Below w.heap.size w w' := by
  obtain ⟨A0, c0, A3, c3, rfl, -, g1, g2, -, g4⟩ := kRule.opn hK
  obtain ⟨archs, lo, hi, tests, word⟩ := r
  simp only at *
  clear hK
  unfold lenR
  by_cases h0 : archs.length = 0
  · rw [if_pos h0]
    have h0' : archs.length < 1 := by omega
    obtain rfl : archs = [] := List.eq_nil_of_length_eq_zero h0
    clear h0
    go_enter Try.func30, Try.ntmps30
    go_wp2
    go_ret
    exact ⟨ret_i (by simp; omega), below_al (Below.refl _ _) _⟩
  · rw [if_neg h0]
    have h0' : 0 < archs.length := by omega
    clear h0
    go_enter Try.func30, Try.ntmps30
    go_wp2
    go_ret
    exact ⟨ret_i (by simp; omega), below_al (Below.refl _ _) _⟩
end Go.Proofs.Ytiepnnjodmkolaa
