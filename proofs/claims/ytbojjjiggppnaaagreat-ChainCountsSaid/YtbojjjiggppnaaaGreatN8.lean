/- The walk of the reference's Check. -/
import Derived.Test.YtbojjjiggppnaaaGreatN7
namespace Go.Proofs.YtbojjjiggppnaaaGreat
open Go.RowKit Go.Shelf
set_option linter.unusedVariables false
set_option linter.unusedSimpArgs false

set_option maxHeartbeats 2000000 in
theorem c_check04 (A : Option Addr) (l : List Insn) (c : Nat) (ok : Nat → Prop) (w : World) (hC : kInsn.Row w ok A l) :
    Calls Tryz.prog 95 #[.slice A l.length c] w fun e w' => e = .returned (checkT l) ∧ Below w.heap.size w w' := by
  have hn := hC.1
  by_cases hsz : l.length < 1 ∨ 64 < l.length
  · have hT : checkT l = .tuple #[.int .i64 0, .int .i64 140] := by unfold checkT checkL; rw [if_pos hsz]
    rw [hT]
    clear hT
    rcases hsz with hsz | hsz
    all_goals
      go_enter Tryz.func95, Tryz.ntmps95
      go_wp2
      go_ret2
      exact ⟨rfl, Below.refl _ _⟩
  · have HT : Hid (checkT l = match firstBad l.length l 0 with
        | some p => .tuple #[.int .i64 p.1, .int .i64 p.2]
        | none => if retB (l.getD (l.length - 1) zInsn) = true then .tuple #[.int .i64 0, .int .i64 0] else .tuple #[.int .i64 ((l.length : Int) - 1), .int .i64 147]) := by
      show checkT l = _
      unfold checkT checkL
      rw [if_neg hsz]
      cases firstBad l.length l 0 with
      | some p => rfl
      | none => simp only; split <;> rfl
    have h1 : 1 ≤ l.length := by omega
    have h64 : l.length ≤ 64 := by omega
    clear hsz
    generalize checkT l = T at *
    go_enter Tryz.func95, Tryz.ntmps95
    go_wp2_with fail
    go_loopw [5, 6, 7, 18] (fun _ _ _ i wr => ∃ k : Nat, k ≤ l.length ∧ i = .int .i64 k ∧ Below w.heap.size w wr ∧ Hid (firstBad l.length l 0 = firstBad l.length (l.drop k) k)) (fun _ _ _ i _ => l.length - (intOf i).toNat)
    case atStart => exact ⟨0, Nat.zero_le _, rfl, Below.refl _ _, rfl⟩
    case round =>
      obtain ⟨k, hk, rfl, hB, hF⟩ := hrel
      by_cases hlt : k < l.length
      · obtain ⟨ad, rfl, hok, hwf, e0, e1, e2, e3⟩ := kInsn.at_ (hC.bel hB) hlt
        have HONE := Lib.hid (fun w' => c_One04 l[k] k l.length w' hwf (by omega) (by omega) (by omega))
        by_cases h0 : oneF l[k] k l.length = 0
        · have hst : Hid (firstBad l.length l 0 = firstBad l.length (l.drop (k + 1)) (k + 1)) := hF.out.trans (firstBad_step hlt h0)
          have h0' := Lib.hid h0
          clear h0
          go_wp2_with (go_at_call 158; refine (HONE.out _).mono ?_; rintro e w' ⟨rfl, hB'⟩; rw [h0'.out]; have hB2 := below_tr hB ((below_al (Below.refl _ _) _).trans (hB'.mono (by simp))))
          go_roundw
          case rel => exact ⟨k + 1, by omega, by go_num, hB2, hst⟩
          case measure => simp [intOf]; omega
        · have hst := hF.out.trans (firstBad_at hlt h0)
          have hT := HT.out
          rw [hst] at hT
          simp only at hT
          have hT' := Lib.hid hT
          have h0' : ¬ (oneF l[k] k l.length = 0) := h0
          clear h0 hst hT
          generalize oneF l[k] k l.length = r at *
          go_wp2_with (go_at_call 158; refine (HONE.out _).mono ?_; rintro e w' ⟨rfl, hB'⟩; have hB2 := below_tr hB ((below_al (Below.refl _ _) _).trans (hB'.mono (by simp))))
          go_ret2
          exact ⟨by rw [hT'.out]; rfl, hB2⟩
      · obtain rfl : k = l.length := by omega
        have hF' := hF.out
        rw [List.drop_length] at hF'
        have hT := HT.out
        rw [hF'] at hT
        simp only [firstBad] at hT
        obtain ⟨m, hm⟩ : ∃ m : Nat, (l.length : Int) - 1 = m := ⟨l.length - 1, by omega⟩
        have hmn : m = l.length - 1 := by omega
        have hml : m < l.length := by omega
        have hml' : (m : Int) < l.length := by omega
        rw [← hmn, hm, show l.getD m zInsn = l[m] by simp [List.getD_eq_getElem?_getD, List.getElem?_eq_getElem hml]] at hT
        have hT' := Lib.hid hT
        clear hF' hT hmn
        obtain ⟨ad, rfl, hok, hwf, e0, e1, e2, e3⟩ := kInsn.at_ (hC.bel hB) hml
        have hret := c_returns04 l[m]
        have HRET := Lib.hid hret
        clear hret
        generalize retB l[m] = rb at *
        cases rb
        all_goals
          go_wp2_with (go_at_call 159; refine (HRET.out _).mono ?_; rintro e w' ⟨rfl, hB'⟩; have hB2 := below_tr hB hB')
          go_ret2
          exact ⟨by rw [hT'.out]; rfl, hB2⟩
end Go.Proofs.YtbojjjiggppnaaaGreat
