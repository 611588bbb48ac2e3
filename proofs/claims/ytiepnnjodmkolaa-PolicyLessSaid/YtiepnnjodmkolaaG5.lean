/- slices.IndexFunc and ContainsFunc at tests, where the function is a method value. -/
import Derived.Test.YtiepnnjodmkolaaG4
namespace Go.Proofs.Ytiepnnjodmkolaa
open Go.RowKit Go.Shelf
set_option linter.unusedVariables false
set_option linter.unusedSimpArgs false

set_option maxHeartbeats 1000000 in
theorem c_indexTestM (A : Option Addr) (xs : List Test) (n c gf : Nat) (rv : Value) (p : Test → Bool) (ok : Nat → Prop) (w : World) (hC : kTest.Row w ok A xs) (hn0 : n = xs.length)
    (heg : ∀ args w, (callFunc gf args).run Try.prog w = .ok (.enter gf args) w)
    (hp : ∀ x : Test, x.wf → ∀ W, Calls Try.prog gf #[rv, x.agg] W fun e w' => e = .returned (.bool (p x)) ∧ Below W.heap.size W w') :
    Calls Try.prog 56 #[.slice A n c, .func (.func gf) #[rv] #[]] w fun e w' => e = .returned (.int .i64 (findI p xs)) ∧ Below w.heap.size w w' := by
  subst hn0
  have hn := hC.1
  have HP := Lib.hid hp
  clear hp
  go_enter Try.func56, Try.ntmps56
  go_wp2
  go_loopw [5, 8] (fun _ i wr => ∃ k : Nat, k ≤ xs.length ∧ i = .int .i64 k ∧ Below w.heap.size w wr ∧ Hid (∀ j (hj : j < xs.length), j < k → p xs[j] = false)) (fun _ i _ => xs.length - (intOf i).toNat)
  case atStart => exact ⟨0, Nat.zero_le _, rfl, Below.refl _ _, fun j _ hj => absurd hj (Nat.not_lt_zero _)⟩
  case round =>
    obtain ⟨k, hk, rfl, hB, hno⟩ := hrel
    by_cases hlt : k < xs.length
    · obtain ⟨ad, rfl, hok, hwf, c0, c1, c2, c3⟩ := kTest.at_ (hC.bel hB) hlt
      have hcall := HP.out xs[k] hwf wr
      go_wp2
      refine hcall.mono ?_
      rintro e w' ⟨rfl, hB'⟩
      have hB2 := below_tr hB hB'
      by_cases hpk : p xs[k] = true
      · rw [hpk]
        go_wp2
        go_ret
        exact ⟨by rw [findI_at hlt (fun j hj => hno.out j (by omega) hj) hpk]; rfl, hB2⟩
      · have hpk' : p xs[k] = false := by simpa using hpk
        rw [hpk']
        go_wp2
        go_roundw
        case rel => exact ⟨k + 1, by omega, by go_num, hB2, fun j hj hj' => by rcases Nat.lt_succ_iff_lt_or_eq.1 hj' with h | rfl; exact hno.out j hj h; exact hpk'⟩
        case measure => simp [intOf]; omega
    · obtain rfl : k = xs.length := by omega
      go_wp2
      go_ret
      exact ⟨by rw [findI_none (fun j hj => hno.out j hj hj)]; rfl, hB⟩
set_option maxHeartbeats 1000000 in
theorem c_containsTestM (A : Option Addr) (xs : List Test) (n c gf : Nat) (rv : Value) (p : Test → Bool) (ok : Nat → Prop) (w : World) (hC : kTest.Row w ok A xs) (hn0 : n = xs.length)
    (heg : ∀ args w, (callFunc gf args).run Try.prog w = .ok (.enter gf args) w)
    (hp : ∀ x : Test, x.wf → ∀ W, Calls Try.prog gf #[rv, x.agg] W fun e w' => e = .returned (.bool (p x)) ∧ Below W.heap.size W w') :
    Calls Try.prog 37 #[.slice A n c, .func (.func gf) #[rv] #[]] w fun e w' => e = .returned (.bool (xs.any p)) ∧ Below w.heap.size w w' := by
  subst hn0
  have hg := findI_ge p xs
  have hidx := c_indexTestM A xs _ c gf rv p ok w hC rfl heg hp
  generalize findI p xs = r at hidx hg
  have HG := Lib.hid hg
  clear hg hp
  go_enter Try.func37, Try.ntmps37
  go_wp2_with (go_at_call 56; refine hidx.mono ?_; rintro e w' ⟨rfl, hB'⟩)
  go_ret
  exact ⟨by rw [← HG.out]; rfl, hB'⟩
end Go.Proofs.Ytiepnnjodmkolaa
