/- slices.IndexFunc and ContainsFunc at the program's types. -/
import Derived.Test.YtiepnnjodmkolaaB2
namespace Go.Proofs.Ytiepnnjodmkolaa
open Go.RowKit
set_option linter.unusedVariables false
set_option linter.unusedSimpArgs false

/-- The first place at which p holds; -1: nowhere. -/
def findI {α : Type} (p : α → Bool) (xs : List α) : Int := match xs.findIdx? p with
  | some i => (i : Int)
  | none => -1
theorem findI_at {α : Type} {p : α → Bool} {xs : List α} {k : Nat} (hk : k < xs.length) (hno : ∀ j (hj : j < k), p (xs[j]'(by omega)) = false) (h : p xs[k] = true) : findI p xs = k := by
  have : xs.findIdx? p = some k := by
    rw [List.findIdx?_eq_some_iff_getElem]
    exact ⟨hk, h, fun j hj => by rw [hno j hj]; simp⟩
  simp [findI, this]
theorem findI_none {α : Type} {p : α → Bool} {xs : List α} (hno : ∀ j (hj : j < xs.length), p xs[j] = false) : findI p xs = -1 := by
  have : xs.findIdx? p = none := by
    rw [List.findIdx?_eq_none_iff]
    intro x hx
    obtain ⟨i, hi, rfl⟩ := List.getElem_of_mem hx
    exact hno i hi
  simp [findI, this]
theorem findI_ge {α : Type} (p : α → Bool) (xs : List α) : decide (0 ≤ findI p xs) = xs.any p := by
  unfold findI
  cases h : xs.findIdx? p with
  | none =>
    rw [List.findIdx?_eq_none_iff] at h
    simp [List.any_eq]
    exact h
  | some i =>
    rw [List.findIdx?_eq_some_iff_getElem] at h
    obtain ⟨hi, hp, _⟩ := h
    simp
    exact ⟨xs[i], List.getElem_mem hi, hp⟩
theorem findI_lt {α : Type} (p : α → Bool) (xs : List α) : findI p xs < xs.length := by
  unfold findI
  cases h : xs.findIdx? p with
  | none => simp only; omega
  | some i =>
    rw [List.findIdx?_eq_some_iff_getElem] at h
    obtain ⟨hi, _⟩ := h
    simp only; omega

/-- A function value that tells p of elements that are structs, and turns nothing that was there. -/
def Tells {α : Type} (P : Program) (gf : FuncId) (lb : Array Value) (d : Kd α) (ok : Nat → Prop) (p : α → Bool) (x : α) (w : World) : Prop :=
  ∀ W cs, Below w.heap.size w W → d.K W ok x cs → Calls P gf (#[.agg cs.toArray] ++ lb) W fun e w' => e = .returned (.bool (p x)) ∧ Below W.heap.size W w'
/-- .. that are numbers. -/
def TellsI (P : Program) (gf : FuncId) (lb : Array Value) {α : Type} (_ : Kd α) (_ : Nat → Prop) (p : Int → Bool) (x : Int) (w : World) : Prop :=
  ∀ W, Below w.heap.size w W → Kd.rng .u32 x → Calls P gf (#[.int .u32 x] ++ lb) W fun e w' => e = .returned (.bool (p x)) ∧ Below W.heap.size W w'


set_option maxHeartbeats 1000000 in
theorem c_indexTest (A : Option Addr) (xs : List Test) (n c gf : Nat) (lb : Array Value) (p : Test → Bool) (ok : Nat → Prop) (w : World) (hC : kTest.Row w ok A xs)  (hn0 : n = xs.length)
    (heg : ∀ args w, (callFunc gf args).run Try.prog w = .ok (.enter gf args) w)
    (hp : ∀ x ∈ xs, Tells Try.prog gf lb kTest ok p x w) :
    Calls Try.prog 56 #[.slice A n c, .func (.func gf) #[] lb] w fun e w' => e = .returned (.int .i64 (findI p xs)) ∧ Below w.heap.size w w' := by
  subst hn0
  have hn := hC.1
  have HP := Lib.hid hp
  clear hp
  go_enter Try.func56, Try.ntmps56
  go_wp2
  go_loopw [5, 8] (fun _ i wr => ∃ k : Nat, k ≤ xs.length ∧ i = .int .i64 k ∧ Below w.heap.size w wr ∧ Hid (∀ j (hj : j < xs.length), j < k → p xs[j] = false)) (fun _ i _ => xs.length - (intOf i).toNat)
  case atStart => exact ⟨0, Nat.zero_le _, rfl, Below.refl _ _, fun j _ hj => absurd hj (Nat.not_lt_zero _)⟩
  case round =>
    obtain ⟨k, hk, rfl, hB, hno⟩ := hrel
    by_cases hlt : k < xs.length
    · obtain ⟨ad, rfl, hok, hwf, c0, c1, c2, c3⟩ := kTest.at_ (hC.bel hB) hlt
      have hcall := HP.out xs[k] (List.getElem_mem hlt) _ _ hB ⟨rfl, hwf⟩
      go_wp2
      refine hcall.mono ?_
      rintro e w' ⟨rfl, hB'⟩
      have hB2 := below_tr hB hB'
      by_cases hpk : p xs[k] = true
      · rw [hpk]
        go_wp2
        go_ret
        exact ⟨by rw [findI_at hlt (fun j hj => hno.out j (by omega) hj) hpk]; rfl, hB2⟩
      · have hpk' : p xs[k] = false := by simpa using hpk
        rw [hpk']
        go_wp2
        go_roundw
        case rel => exact ⟨k + 1, by omega, by go_num, hB2, fun j hj hj' => by rcases Nat.lt_succ_iff_lt_or_eq.1 hj' with h | rfl; exact hno.out j hj h; exact hpk'⟩
        case measure => simp [intOf]; omega
    · obtain rfl : k = xs.length := by omega
      go_wp2
      go_ret
      exact ⟨by rw [findI_none (fun j hj => hno.out j hj hj)]; rfl, hB⟩


set_option maxHeartbeats 1000000 in
theorem c_containsTest (A : Option Addr) (xs : List Test) (n c gf : Nat) (lb : Array Value) (p : Test → Bool) (ok : Nat → Prop) (w : World) (hC : kTest.Row w ok A xs) (hn0 : n = xs.length)
    (heg : ∀ args w, (callFunc gf args).run Try.prog w = .ok (.enter gf args) w)
    (hp : ∀ x ∈ xs, Tells Try.prog gf lb kTest ok p x w) :
    Calls Try.prog 37 #[.slice A n c, .func (.func gf) #[] lb] w fun e w' => e = .returned (.bool (xs.any p)) ∧ Below w.heap.size w w' := by
  subst hn0
  have hg := findI_ge p xs
  have hidx := c_indexTest A xs _ c gf lb p ok w hC rfl heg hp
  generalize findI p xs = r at hidx hg
  have HG := Lib.hid hg
  clear hg hp
  go_enter Try.func37, Try.ntmps37
  go_wp2_with (go_at_call 56; refine hidx.mono ?_; rintro e w' ⟨rfl, hB'⟩)
  go_ret
  exact ⟨by rw [← HG.out]; rfl, hB'⟩


set_option maxHeartbeats 1000000 in
theorem c_indexRule (A : Option Addr) (xs : List Rule) (n c gf : Nat) (lb : Array Value) (p : Rule → Bool) (ok : Nat → Prop) (w : World) (hC : kRule.Row w ok A xs)  (hn0 : n = xs.length)
    (heg : ∀ args w, (callFunc gf args).run Try.prog w = .ok (.enter gf args) w)
    (hp : ∀ x ∈ xs, Tells Try.prog gf lb kRule ok p x w) :
    Calls Try.prog 61 #[.slice A n c, .func (.func gf) #[] lb] w fun e w' => e = .returned (.int .i64 (findI p xs)) ∧ Below w.heap.size w w' := by
  subst hn0
  have hn := hC.1
  have HP := Lib.hid hp
  clear hp
  go_enter Try.func61, Try.ntmps61
  go_wp2
  go_loopw [5, 8] (fun _ i wr => ∃ k : Nat, k ≤ xs.length ∧ i = .int .i64 k ∧ Below w.heap.size w wr ∧ Hid (∀ j (hj : j < xs.length), j < k → p xs[j] = false)) (fun _ i _ => xs.length - (intOf i).toNat)
  case atStart => exact ⟨0, Nat.zero_le _, rfl, Below.refl _ _, fun j _ hj => absurd hj (Nat.not_lt_zero _)⟩
  case round =>
    obtain ⟨k, hk, rfl, hB, hno⟩ := hrel
    by_cases hlt : k < xs.length
    · obtain ⟨ad, A0, d0, A3, d3, rfl, hok, ⟨g0, g1, g2, g3, g4⟩, c0, c1, c2, c3, c4⟩ := kRule.at_ (hC.bel hB) hlt
      have hcall := HP.out xs[k] (List.getElem_mem hlt) _ _ hB (kRule.mk g0 g1 g2 g3 g4)
      go_wp2
      refine hcall.mono ?_
      rintro e w' ⟨rfl, hB'⟩
      have hB2 := below_tr hB hB'
      by_cases hpk : p xs[k] = true
      · rw [hpk]
        go_wp2
        go_ret
        exact ⟨by rw [findI_at hlt (fun j hj => hno.out j (by omega) hj) hpk]; rfl, hB2⟩
      · have hpk' : p xs[k] = false := by simpa using hpk
        rw [hpk']
        go_wp2
        go_roundw
        case rel => exact ⟨k + 1, by omega, by go_num, hB2, fun j hj hj' => by rcases Nat.lt_succ_iff_lt_or_eq.1 hj' with h | rfl; exact hno.out j hj h; exact hpk'⟩
        case measure => simp [intOf]; omega
    · obtain rfl : k = xs.length := by omega
      go_wp2
      go_ret
      exact ⟨by rw [findI_none (fun j hj => hno.out j hj hj)]; rfl, hB⟩


set_option maxHeartbeats 1000000 in
theorem c_containsRule (A : Option Addr) (xs : List Rule) (n c gf : Nat) (lb : Array Value) (p : Rule → Bool) (ok : Nat → Prop) (w : World) (hC : kRule.Row w ok A xs) (hn0 : n = xs.length)
    (heg : ∀ args w, (callFunc gf args).run Try.prog w = .ok (.enter gf args) w)
    (hp : ∀ x ∈ xs, Tells Try.prog gf lb kRule ok p x w) :
    Calls Try.prog 40 #[.slice A n c, .func (.func gf) #[] lb] w fun e w' => e = .returned (.bool (xs.any p)) ∧ Below w.heap.size w w' := by
  subst hn0
  have hg := findI_ge p xs
  have hidx := c_indexRule A xs _ c gf lb p ok w hC rfl heg hp
  generalize findI p xs = r at hidx hg
  have HG := Lib.hid hg
  clear hg hp
  go_enter Try.func40, Try.ntmps40
  go_wp2_with (go_at_call 61; refine hidx.mono ?_; rintro e w' ⟨rfl, hB'⟩)
  go_ret
  exact ⟨by rw [← HG.out]; rfl, hB'⟩


set_option maxHeartbeats 1000000 in
theorem c_indexU32 (A : Option Addr) (xs : List Int) (n c gf : Nat) (lb : Array Value) (p : Int → Bool) (ok : Nat → Prop) (w : World) (hC : (Kd.int .u32).Row w ok A xs)  (hn0 : n = xs.length)
    (heg : ∀ args w, (callFunc gf args).run Try.prog w = .ok (.enter gf args) w)
    (hp : ∀ x ∈ xs, TellsI Try.prog gf lb (Kd.int .u32) ok p x w) :
    Calls Try.prog 82 #[.slice A n c, .func (.func gf) #[] lb] w fun e w' => e = .returned (.int .i64 (findI p xs)) ∧ Below w.heap.size w w' := by
  subst hn0
  have hn := hC.1
  have HP := Lib.hid hp
  clear hp
  go_enter Try.func82, Try.ntmps82
  go_wp2
  go_loopw [5, 8] (fun _ i wr => ∃ k : Nat, k ≤ xs.length ∧ i = .int .i64 k ∧ Below w.heap.size w wr ∧ Hid (∀ j (hj : j < xs.length), j < k → p xs[j] = false)) (fun _ i _ => xs.length - (intOf i).toNat)
  case atStart => exact ⟨0, Nat.zero_le _, rfl, Below.refl _ _, fun j _ hj => absurd hj (Nat.not_lt_zero _)⟩
  case round =>
    obtain ⟨k, hk, rfl, hB, hno⟩ := hrel
    by_cases hlt : k < xs.length
    · obtain ⟨ad, rfl, hok, hwf, c0⟩ := Kd.int_at (hC.bel hB) hlt
      have hcall := HP.out xs[k] (List.getElem_mem hlt) _  hB hwf
      go_wp2
      refine hcall.mono ?_
      rintro e w' ⟨rfl, hB'⟩
      have hB2 := below_tr hB hB'
      by_cases hpk : p xs[k] = true
      · rw [hpk]
        go_wp2
        go_ret
        exact ⟨by rw [findI_at hlt (fun j hj => hno.out j (by omega) hj) hpk]; rfl, hB2⟩
      · have hpk' : p xs[k] = false := by simpa using hpk
        rw [hpk']
        go_wp2
        go_roundw
        case rel => exact ⟨k + 1, by omega, by go_num, hB2, fun j hj hj' => by rcases Nat.lt_succ_iff_lt_or_eq.1 hj' with h | rfl; exact hno.out j hj h; exact hpk'⟩
        case measure => simp [intOf]; omega
    · obtain rfl : k = xs.length := by omega
      go_wp2
      go_ret
      exact ⟨by rw [findI_none (fun j hj => hno.out j hj hj)]; rfl, hB⟩


set_option maxHeartbeats 1000000 in
theorem c_containsU32 (A : Option Addr) (xs : List Int) (n c gf : Nat) (lb : Array Value) (p : Int → Bool) (ok : Nat → Prop) (w : World) (hC : (Kd.int .u32).Row w ok A xs) (hn0 : n = xs.length)
    (heg : ∀ args w, (callFunc gf args).run Try.prog w = .ok (.enter gf args) w)
    (hp : ∀ x ∈ xs, TellsI Try.prog gf lb (Kd.int .u32) ok p x w) :
    Calls Try.prog 67 #[.slice A n c, .func (.func gf) #[] lb] w fun e w' => e = .returned (.bool (xs.any p)) ∧ Below w.heap.size w w' := by
  subst hn0
  have hg := findI_ge p xs
  have hidx := c_indexU32 A xs _ c gf lb p ok w hC rfl heg hp
  generalize findI p xs = r at hidx hg
  have HG := Lib.hid hg
  clear hg hp
  go_enter Try.func67, Try.ntmps67
  go_wp2_with (go_at_call 82; refine hidx.mono ?_; rintro e w' ⟨rfl, hB'⟩)
  go_ret
  exact ⟨by rw [← HG.out]; rfl, hB'⟩

end Go.Proofs.Ytiepnnjodmkolaa
