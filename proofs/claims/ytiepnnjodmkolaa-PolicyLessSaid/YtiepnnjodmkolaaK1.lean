/- The walks of slices.Equal at numbers and tests, and of policy.shadows. -/
import Derived.Test.YtiepnnjodmkolaaG9
import Derived.Laws.StructEq
namespace Go.Proofs.Ytiepnnjodmkolaa
open Go.RowKit Go.Shelf
set_option linter.unusedVariables false
set_option linter.unusedSimpArgs false

set_option maxHeartbeats 2000000 in
theorem c_eq32 (A B : Option Addr) (xs ys : List Int) (n m c d : Nat) (ok ok' : Nat → Prop) (w : World) (hA : (Kd.int .u32).Row w ok A xs) (hB : (Kd.int .u32).Row w ok' B ys) (hn0 : n = xs.length) (hm0 : m = ys.length) :
    Calls Try.prog 68 #[.slice A n c, .slice B m d] w fun e w' => ∃ b, e = .returned (.bool b) ∧ (b = true ↔ xs = ys) ∧ Below w.heap.size w w' := by
  subst hn0
  have hn := hA.1
  have hm := hB.1
  have HA := Lib.hid hA
  have HB := Lib.hid hB
  clear hA hB
  by_cases hl : xs.length = ys.length
  · obtain rfl : m = xs.length := by omega
    go_enter Try.func68, Try.ntmps68
    go_wp2_with fail
    go_loopw [5, 13] (fun _ i wr => ∃ k : Nat, k ≤ xs.length ∧ i = .int .i64 k ∧ Below w.heap.size w wr ∧ Hid (∀ j (hj : j < xs.length) (hj' : j < ys.length), j < k → xs[j] = ys[j])) (fun _ i _ => xs.length - (intOf i).toNat)
    case atStart => exact ⟨0, Nat.zero_le _, rfl, Below.refl _ _, fun j _ _ hj => absurd hj (Nat.not_lt_zero _)⟩
    case round =>
      obtain ⟨k, hk, rfl, hB, hno⟩ := hrel
      by_cases hlt : k < xs.length
      · have hlt' : k < ys.length := by omega
        obtain ⟨ad, rfl, hok, hwf, c0⟩ := Kd.int_at (HA.out.bel hB) hlt
        obtain ⟨bd, rfl, hok', hwf', d0⟩ := Kd.int_at (HB.out.bel hB) hlt'
        have hk0 : (0 : Int) ≤ (k : Int) := by omega
        have hk1 : (k : Int) < (xs.length : Int) := by omega
        have hk2 : (k : Int) < (ys.length : Int) := by omega
        by_cases he : xs[k] = ys[k]
        · have hno' : Hid (∀ j (hj : j < xs.length) (hj' : j < ys.length), j < k + 1 → xs[j] = ys[j]) := fun j hj hj' hjk => by
            rcases Nat.lt_succ_iff_lt_or_eq.1 hjk with h | rfl
            · exact hno.out j hj hj' h
            · exact he
          generalize xs[k] = x at *
          generalize ys[k] = y at *
          subst he
          clear hno
          go_wp2_with fail
          go_quiet (fail)
          go_wp2_with fail
          go_roundw
          case rel => exact ⟨k + 1, by omega, by go_num, below_dN hB nq, hno'⟩
          case measure => simp [intOf]; omega
        · have hne : Hid (¬ xs = ys) := fun h => he (by subst h; rfl)
          generalize xs[k] = x at *
          generalize ys[k] = y at *
          clear hno
          go_wp2_with fail
          go_quiet (fail)
          go_wp2_with fail
          go_ret
          exact ⟨_, rfl, by simp [hne.out], below_dN hB nq⟩
      · obtain rfl : k = xs.length := by omega
        have he : Hid (xs = ys) := List.ext_getElem hl (fun j hj hj' => hno.out j hj hj' hj)
        clear hno
        go_wp2_with fail
        go_ret
        exact ⟨_, rfl, by simp [he.out], hB⟩
  · have hne : Hid (¬ xs = ys) := fun h => hl (by rw [h])
    subst hm0
    have hl' : ¬ (xs.length : Int) = (ys.length : Int) := by omega
    go_enter Try.func68, Try.ntmps68
    go_wp2_with fail
    go_ret
    exact ⟨_, rfl, by simp [hne.out], Below.refl _ _⟩
theorem run_neqTest (xa ya xm ym xv yv : Int) (xh yh : Bool) (h : ¬ (Test.mk xa xh xm xv = Test.mk ya yh ym yv)) (w : World) : (binOp .neq 69 (.agg #[.int .i64 xa, .bool xh, .int .u32 xm, .int .u32 xv]) (.agg #[.int .i64 ya, .bool yh, .int .u32 ym, .int .u32 yv])).run Try.prog w = .ok (.bool true) w := by
  have u3 := Try.underlying3
  have u4 := Try.underlying4
  have u5 := Try.underlying23
  have a3 := Try.isAgg3
  have a4 := Try.isAgg4
  have a5 := Try.isAgg23
  have z3 := Try.sizeOf3
  have z4 := Try.sizeOf4
  have z5 := Try.sizeOf23
  have hS : Try.prog.underlying 69 = some (.struct (Try.prog.fieldsOf 69)) := by kernel_rfl
  rw [run_neq_struct, run_equalIn_agg _ _ _ _ _ hS (by kernel_rfl)]
  simp only [Program.fieldsOf, Try.underlying69]
  go_simp
  by_cases h1 : xa = ya <;> by_cases h2 : xh = yh <;> by_cases h3 : xm = ym <;> by_cases h4 : xv = yv <;> simp_all
set_option maxHeartbeats 2000000 in
theorem c_eqTest (A B : Option Addr) (xs ys : List Test) (n m c d : Nat) (ok ok' : Nat → Prop) (w : World) (hA : kTest.Row w ok A xs) (hB : kTest.Row w ok' B ys) (hn0 : n = xs.length) (hm0 : m = ys.length) :
    Calls Try.prog 69 #[.slice A n c, .slice B m d] w fun e w' => ∃ b, e = .returned (.bool b) ∧ (b = true ↔ xs = ys) ∧ Below w.heap.size w w' := by
  subst hn0
  have hn := hA.1
  have hm := hB.1
  have HA := Lib.hid hA
  have HB := Lib.hid hB
  clear hA hB
  by_cases hl : xs.length = ys.length
  · obtain rfl : m = xs.length := by omega
    go_enter Try.func69, Try.ntmps69
    go_wp2_with fail
    go_loopw [5, 13] (fun _ i wr => ∃ k : Nat, k ≤ xs.length ∧ i = .int .i64 k ∧ Below w.heap.size w wr ∧ Hid (∀ j (hj : j < xs.length) (hj' : j < ys.length), j < k → xs[j] = ys[j])) (fun _ i _ => xs.length - (intOf i).toNat)
    case atStart => exact ⟨0, Nat.zero_le _, rfl, Below.refl _ _, fun j _ _ hj => absurd hj (Nat.not_lt_zero _)⟩
    case round =>
      obtain ⟨k, hk, rfl, hB, hno⟩ := hrel
      by_cases hlt : k < xs.length
      · have hlt' : k < ys.length := by omega
        obtain ⟨ad, rfl, hok, hwf, c0, c1, c2, c3⟩ := kTest.at_ (HA.out.bel hB) hlt
        obtain ⟨bd, rfl, hok', hwf', d0, d1, d2, d3⟩ := kTest.at_ (HB.out.bel hB) hlt'
        have hk0 : (0 : Int) ≤ (k : Int) := by omega
        have hk1 : (k : Int) < (xs.length : Int) := by omega
        have hk2 : (k : Int) < (ys.length : Int) := by omega
        by_cases he : xs[k] = ys[k]
        · have hno' : Hid (∀ j (hj : j < xs.length) (hj' : j < ys.length), j < k + 1 → xs[j] = ys[j]) := fun j hj hj' hjk => by
            rcases Nat.lt_succ_iff_lt_or_eq.1 hjk with h | rfl
            · exact hno.out j hj hj' h
            · exact he
          generalize xs[k] = x at *
          generalize ys[k] = y at *
          subst he
          obtain ⟨xa, xh, xm, xv⟩ := x
          simp only at *
          clear hno
          go_wp2_with fail
          go_quiet (fail)
          go_wp2_with fail
          go_roundw
          case rel => exact ⟨k + 1, by omega, by go_num, below_dN hB nq, hno'⟩
          case measure => simp [intOf]; omega
        · have hne : Hid (¬ xs = ys) := fun h => he (by subst h; rfl)
          generalize xs[k] = x at *
          generalize ys[k] = y at *
          obtain ⟨xa, xh, xm, xv⟩ := x
          obtain ⟨ya, yh, ym, yv⟩ := y
          have hrun := run_neqTest xa ya xm ym xv yv xh yh he
          simp only at *
          clear hno
          go_wp2_with fail
          go_quiet (fail)
          go_wp2_with fail
          go_ret
          exact ⟨_, rfl, by simp [hne.out], below_dN hB nq⟩
      · obtain rfl : k = xs.length := by omega
        have he : Hid (xs = ys) := List.ext_getElem hl (fun j hj hj' => hno.out j hj hj' hj)
        clear hno
        go_wp2_with fail
        go_ret
        exact ⟨_, rfl, by simp [he.out], hB⟩
  · have hne : Hid (¬ xs = ys) := fun h => hl (by rw [h])
    subst hm0
    have hl' : ¬ (xs.length : Int) = (ys.length : Int) := by omega
    go_enter Try.func69, Try.ntmps69
    go_wp2_with fail
    go_ret
    exact ⟨_, rfl, by simp [hne.out], Below.refl _ _⟩
end Go.Proofs.Ytiepnnjodmkolaa
