/- The walks of the reference's Low, Both, Number. -/
import Derived.Test.YtiepnnjodmkolaaD5
import Derived.Test.YtiepnnjodmkolaaD6
import Derived.Test.YtiepnnjodmkolaaH0
namespace Go.Proofs.Ytiepnnjodmkolaa
open Go.RowKit Go.Shelf
set_option linter.unusedVariables false
set_option linter.unusedSimpArgs false

theorem leB_take (x : Int) (k : Nat) : leB x (k + 1) = leB x k ++ [sh x k % 256] := leB_snoc x k
theorem sh_div (x : Int) (k : Nat) : sh x k = x / 2 ^ (8 * k) := by
  induction k with
  | zero => simp [sh]
  | succ k ih =>
    rw [sh, ih, Int.ediv_ediv_of_nonneg (by apply Int.le_of_lt; exact Int.pow_pos (by decide)), show 8 * (k + 1) = 8 * k + 8 by omega, Int.pow_add]
    rfl
set_option maxRecDepth 100000 in
set_option maxHeartbeats 2000000 in
theorem c_low (x : Int) (n : Nat) (w : World) (hx : 0 ≤ x ∧ x < 18446744073709551616) (hn : n ≤ 8) :
    Calls Try.prog 76 #[.int .u64 x, .int .i64 (n : Int)] w fun e w' => ∃ v, e = .returned v ∧ (Kd.int .u8).Own 5 w' w.heap.size (fun q => w.heap.size ≤ q) v (leB x n) ∧ Below w.heap.size w w' := by
  obtain ⟨h0, h1⟩ := hx
  have H1 := Lib.hid h1
  clear h1
  go_enter Try.func76, Try.ntmps76
  go_wp2_with fail
  go_loopw [5, 6] (fun v i wr => ∃ (k : Nat) (zs : List Int), k ≤ n ∧ i = .int .i64 k ∧ Hid (zs = leB x k) ∧ zs.length ≤ k ∧ Below w.heap.size w wr ∧ (Kd.int .u8).Own 5 wr w.heap.size (fun q => w.heap.size ≤ q) v zs) (fun _ i _ => n - (intOf i).toNat)
  case atStart => exact ⟨0, [], Nat.zero_le _, rfl, rfl, Nat.zero_le _, Below.refl _ _, Kd.Own.nil _ _ _ _ _⟩
  case round =>
    obtain ⟨k, zs, hk, rfl, hzs, hzl, hB, hO⟩ := hrel
    obtain ⟨Av, cv, rfl, -, -⟩ := hO.form
    have hsz := hB.size
    by_cases hlt : k < n
    · have hb : 0 ≤ x / 2 ^ (8 * k) % 256 ∧ x / 2 ^ (8 * k) % 256 < 256 := ⟨Int.emod_nonneg _ (by decide), Int.emod_lt_of_pos _ (by decide)⟩
      have hrow := (own_row (Kd.Own.lit (d := Kd.int .u8) (w := wr) (ok := fun _ => True) (e := 5) (base := 0) (n := 1) (xs := [x / 2 ^ (8 * k) % 256]) (cells := [.int .u8 (x / 2 ^ (8 * k) % 256)]) rfl (Kd.Reps.single ⟨rfl, hb⟩) (Nat.zero_le _) (by unfold maxLen; simp) trivial)).2.2
      have hO3 := hO.al (.cells #[.int .u8 (x / 2 ^ (8 * k) % 256)] 5)
      have HO3 := Lib.hid hO3
      have HROW := Lib.hid hrow
      have HLE := Lib.hid hO.le
      have hzn : Hid (zs ++ [x / 2 ^ (8 * k) % 256] = leB x (k + 1)) := by rw [leB_snoc, hzs.out, sh_div]; exact rfl
      clear hO3 hrow hO hb
      go_wp2_with (at_builtin; refine wp_append_kd rfl _ _ 40 5 _ 1 rfl Try.underlying40 infoU8 rfl (.slice Av zs.length cv) zs (some ⟨wr.heap.size, 0, none⟩) 1 1 [x / 2 ^ (8 * k) % 256] rfl rfl HO3.out rfl HROW.out (fun _ _ h => h) (by unfold maxLen; omega) (by omega) (by simp; omega) (fun q hq => by simp at hq; omega) ?_; intro v1 w1 hO4 hg4 hat4)
      have hB4 : Below w.heap.size w w1 := (hB.alloc (by omega) _).grown hg4 (by simp; omega) (fun q hq => HLE.out q hq)
      go_roundw
      case rel => exact ⟨k + 1, _, by omega, by go_num, hzn, by rw [List.length_append]; simp; omega, hB4, hO4⟩
      case measure => simp [intOf]; omega
    · obtain rfl : k = n := by omega
      go_wp2_with fail
      go_ret
      exact ⟨_, rfl, by rw [← hzs.out]; exact hO, hB⟩
set_option maxRecDepth 100000 in
set_option maxHeartbeats 2000000 in
theorem c_both (A B : Option Addr) (xs ys : List Int) (c d : Nat) (ok ok' : Nat → Prop) (w : World) (hA : (Kd.int .u8).Row w ok A xs) (hB : (Kd.int .u8).Row w ok' B ys) (hx : xs.length ≤ 10000) (hy : ys.length ≤ 10000) :
    Calls Try.prog 75 #[.slice A xs.length c, .slice B ys.length d] w fun e w' => ∃ v, e = .returned v ∧ (Kd.int .u8).Own 5 w' w.heap.size (fun q => w.heap.size ≤ q) v (xs ++ ys) ∧ Below w.heap.size w w' := by
  have hO := own_empty (Kd.int .u8) 5 w w.heap.size (fun q => w.heap.size ≤ q) w.heap.size rfl (Nat.le_refl _) (Nat.le_refl _)
  have hA1 := hA.bel (below_al (Below.refl w.heap.size w) (.cells #[] 5))
  have HBW := Lib.hid hB
  clear hB hA
  go_enter Try.func75, Try.ntmps75
  have tok : True := trivial
  go_wp2_with (first
    | (at_builtin; clear tok; refine wp_append_kd rfl _ _ 40 5 _ 1 rfl Try.underlying40 infoU8 rfl (.slice (some ⟨w.heap.size, 0, none⟩) 0 0) [] A xs.length c xs rfl rfl hO rfl hA1 (fun _ _ h => h) (by unfold maxLen; simp; omega) (by simp; omega) (by simp) (fun q hq => by simp at hq; omega) ?_; intro v1 w1 hO1 hg1 hat1; rw [List.nil_append] at hO1; obtain ⟨A1, c1, rfl, -, -⟩ := hO1.form; have hBw1 : Below w.heap.size w w1 := ((Below.refl _ w).alloc (Nat.le_refl _) _).grown hg1 (by simp) (fun q hq => hO.le q hq); have hB1 := HBW.out.bel hBw1; clear hO hA1 hg1 hat1; have tok2 : True := trivial)
    | (at_builtin; clear tok2; refine wp_append_kd rfl _ _ 40 5 _ 1 rfl Try.underlying40 infoU8 rfl (.slice A1 xs.length c1) xs B ys.length d ys rfl rfl hO1 rfl hB1 (fun _ _ h => h) (by unfold maxLen; omega) (by omega) hBw1.size (fun q hq => by have := hBw1.size; omega) ?_; intro v2 w2 hO2 hg2 hat2; have hBw2 : Below w.heap.size w w2 := hBw1.grown hg2 hBw1.size (fun q hq => hO1.le q hq); have HO2 := Lib.hid hO2; clear hO2 hg2 hat2 hO1 hB1))
  go_ret
  exact ⟨_, rfl, HO2.out, hBw2⟩
set_option maxRecDepth 100000 in
set_option maxHeartbeats 2000000 in
theorem c_num (A : Option Addr) (xs : List Int) (c : Nat) (ok : Nat → Prop) (w : World) (hA : (Kd.int .u8).Row w ok A xs) (hx : xs.length ≤ 4) :
    Calls Try.prog 58 #[.slice A xs.length c] w fun e w' => e = .returned (.int .u64 (leN xs)) ∧ w = w' := by
  have HA := Lib.hid hA
  clear hA
  go_enter Try.func58, Try.ntmps58
  go_wp2_with fail
  go_loop [3, 4] (fun x i => ∃ (k : Nat) (y : Int), k ≤ xs.length ∧ i = .int .i64 ((k : Int) - 1) ∧ x = .int .u64 y ∧ Hid (y = leN (xs.drop k)) ∧ 0 ≤ y ∧ Hid (y < 256 ^ (xs.length - k))) (fun _ i => (intOf i + 1).toNat)
  case atStart => exact ⟨xs.length, 0, Nat.le_refl _, rfl, rfl, by rw [List.drop_length]; exact rfl, by decide, by rw [Nat.sub_self]; exact (by decide : (0 : Int) < 1)⟩
  case round =>
    obtain ⟨k, y, hk, rfl, rfl, hy, hy0, hyb⟩ := hrel
    cases k with
    | zero =>
      go_wp2_with fail
      go_ret
      exact ⟨ret_i (by rw [hy.out, List.drop_zero]), rfl⟩
    | succ k =>
      obtain ⟨ad, rfl, hok, hr, e0⟩ := Kd.int_at HA.out (i := k) (by omega)
      have hy2 : y < 16777216 := by
        have h := hyb.out
        have h3 : xs.length - (k + 1) ≤ 3 := by omega
        have hp : (256 : Int) ^ (xs.length - (k + 1)) ≤ 256 ^ 3 := by
          have : (256 : Nat) ^ (xs.length - (k + 1)) ≤ 256 ^ 3 := Nat.pow_le_pow_right (by decide) h3
          exact_mod_cast this
        have : (256 : Int) ^ 3 = 16777216 := by decide
        omega
      have hnew : Hid (y * 256 + xs[k] = leN (xs.drop k)) := by
        rw [List.drop_eq_getElem_cons (by omega : k < xs.length), leN, ← hy.out]
        show y * 256 + xs[k] = xs[k] + 256 * y
        omega
      have hnb : Hid (y * 256 + xs[k] < 256 ^ (xs.length - k)) := by
        have h := hyb.out
        have e : xs.length - k = (xs.length - (k + 1)) + 1 := by omega
        simp only [Kd.rng] at hr
        show y * 256 + xs[k] < 256 ^ (xs.length - k)
        rw [e, Int.pow_succ]
        omega
      simp only [Kd.rng] at hr
      obtain ⟨hr0, hr1⟩ := hr
      obtain ⟨b, hb⟩ : ∃ b, xs[k] = b := ⟨_, rfl⟩
      rw [hb] at hr0 hr1 e0 hnew hnb
      have hk1 : ((k + 1 : Nat) : Int) - 1 = (k : Int) := by omega
      have hkl : (k : Int) < (xs.length : Int) := by omega
      rw [hk1]
      clear hb hk1 hyb hy
      go_wp2_with fail
      go_round
      case rel => exact ⟨k, y * 256 + b, by omega, rfl, by go_num, hnew, by omega, hnb⟩
      case measure => simp [intOf]
end Go.Proofs.Ytiepnnjodmkolaa
