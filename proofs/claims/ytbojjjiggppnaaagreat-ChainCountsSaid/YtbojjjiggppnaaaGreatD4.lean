/- The walks of octet.Put and of slices.Clone at bytes. -/
import Derived.Test.YtbojjjiggppnaaaGreatD3
import Derived.Test.YtbojjjiggppnaaaGreatBA
namespace Go.Proofs.YtbojjjiggppnaaaGreat
open Go.RowKit Go.Shelf
set_option linter.unusedVariables false
set_option linter.unusedSimpArgs false

theorem infoU8 : (Tryz.prog.info? 5).map (fun i => (i.zero, i.size, i.bytes)) = some (some (.int .u8 0), 1, 1) := by kernel_rfl
set_option maxRecDepth 100000 in
set_option maxHeartbeats 1000000 in
theorem c_cloneU8 (A : Option Addr) (xs : List Int) (c : Nat) (ok : Nat → Prop) (w : World) (hC : (Kd.int .u8).Row w ok A xs) (hl : xs.length ≤ 100000) :
    Calls Tryz.prog 224 #[.slice A xs.length c] w fun e w' => ∃ v, e = .returned v ∧ (Kd.int .u8).Own 5 w' w.heap.size (fun k => w.heap.size ≤ k) v xs ∧ Below w.heap.size w w' := by
  have hnil := fun (w : World) (a : Option Addr) (n c : Nat) => Lib.run_eql_slice_nil (P := Tryz.prog) w 112 5 a n c 0 0 Tryz.underlying112
  cases A with
  | none =>
    have h0 : xs = [] := by
      cases xs with
      | nil => rfl
      | cons y ys => obtain ⟨ad, cs, e, _⟩ := hC.2 0 y rfl; cases e
    subst h0
    go_enter Tryz.func224, Tryz.ntmps224
    go_wp2_with fail
    go_ret
    exact ⟨_, rfl, Kd.Own.nil _ _ _ _ _, Below.refl _ _⟩
  | some ad =>
    have hO : (Kd.int .u8).Own 5 (w.alloc (.cells #[] 5)) w.heap.size (fun k => w.heap.size ≤ k) (.slice (some ⟨w.heap.size, 0, none⟩) 0 0) [] := Kd.Own.lit (d := Kd.int .u8) (cells := []) rfl rfl (Nat.le_refl _) (by simp) (Nat.le_refl _)
    have hC' := hC.bel (below_al (Below.refl _ _) (.cells #[] 5))
    go_enter Tryz.func224, Tryz.ntmps224
    go_wp2_with (at_builtin; refine wp_append_kd rfl _ _ 112 5 _ 1 rfl Tryz.underlying112 infoU8 rfl (.slice (some ⟨w.heap.size, 0, none⟩) 0 0) [] (some ad) xs.length c xs rfl rfl hO rfl hC' (fun _ _ h => h) (by unfold maxLen; simp; omega) (by simp; omega) (by simp) (fun q hq => by simp at hq; omega) ?_; intro v1 w1 hO1 hg1 hat1)
    go_ret
    exact ⟨_, rfl, by simpa using hO1, ((Below.refl _ w).alloc (Nat.le_refl _) _).grown hg1 (by simp) (fun q hq => by have := hO.le q hq; omega)⟩

def leB (x : Int) : Nat → List Int
  | 0 => []
  | n + 1 => x % 256 :: leB (x / 256) n
theorem leB_length (x : Int) (n : Nat) : (leB x n).length = n := by
  induction n generalizing x with
  | zero => rfl
  | succ n ih => simp [leB, ih]
/-- x, n times divided. -/
def sh (x : Int) : Nat → Int
  | 0 => x
  | n + 1 => sh x n / 256
theorem sh_rng {x : Int} (h : 0 ≤ x ∧ x < 18446744073709551616) (n : Nat) : 0 ≤ sh x n ∧ sh x n < 18446744073709551616 := by
  induction n with
  | zero => exact h
  | succ n ih => simp only [sh]; omega
theorem sh_succ (x : Int) (n : Nat) : sh (x / 256) n = sh x (n + 1) := by
  induction n with
  | zero => rfl
  | succ n ih => simp only [sh] at *; rw [ih]
theorem leB_snoc (x : Int) (n : Nat) : leB x (n + 1) = leB x n ++ [sh x n % 256] := by
  induction n generalizing x with
  | zero => rfl
  | succ n ih =>
    rw [leB, ih, sh_succ]
    rfl
set_option maxRecDepth 100000 in
set_option maxHeartbeats 1000000 in
theorem c_put8 (A : Option Addr) (xs : List Int) (c n : Nat) (x : Int) (ok : Nat → Prop) (w : World) (hC : (Kd.int .u8).Row w ok A xs) (hl : xs.length ≤ 10000) (hn : n ≤ 8) (hx : 0 ≤ x ∧ x < 18446744073709551616) :
    Calls Tryz.prog 226 #[.slice A xs.length c, .int .u64 x, .int .i64 n] w fun e w' => ∃ v, e = .returned v ∧ (Kd.int .u8).Own 5 w' w.heap.size (fun k => w.heap.size ≤ k) v (xs ++ leB x n) ∧ Below w.heap.size w w' := by
  have hcl := c_cloneU8 A xs c ok w hC (by omega)
  go_enter Tryz.func226, Tryz.ntmps226
  go_wp2_with (go_at_call 224; refine hcl.mono ?_; rintro e w' ⟨v, rfl, hO, hB⟩)
  go_loopw [1, 7, 11] (fun xv v i wr => ∃ (k : Nat) (zs : List Int) (y : Int), k ≤ n ∧ i = .int .i64 k ∧ xv = .int .u64 y ∧ (0 ≤ y ∧ y < 18446744073709551616) ∧ Hid (y = sh x k) ∧ Hid (zs = xs ++ leB x k) ∧ zs.length = xs.length + k ∧ Below w.heap.size w wr ∧ (Kd.int .u8).Own 5 wr w.heap.size (fun k => w.heap.size ≤ k) v zs) (fun _ _ i _ => n - (intOf i).toNat)
  case atStart => exact ⟨0, xs, x, Nat.zero_le _, rfl, rfl, hx, rfl, by simp [leB, Hid], by simp, hB, hO⟩
  case round =>
    obtain ⟨k, zs, y, hk, rfl, rfl, hy, hyx, hzs, hzl0, hB2, hO2⟩ := hrel
    have HZL := Lib.hid hzl0
    have hzl : zs.length ≤ 10008 := by omega
    have HLE := Lib.hid hO2.le
    clear hzl0
    have hsz := hB2.size
    obtain ⟨Av, cv, rfl, _, _⟩ := hO2.form
    by_cases hlt : k < n
    · have hzn : Hid (zs ++ [y % 256] = xs ++ leB x (k + 1)) := by rw [leB_snoc, hzs.out, hyx.out, List.append_assoc]; exact rfl
      have hrow : (Kd.int .u8).Row (wr.alloc (.cells #[.int .u8 (y % 256)] 5)) (fun _ => True) (some ⟨wr.heap.size, 0, none⟩) [y % 256] := by
        have h := (Kd.Own.lit (d := Kd.int .u8) (w := wr) (ok := fun _ => True) (e := 5) (base := 0) (n := 1) (xs := [y % 256]) (cells := [.int .u8 (y % 256)]) rfl (Kd.Reps.single ⟨rfl, by show (0 : Int) ≤ y % 256 ∧ y % 256 < 256; omega⟩) (Nat.zero_le _) (by unfold maxLen; simp) trivial).K
        obtain ⟨A', c', e1, _, _, h⟩ := h
        simp only [List.cons.injEq, Value.slice.injEq, and_true] at e1
        rw [e1.1]
        exact h
      have hO3 := hO2.al (.cells #[.int .u8 (y % 256)] 5)
      go_wp2_with (at_builtin; refine wp_append_kd rfl _ _ 112 5 _ 1 rfl Tryz.underlying112 infoU8 rfl (.slice Av zs.length cv) zs (some ⟨wr.heap.size, 0, none⟩) 1 1 [y % 256] rfl rfl hO3 rfl hrow (fun _ _ h => h) (by unfold maxLen; omega) (by omega) (by simp; omega) (fun q hq => by simp at hq; omega) ?_; intro v1 w1 hO4 hg4 hat4; clear hO3 hO2 hrow)
      have hB4 : Below w.heap.size w w1 := (hB2.alloc (by omega) _).grown hg4 (by simp; omega) (fun q hq => HLE.out q hq)
      go_roundw
      case rel => exact ⟨k + 1, _, _, by omega, by go_num, rfl, by omega, by rw [hyx.out]; exact rfl, hzn, by rw [List.length_append, HZL.out]; simp; omega, hB4, hO4⟩
      case measure => simp [intOf]; omega
    · obtain rfl : k = n := by omega
      go_wp2_with fail
      go_ret
      exact ⟨_, rfl, by rw [← hzs.out]; exact hO2, hB2⟩
end Go.Proofs.YtbojjjiggppnaaaGreat
