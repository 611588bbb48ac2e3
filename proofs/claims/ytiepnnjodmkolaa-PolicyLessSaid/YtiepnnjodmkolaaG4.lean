/- slices.Index and Contains at numbers. -/
import Derived.Test.YtiepnnjodmkolaaF1
namespace Go.Proofs.Ytiepnnjodmkolaa
open Go.RowKit Go.Shelf
set_option linter.unusedVariables false
set_option linter.unusedSimpArgs false

set_option maxHeartbeats 1000000 in
theorem c_idx (A : Option Addr) (xs : List Int) (n c : Nat) (v : Int) (ok : Nat → Prop) (w : World) (hC : (Kd.int .u32).Row w ok A xs) (hn0 : n = xs.length) :
    Calls Try.prog 55 #[.slice A n c, .int .u32 v] w fun e w' => e = .returned (.int .i64 (findI (fun y => v == y) xs)) ∧ Below w.heap.size w w' := by
  subst hn0
  have hn := hC.1
  go_enter Try.func55, Try.ntmps55
  go_wp2_with fail
  go_loopw [5, 8] (fun _ i wr => ∃ k : Nat, k ≤ xs.length ∧ i = .int .i64 k ∧ Below w.heap.size w wr ∧ Hid (∀ j (hj : j < xs.length), j < k → (v == xs[j]) = false)) (fun _ i _ => xs.length - (intOf i).toNat)
  case atStart => exact ⟨0, Nat.zero_le _, rfl, Below.refl _ _, fun j _ hj => absurd hj (Nat.not_lt_zero _)⟩
  case round =>
    obtain ⟨k, hk, rfl, hB, hno⟩ := hrel
    by_cases hlt : k < xs.length
    · obtain ⟨ad, rfl, hok, hwf, c0⟩ := Kd.int_at (hC.bel hB) hlt
      have HNO := hno
      by_cases hpk : (v == xs[k]) = true
      · have hf := findI_at (p := fun y => v == y) hlt (fun j hj => hno.out j (by omega) hj) hpk
        have HF := Lib.hid hf
        clear hf hno
        generalize xs[k] = y at *
        go_wp2_with fail
        go_ret
        exact ⟨ret_i HF.out.symm, hB⟩
      · have hpk' : (v == xs[k]) = false := by simpa using hpk
        have hno' : Hid (∀ j (hj : j < xs.length), j < k + 1 → (v == xs[j]) = false) := fun j hj hjk => by
          rcases Nat.lt_succ_iff_lt_or_eq.1 hjk with h | rfl
          · exact hno.out j hj h
          · exact hpk'
        clear hpk hno HNO
        generalize xs[k] = y at *
        go_wp2_with fail
        go_roundw
        case rel => exact ⟨k + 1, by omega, by go_num, hB, hno'⟩
        case measure => simp [intOf]; omega
    · obtain rfl : k = xs.length := by omega
      have hf := findI_none (p := fun y => v == y) (xs := xs) (fun j hj => hno.out j hj hj)
      have HF := Lib.hid hf
      clear hf hno
      go_wp2_with fail
      go_ret
      exact ⟨ret_i HF.out.symm, hB⟩
set_option maxRecDepth 100000 in
theorem c_contains32 (A : Option Addr) (xs : List Int) (n c : Nat) (v : Int) (ok : Nat → Prop) (w : World) (hC : (Kd.int .u32).Row w ok A xs) (hn0 : n = xs.length) :
    Calls Try.prog 36 #[.slice A n c, .int .u32 v] w fun e w' => e = .returned (.bool (xs.any (fun y => v == y))) ∧ Below w.heap.size w w' := by
  have h := c_idx A xs n c v ok w hC hn0
  have hge := findI_ge (fun y => v == y) xs
  generalize findI (fun y => v == y) xs = f at *
  rw [← hge]
  clear hge hC hn0
  go_enter Try.func36, Try.ntmps36
  go_wp2_with (go_at_call 55; refine h.mono ?_; rintro e w1 ⟨rfl, hB⟩)
  go_ret
  exact ⟨rfl, hB⟩
/-- Does a test fail of a call? -/
def failsT (d : Data) (t : Test) : Bool := testBad t || (bits .and .u32 (wordB (encB d) (4 + 2 * t.arg.toNat + if t.high then 1 else 0)) t.mask != t.value)
set_option maxRecDepth 100000 in
set_option maxHeartbeats 2000000 in
theorem c_fails (d : Data) (hd : d.wf) (t : Test) (ht : t.wf) (w : World) : Calls Try.prog 35 #[d.agg, t.agg] w fun e w' => e = .returned (.bool (failsT d t)) ∧ Below w.heap.size w w' := by
  have ho := fun w h0 h6 => c_offset t w h0 h6
  have hw := fun (h0 : 0 ≤ t.arg) (h6 : t.arg < 6) w => c_word d hd (4 + 2 * t.arg.toNat + if t.high then 1 else 0) (by split <;> omega) (offs t) (by unfold offs; split <;> omega) w
  have hdef : failsT d t = (testBad t || (bits .and .u32 (wordB (encB d) (4 + 2 * t.arg.toNat + if t.high then 1 else 0)) t.mask != t.value)) := rfl
  generalize wordB (encB d) (4 + 2 * t.arg.toNat + if t.high then 1 else 0) = wi at *
  generalize offs t = o at *
  rw [hdef]
  clear hdef
  obtain ⟨nr, arch, ip, a0, a1, a2, a3, a4, a5⟩ := d
  obtain ⟨a, h, m, v⟩ := t
  unfold testBad
  unfold Data.agg Test.agg at *
  simp only at *
  clear hd ht
  by_cases hb : 0 ≤ a ∧ a < 6
  · have ho' := fun w => ho w hb.1 hb.2
    have hw' := fun w => hw hb.1 hb.2 w
    have e1 : decide (a < 0) = false := by simp; omega
    have e2 : decide (6 ≤ a) = false := by simp; omega
    have hb1 := hb.1
    have hb2 := hb.2
    have HO := Lib.hid ho'
    have HW := Lib.hid hw'
    simp only [ge_iff_le, e1, e2, Bool.false_or]
    clear ho hw ho' hw' hb
    go_enter Try.func35, Try.ntmps35
    go_wp2_with fail
    obtain ⟨n, hn⟩ : ∃ n, w.heap.size = n := ⟨_, rfl⟩
    have hD : ((w.alloc (.cells #[.int .u32 nr, .int .u32 arch, .int .u64 ip, .int .u64 a0, .int .u64 a1, .int .u64 a2, .int .u64 a3, .int .u64 a4, .int .u64 a5] 77)).alloc (.cells #[.int .i64 a, .bool h, .int .u32 m, .int .u32 v] 69)).heap[n]? = some (.cells #[.int .u32 nr, .int .u32 arch, .int .u64 ip, .int .u64 a0, .int .u64 a1, .int .u64 a2, .int .u64 a3, .int .u64 a4, .int .u64 a5] 77) := by rw [← hn]; exact blk_al (blk_new _ _) _
    have hT : ((w.alloc (.cells #[.int .u32 nr, .int .u32 arch, .int .u64 ip, .int .u64 a0, .int .u64 a1, .int .u64 a2, .int .u64 a3, .int .u64 a4, .int .u64 a5] 77)).alloc (.cells #[.int .i64 a, .bool h, .int .u32 m, .int .u32 v] 69)).heap[n + 1]? = some (.cells #[.int .i64 a, .bool h, .int .u32 m, .int .u32 v] 69) := by
      have h := blk_new (w.alloc (.cells #[.int .u32 nr, .int .u32 arch, .int .u64 ip, .int .u64 a0, .int .u64 a1, .int .u64 a2, .int .u64 a3, .int .u64 a4, .int .u64 a5] 77)) (.cells #[.int .i64 a, .bool h, .int .u32 m, .int .u32 v] 69)
      rwa [World.size_alloc, hn] at h
    have hB1 : Below w.heap.size w ((w.alloc (.cells #[.int .u32 nr, .int .u32 arch, .int .u64 ip, .int .u64 a0, .int .u64 a1, .int .u64 a2, .int .u64 a3, .int .u64 a4, .int .u64 a5] 77)).alloc (.cells #[.int .i64 a, .bool h, .int .u32 m, .int .u32 v] 69)) := below_al (below_al (Below.refl _ _) _) _
    simp only [hn]
    generalize ((w.alloc (.cells #[.int .u32 nr, .int .u32 arch, .int .u64 ip, .int .u64 a0, .int .u64 a1, .int .u64 a2, .int .u64 a3, .int .u64 a4, .int .u64 a5] 77)).alloc (.cells #[.int .i64 a, .bool h, .int .u32 m, .int .u32 v] 69)) = W1 at *
    have d0 : W1.cell? ⟨n, 0, none⟩ = some (.int .u32 nr) := blk_cell hD 0
    have d1 : W1.cell? ⟨n, 1, none⟩ = some (.int .u32 arch) := blk_cell hD 1
    have d2 : W1.cell? ⟨n, 2, none⟩ = some (.int .u64 ip) := blk_cell hD 2
    have d3 : W1.cell? ⟨n, 3, none⟩ = some (.int .u64 a0) := blk_cell hD 3
    have d4 : W1.cell? ⟨n, 4, none⟩ = some (.int .u64 a1) := blk_cell hD 4
    have d5 : W1.cell? ⟨n, 5, none⟩ = some (.int .u64 a2) := blk_cell hD 5
    have d6 : W1.cell? ⟨n, 6, none⟩ = some (.int .u64 a3) := blk_cell hD 6
    have d7 : W1.cell? ⟨n, 7, none⟩ = some (.int .u64 a4) := blk_cell hD 7
    have d8 : W1.cell? ⟨n, 8, none⟩ = some (.int .u64 a5) := blk_cell hD 8
    have t0 : W1.cell? ⟨n + 1, 0, none⟩ = some (.int .i64 a) := blk_cell hT 0
    have t1 : W1.cell? ⟨n + 1, 1, none⟩ = some (.bool h) := blk_cell hT 1
    have t2 : W1.cell? ⟨n + 1, 2, none⟩ = some (.int .u32 m) := blk_cell hT 2
    have t3 : W1.cell? ⟨n + 1, 3, none⟩ = some (.int .u32 v) := blk_cell hT 3
    have SB : ∀ w', Below W1.heap.size W1 w' → (w'.cell? ⟨n, 0, none⟩ = some (.int .u32 nr) ∧ w'.cell? ⟨n, 1, none⟩ = some (.int .u32 arch) ∧ w'.cell? ⟨n, 2, none⟩ = some (.int .u64 ip) ∧ w'.cell? ⟨n, 3, none⟩ = some (.int .u64 a0) ∧ w'.cell? ⟨n, 4, none⟩ = some (.int .u64 a1) ∧ w'.cell? ⟨n, 5, none⟩ = some (.int .u64 a2) ∧ w'.cell? ⟨n, 6, none⟩ = some (.int .u64 a3) ∧ w'.cell? ⟨n, 7, none⟩ = some (.int .u64 a4) ∧ w'.cell? ⟨n, 8, none⟩ = some (.int .u64 a5) ∧ w'.cell? ⟨n + 1, 0, none⟩ = some (.int .i64 a) ∧ w'.cell? ⟨n + 1, 1, none⟩ = some (.bool h) ∧ w'.cell? ⟨n + 1, 2, none⟩ = some (.int .u32 m) ∧ w'.cell? ⟨n + 1, 3, none⟩ = some (.int .u32 v)) := fun w' h => ⟨cell_bel h d0, cell_bel h d1, cell_bel h d2, cell_bel h d3, cell_bel h d4, cell_bel h d5, cell_bel h d6, cell_bel h d7, cell_bel h d8, cell_bel h t0, cell_bel h t1, cell_bel h t2, cell_bel h t3⟩
    have HSB := Lib.hid SB
    have HB1 := Lib.hid hB1
    clear SB hB1 hD hT hn
    go_region_held3 (fun w' => w'.cell? ⟨n, 0, none⟩ = some (.int .u32 nr) ∧ w'.cell? ⟨n, 1, none⟩ = some (.int .u32 arch) ∧ w'.cell? ⟨n, 2, none⟩ = some (.int .u64 ip) ∧ w'.cell? ⟨n, 3, none⟩ = some (.int .u64 a0) ∧ w'.cell? ⟨n, 4, none⟩ = some (.int .u64 a1) ∧ w'.cell? ⟨n, 5, none⟩ = some (.int .u64 a2) ∧ w'.cell? ⟨n, 6, none⟩ = some (.int .u64 a3) ∧ w'.cell? ⟨n, 7, none⟩ = some (.int .u64 a4) ∧ w'.cell? ⟨n, 8, none⟩ = some (.int .u64 a5) ∧ w'.cell? ⟨n + 1, 0, none⟩ = some (.int .i64 a) ∧ w'.cell? ⟨n + 1, 1, none⟩ = some (.bool h) ∧ w'.cell? ⟨n + 1, 2, none⟩ = some (.int .u32 m) ∧ w'.cell? ⟨n + 1, 3, none⟩ = some (.int .u32 v))
      (first | exact HSB.out _ hB3 | exact HSB.out _ hB2 | exact HSB.out _ (below_d1 (Below.refl _ _)) | exact HSB.out _ (Below.refl _ _))
      (first
      | (go_at_call 54; (with_reducible refine (HO.out _).mono ?_); rintro e w2 ⟨rfl, hB2'⟩; have hB2 : Below W1.heap.size W1 w2 := undrew hB2')
      | (go_at_call 53; (with_reducible refine (HW.out _).mono ?_); rintro e w3 ⟨rfl, hB3'⟩; have hB3 : Below W1.heap.size W1 w3 := below_tr hB2 hB3'))
    all_goals
      have HF := Lib.hid (HB1.out.trans (hB3.mono HB1.out.size))
      have hq2 : w3.cell? ⟨n + 1, 2, none⟩ = some (.int .u32 m) := cell_bel hB3 t2
      have hq3 : w3.cell? ⟨n + 1, 3, none⟩ = some (.int .u32 v) := cell_bel hB3 t3
      clear d0 d1 d2 d3 d4 d5 d6 d7 d8 t0 t1 t2 t3 hB3' hB2' hB2 hB3
      go_wp2_with fail
      go_ret
      exact ⟨rfl, HF.out⟩
  · have e1 : (decide (a < 0) || decide (a ≥ 6)) = true := by simp; omega
    rw [e1, Bool.true_or]
    have hb' : a < 0 ∨ 6 ≤ a := by omega
    clear ho hw hb e1
    rcases hb' with hb | hb
    all_goals
      go_enter Try.func35, Try.ntmps35
      go_wp2_with fail
      go_ret
      exact ⟨rfl, below_al (below_al (Below.refl _ _) _) _⟩
end Go.Proofs.Ytiepnnjodmkolaa
