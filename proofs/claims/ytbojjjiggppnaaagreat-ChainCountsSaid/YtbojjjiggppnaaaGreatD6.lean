/- The walks of octet's reader: Read, Err, Left, look, number and U32 at numbers of four bytes. -/
import Derived.Test.YtbojjjiggppnaaaGreatD5
namespace Go.Proofs.YtbojjjiggppnaaaGreat
open Go.RowKit Go.Shelf
set_option linter.unusedVariables false
set_option linter.unusedSimpArgs false

/-- A reader in block b. -/
def rdO (A : Option Addr) (xs : List Int) (c f : Nat) : Obj := .cells #[.slice A xs.length c, .int .i64 f, .int .i64 0] 298
set_option maxRecDepth 100000 in
set_option maxHeartbeats 1000000 in
theorem c_read (A : Option Addr) (xs : List Int) (n c : Nat) (hn0 : n = xs.length) (ok : Nat → Prop) (w : World) (hC : (Kd.int .u8).Row w ok A xs) (hl : xs.length ≤ 10000) :
    Calls Tryz.prog 199 #[.slice A n c] w fun e w' => ∃ b A' c', e = .returned (.pointer (some ⟨b, 0, none⟩)) ∧ w.heap.size ≤ b ∧ w'.heap[b]? = some (rdO A' xs c' 0) ∧ (Kd.int .u8).Row w' (fun k => w.heap.size ≤ k ∧ k < b) A' xs ∧ Below w.heap.size w w' := by
  subst hn0
  have hcl := c_cloneU8 A xs c ok w hC (by omega)
  go_enter Tryz.func199, Tryz.ntmps199
  go_wp2_with (go_at_call 224; refine hcl.mono ?_; rintro e w' ⟨v, rfl, hO, hB⟩; obtain ⟨A', c', rfl, _, _⟩ := hO.form; obtain ⟨_, _, e2, _, _, r2⟩ := hO.K; simp only [List.cons.injEq, Value.slice.injEq, and_true] at e2; obtain ⟨rfl, _, rfl⟩ := e2)
  go_ret
  exact ⟨_, _, _, rfl, hB.size, blk_new _ _, r2.bound.bel (below_al (Below.refl _ _) _), below_al hB _⟩

theorem c_err (b : Nat) (A : Option Addr) (xs : List Int) (c f : Nat) (w : World) (hb : w.heap[b]? = some (rdO A xs c f)) :
    Calls Tryz.prog 260 #[.pointer (some ⟨b, 0, none⟩)] w fun e w' => e = .returned (.int .i64 0) ∧ w' = w := by
  unfold rdO at hb
  have k2 := blk_cell hb 2
  simp only [List.getElem?_toArray, List.getElem?_cons_zero, List.getElem?_cons_succ] at k2
  go_enter Tryz.func260, Tryz.ntmps260
  go_wp2_with fail
  go_ret
  exact ⟨rfl, rfl⟩
theorem c_left (b : Nat) (A : Option Addr) (xs : List Int) (c f : Nat) (w : World) (hb : w.heap[b]? = some (rdO A xs c f)) (hl : xs.length ≤ 10000) (hf : f ≤ xs.length) :
    Calls Tryz.prog 261 #[.pointer (some ⟨b, 0, none⟩)] w fun e w' => e = .returned (.int .i64 (xs.length - f)) ∧ Below w.heap.size w w' := by
  unfold rdO at hb
  have k0 := blk_cell hb 0
  have k1 := blk_cell hb 1
  simp only [List.getElem?_toArray, List.getElem?_cons_zero, List.getElem?_cons_succ] at k0 k1
  go_enter Tryz.func261, Tryz.ntmps261
  go_wp2_with fail
  go_quiet (fail)
  go_wp2_with fail
  go_ret
  refine ⟨ret_i ?_, below_dN (Below.refl _ _) _⟩
  go_num
theorem wrap_u64 {y : Int} (h : 0 ≤ y ∧ y < 18446744073709551616) : IntKind.u64.wrap y = y := by
  simp only [IntKind.wrap, IntKind.bits, IntKind.signed]
  simp
  omega
theorem wrap_i64D {y : Int} (h : -9223372036854775808 ≤ y ∧ y < 9223372036854775808) : IntKind.i64.wrap y = y := by
  simp only [IntKind.wrap, IntKind.bits, IntKind.signed]
  simp
  omega
theorem c_number1 (q : Nat) (x : Int) (i : Nat) (hi : i < 4) (hx : 0 ≤ x ∧ x < 256 ^ i) (v : Int) (hv : 0 ≤ v ∧ v < 256) (w : World) (hq : w.heap[q]? = some (.cells #[.int .u64 x] 24)) :
    Calls Tryz.prog 240 #[.int .i64 i, .int .u8 v, .pointer (some ⟨q, 0, none⟩)] w fun e w' => (∃ v, e = .returned v) ∧ w'.heap[q]? = some (.cells #[.int .u64 (x + v * 256 ^ i)] 24) ∧ Below q w w' := by
  have k0 := blk_cell hq 0
  have f0 := blk_free hq 0
  simp only [List.getElem?_toArray, List.getElem?_cons_zero, List.getElem?_cons_succ] at k0
  have hc : i = 0 ∨ i = 1 ∨ i = 2 ∨ i = 3 := by omega
  rcases hc with rfl | rfl | rfl | rfl
  all_goals
    have hx' : 0 ≤ x ∧ x < 16777216 := ⟨hx.1, by have := hx.2; revert this; simp <;> omega⟩
    clear hx
    go_enter Tryz.func240, Tryz.ntmps240
    go_wp2_with fail
    go_region
    go_wp2_with fail
    go_end0
    refine ⟨⟨_, rfl⟩, (blk_set (j := 0) hq _).trans (congrArg (fun y => some (Obj.cells #[Value.int .u64 y] 24)) ?_), below_d1 ((Below.refl _ _).setCell (p := ⟨q, 0, none⟩) (Nat.le_refl _) _)⟩
    simp

def leN : List Int → Int
  | [] => 0
  | b :: l => b + 256 * leN l
theorem leN_snoc (l : List Int) (b : Int) : leN (l ++ [b]) = leN l + b * 256 ^ l.length := by
  induction l with
  | nil => simp [leN]
  | cons a l ih => simp only [List.cons_append, leN, ih, List.length_cons, Int.pow_succ]; rw [Int.mul_add, ← Int.mul_assoc, Int.mul_comm 256 b, Int.mul_assoc, Int.mul_comm (256 ^ l.length) 256, Int.add_assoc]
theorem leN_rng (l : List Int) (h : ∀ b ∈ l, 0 ≤ b ∧ b < 256) : 0 ≤ leN l ∧ leN l < 256 ^ l.length := by
  induction l with
  | nil => simp [leN]
  | cons a l ih =>
    have ha := h a (by simp)
    have := ih (fun b hb => h b (by simp [hb]))
    simp only [leN, List.length_cons, Int.pow_succ]
    omega
/-- The first k bytes from f on. -/
def part (xs : List Int) (f k : Nat) : List Int := (xs.drop f).take k
theorem part_succ (xs : List Int) (f k : Nat) (h : f + k < xs.length) : part xs f (k + 1) = part xs f k ++ [xs[f + k]] := by
  unfold part
  rw [List.take_succ_eq_append_getElem (by rw [List.length_drop]; omega)]
  simp
theorem part_length (xs : List Int) (f k : Nat) (h : f + k ≤ xs.length) : (part xs f k).length = k := by
  unfold part
  rw [List.length_take, List.length_drop]
  omega
theorem row_rng {k : IntKind} {w : World} {ok : Nat → Prop} {A : Option Addr} {xs : List Int} (h : (Kd.int k).Row w ok A xs) : ∀ b ∈ xs, Kd.rng k b := by
  intro b hb
  obtain ⟨i, hi, rfl⟩ := List.mem_iff_getElem.1 hb
  obtain ⟨_, _, _, h, _⟩ := Kd.int_at h hi
  exact h
set_option maxRecDepth 100000 in
set_option maxHeartbeats 2000000 in
theorem c_look (b q : Nat) (hbq : b < q) (A : Option Addr) (xs : List Int) (c f : Nat) (w : World) (hb : w.heap[b]? = some (rdO A xs c f)) (hC : (Kd.int .u8).Row w (fun k => k < b) A xs) (hl : xs.length ≤ 10000) (hf : f + 4 ≤ xs.length) (hq : w.heap[q]? = some (.cells #[.int .u64 0] 24)) :
    Calls Tryz.prog 239 #[.pointer (some ⟨b, 0, none⟩), .int .i64 4, .func (.func 240) #[] #[.pointer (some ⟨q, 0, none⟩)]] w fun e w' => (∃ v, e = .returned v) ∧ w'.heap[q]? = some (.cells #[.int .u64 (leN (part xs f 4))] 24) ∧ w'.heap[b]? = some (rdO A xs c (f + 4 : Nat)) ∧ Below b w w' := by
  have eg := enters_of Tryz.func240 (by kernel_rfl) rfl
  go_enter Tryz.func239, Tryz.ntmps239
  go_wp2_with (first
    | (go_at_call 260; refine (c_err b A xs c f _ hb).mono ?_; rintro e w' ⟨rfl, rfl⟩)
    | (go_at_call 261; refine (c_left b A xs c f _ hb hl (by omega)).mono ?_; rintro e w1 ⟨rfl, hB1⟩))
  have hBq1 : Below q w1 w1 := Below.refl _ _
  have hq1 := blk_bel hB1 hq
  have hb1 := blk_bel hB1 hb
  have hC1 := hC.bel hB1
  have HRNG := Lib.hid (row_rng hC)
  have HB0 := Lib.hid hb
  clear hq hb hC
  unfold rdO at hb1
  go_loopw [6, 23] (fun _ i wr => ∃ (k : Nat) (x : Int), k ≤ 4 ∧ i = .int .i64 k ∧ Hid (x = leN (part xs f k)) ∧ wr.heap[q]? = some (.cells #[.int .u64 x] 24) ∧ Below q w1 wr) (fun _ i _ => 4 - (intOf i).toNat)
  case atStart => exact ⟨0, 0, by omega, rfl, rfl, hq1, hBq1⟩
  case round =>
    obtain ⟨k, x, hk, rfl, hx, hqr, hB⟩ := hrel
    by_cases hlt : k < 4
    · have hbr := (hB.block b hbq).trans hb1
      have k0 := blk_cell hbr 0
      have k1 := blk_cell hbr 1
      simp only [List.getElem?_toArray, List.getElem?_cons_zero, List.getElem?_cons_succ] at k0 k1
      obtain ⟨ad, rfl, hok, hrg, hcx⟩ := Kd.int_at (hC1.move (fun k hk _ => hB.block k (Nat.lt_trans hk hbq))) (i := f + k) (by omega)
      have hstep : Hid (x + xs[f + k] * 256 ^ k = leN (part xs f (k + 1))) := by
        rw [part_succ xs f k (by omega), leN_snoc, part_length xs f k (by omega), ← hx.out]
        exact rfl
      have hxr : 0 ≤ x ∧ x < 256 ^ k := by
        have := leN_rng (part xs f k) (fun b hb => HRNG.out b (List.mem_of_mem_drop (List.mem_of_mem_take hb)))
        rwa [part_length xs f k (by omega), ← hx.out] at this
      generalize xs[f + k] = v at *
      have HC1 := Lib.hid hC1
      have HXR := Lib.hid hxr
      have HBR := Lib.hid hbr
      have HQR := Lib.hid hqr
      have HB := Lib.hid hB
      clear hC1 hxr hbr hqr
      have hsum : IntKind.i64.wrap ((f : Int) + k) = ((f + k : Nat) : Int) := by rw [wrap_i64D (by omega)]; omega
      have hj0 : (0 : Int) ≤ ((f + k : Nat) : Int) := by omega
      have hj1 : ((f + k : Nat) : Int) < (xs.length : Int) := by omega
      generalize f + k = j at *
      have hv2 : 0 ≤ v ∧ v < 256 := hrg
      have hc2 := c_number1 q x k hlt HXR.out v hv2 wr.drew HQR.out
      go_wp2_with fail
      go_region_held3 (fun w' => w'.cell? ⟨b, 0, none⟩ = some (.slice (some ad) xs.length c) ∧ w'.cell? ⟨b, 1, none⟩ = some (.int .i64 f) ∧ w'.cell? (ad.add j) = some (.int .u8 v))
        (first | exact ⟨k0, k1, hcx⟩ | exact ⟨m0, m1, m2⟩)
        (first
        | (go_at_call 240; (with_reducible refine hc2.mono ?_); rintro e w2 ⟨⟨_, rfl⟩, hq2, hB2'⟩; have hB2 : Below q wr w2 := undrew hB2'; have m0 := (hB2.cell (p := ⟨b, 0, none⟩) hbq).trans k0; have m1 := (hB2.cell (p := ⟨b, 1, none⟩) hbq).trans k1; have m2 := (hB2.cell (p := ad.add j) (by rw [Kd.add_block]; omega)).trans hcx; clear hB2'))
      have HQ2 := Lib.hid hq2
      have HB2 := Lib.hid hB2
      clear hq2 hB2 m0 m1 m2 k0 k1 hcx hsum hc2
      go_wp2_with fail
      go_roundw
      case rel => exact ⟨k + 1, _, by omega, by go_num, hstep, HQ2.out, HB.out.trans HB2.out⟩
      case measure => simp [intOf]; omega
    · obtain rfl : k = 4 := by omega
      have hbr := (hB.block b hbq).trans hb1
      have k1 := blk_cell hbr 1
      have f1 := blk_free hbr 1
      simp only [List.getElem?_toArray, List.getElem?_cons_zero, List.getElem?_cons_succ] at k1
      go_wp2_with fail
      go_end0
      refine ⟨⟨_, rfl⟩, ?_, ?_, ?_⟩
      · rw [← hx.out]
        exact blk_far hqr (by simp; omega) _
      · refine (blk_set (j := 1) hbr _).trans ?_
        rfl
      · have hb0 := blk_lt HB0.out
        have h : Below b w' wr := (hB1.mono (by omega)).trans (hB.mono (by omega))
        exact h.setCell (p := ⟨b, 1, none⟩) (Nat.le_refl _) _
end Go.Proofs.YtbojjjiggppnaaaGreat
