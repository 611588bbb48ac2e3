/- The walks of octet.Put16, Put32, Put64 and data.Encode. -/
import Derived.Test.YtbojjjiggppnaaaGreatD4
import Derived.Deep.RegionHeld3
namespace Go.Proofs.YtbojjjiggppnaaaGreat
open Go.RowKit Go.Shelf
set_option linter.unusedVariables false
set_option linter.unusedSimpArgs false

/-- Bytes in memory of their own. -/
def Bytes (w0 : World) (xs : List Int) (e : Ending) (w' : World) : Prop := ∃ v, e = .returned v ∧ (Kd.int .u8).Own 5 w' w0.heap.size (fun k => w0.heap.size ≤ k) v xs ∧ Below w0.heap.size w0 w'
theorem c_put8' (A : Option Addr) (xs : List Int) (c : Nat) (n : Int) (m : Nat) (hnm : n = m) (x : Int) (ok : Nat → Prop) (w : World) (hC : (Kd.int .u8).Row w ok A xs) (hl : xs.length ≤ 10000) (hn : m ≤ 8) (hx : 0 ≤ x ∧ x < 18446744073709551616) :
    Calls Tryz.prog 226 #[.slice A xs.length c, .int .u64 x, .int .i64 n] w (Bytes w (xs ++ leB x m)) := by
  subst hnm
  exact c_put8 A xs c m x ok w hC hl hn hx
set_option maxRecDepth 100000 in
set_option maxHeartbeats 1000000 in
theorem c_put16 (A : Option Addr) (xs : List Int) (n c : Nat) (hn0 : n = xs.length) (x : Int) (ok : Nat → Prop) (w : World) (hC : (Kd.int .u8).Row w ok A xs) (hl : xs.length ≤ 10000) (hx : 0 ≤ x ∧ x < 65536) :
    Calls Tryz.prog 205 #[.slice A n c, .int .u16 x] w (Bytes w (xs ++ leB x 2)) := by
  subst hn0
  have h := c_put8' A xs c 2 2 rfl x ok w hC hl (by decide) (by omega)
  go_enter Tryz.func205, Tryz.ntmps205
  go_wp2_with (go_at_call 226; refine h.mono ?_; rintro e w' ⟨v, rfl, hO, hB⟩)
  go_ret
  exact ⟨v, rfl, hO, hB⟩
set_option maxRecDepth 100000 in
set_option maxHeartbeats 1000000 in
theorem c_put32 (A : Option Addr) (xs : List Int) (n c : Nat) (hn0 : n = xs.length) (x : Int) (ok : Nat → Prop) (w : World) (hC : (Kd.int .u8).Row w ok A xs) (hl : xs.length ≤ 10000) (hx : 0 ≤ x ∧ x < 4294967296) :
    Calls Tryz.prog 204 #[.slice A n c, .int .u32 x] w (Bytes w (xs ++ leB x 4)) := by
  subst hn0
  have h := c_put8' A xs c 4 4 rfl x ok w hC hl (by decide) (by omega)
  go_enter Tryz.func204, Tryz.ntmps204
  go_wp2_with (go_at_call 226; refine h.mono ?_; rintro e w' ⟨v, rfl, hO, hB⟩)
  go_ret
  exact ⟨v, rfl, hO, hB⟩
set_option maxRecDepth 100000 in
set_option maxHeartbeats 1000000 in
theorem c_put64 (A : Option Addr) (xs : List Int) (n c : Nat) (hn0 : n = xs.length) (x : Int) (ok : Nat → Prop) (w : World) (hC : (Kd.int .u8).Row w ok A xs) (hl : xs.length ≤ 10000) (hx : 0 ≤ x ∧ x < 18446744073709551616) :
    Calls Tryz.prog 276 #[.slice A n c, .int .u64 x] w (Bytes w (xs ++ leB x 8)) := by
  subst hn0
  have h := c_put8' A xs c 8 8 rfl x ok w hC hl (by decide) (by omega)
  go_enter Tryz.func276, Tryz.ntmps276
  go_wp2_with (go_at_call 226; refine h.mono ?_; rintro e w' ⟨v, rfl, hO, hB⟩)
  go_ret
  exact ⟨v, rfl, hO, hB⟩

def Data.args (d : Data) : List Int := [d.args0, d.args1, d.args2, d.args3, d.args4, d.args5]
def encK (d : Data) (k : Nat) : List Int := leB d.nr 4 ++ leB d.arch 4 ++ leB d.ip 8 ++ (d.args.take k).flatMap fun a => leB a 8
def encB (d : Data) : List Int := encK d 6
theorem encK_length (d : Data) (k : Nat) (hk : k ≤ 6) : (encK d k).length = 16 + 8 * k := by
  simp only [encK, List.length_append, leB_length, List.length_flatMap, List.map_const', List.sum_replicate_nat, List.length_take]
  have : d.args.length = 6 := rfl
  rw [this, Nat.min_eq_left hk]
  omega
theorem encK_succ (d : Data) (k : Nat) (hk : k < 6) : encK d (k + 1) = encK d k ++ leB (d.args[k]'(by exact hk)) 8 := by
  unfold encK
  rw [List.take_succ_eq_append_getElem (by exact hk)]
  simp only [List.flatMap_append, List.flatMap_cons, List.flatMap_nil, List.append_nil, List.append_assoc]
set_option maxRecDepth 100000 in
set_option maxHeartbeats 2000000 in
theorem c_encode (d : Data) (w : World) (hd : d.wf) : Calls Tryz.prog 270 #[d.agg] w (Bytes w (encB d)) := by
  obtain ⟨nr, arch, ip, a0, a1, a2, a3, a4, a5⟩ := d
  obtain ⟨h0, h1, h2, h3, h4, h5, h6, h7, h8⟩ := hd
  simp only [Kd.rng] at h0 h1 h2 h3 h4 h5 h6 h7 h8
  unfold Data.agg
  simp only
  go_enter Tryz.func270, Tryz.ntmps270
  go_wp2_with fail
  generalize hW1 : (w.alloc (.cells #[.int .u32 nr, .int .u32 arch, .int .u64 ip, .int .u64 a0, .int .u64 a1, .int .u64 a2, .int .u64 a3, .int .u64 a4, .int .u64 a5] 27)) = W1
  have hBW1 : Below w.heap.size w W1 := by rw [← hW1]; exact below_al (Below.refl _ _) _
  have hR1 : W1.heap[w.heap.size]? = some (.cells #[.int .u32 nr, .int .u32 arch, .int .u64 ip, .int .u64 a0, .int .u64 a1, .int .u64 a2, .int .u64 a3, .int .u64 a4, .int .u64 a5] 27) := by rw [← hW1]; exact blk_new _ _
  have k0 := blk_cell hR1 0
  have k1 := blk_cell hR1 1
  have k2 := blk_cell hR1 2
  simp only [List.getElem?_toArray, List.getElem?_cons_zero, List.getElem?_cons_succ] at k0 k1 k2
  have HR1 := Lib.hid hR1
  have HD0 := Lib.hid (encK_length ⟨nr, arch, ip, a0, a1, a2, a3, a4, a5⟩)
  clear hW1 hR1
  go_region_held3 (fun w' => w'.cell? ⟨w.heap.size, 0, none⟩ = some (.int .u32 nr) ∧ w'.cell? ⟨w.heap.size, 1, none⟩ = some (.int .u32 arch) ∧ w'.cell? ⟨w.heap.size, 2, none⟩ = some (.int .u64 ip))
    (first | exact ⟨k0, k1, k2⟩ | exact ⟨m0, m1, m2⟩ | exact ⟨n0, n1, n2⟩ | exact ⟨p0, p1, p2⟩)
    (first
    | (go_at_call 204; (with_reducible refine (c_put32 none [] 0 0 rfl nr (fun _ => True) _ (Kd.Row.nil _ _ _ _) (by simp) h0).mono ?_); rintro e w2 ⟨v2, rfl, hO2, hB2'⟩; have hB2 : Below W1.heap.size W1 w2 := undrew hB2'; have m0 := cell_bel hB2 k0; have m1 := cell_bel hB2 k1; have m2 := cell_bel hB2 k2; generalize hz2 : [] ++ leB nr 4 = z2 at hO2; have HZ2 := Lib.hid hz2; have l2 : z2.length ≤ 10 := (by rw [← hz2]; simp [leB_length]); clear hz2 hB2'; obtain ⟨A2, c2, rfl, _, _⟩ := hO2.form; obtain ⟨_, _, e2, _, _, r2⟩ := hO2.K; simp only [List.cons.injEq, Value.slice.injEq, and_true] at e2; obtain ⟨rfl, _, rfl⟩ := e2)
    | (go_at_call 204; (with_reducible refine (c_put32 A2 z2 _ c2 rfl arch _ _ r2 (by omega) h1).mono ?_); rintro e w3 ⟨v3, rfl, hO3, hB3⟩; have n0 := cell_bel hB3 m0; have n1 := cell_bel hB3 m1; have n2 := cell_bel hB3 m2; generalize hz3 : z2 ++ leB arch 4 = z3 at hO3; have HZ3 := Lib.hid hz3; have l3 : z3.length ≤ 20 := (by rw [← hz3]; simp [leB_length]; omega); clear hz3; obtain ⟨A3, c3, rfl, _, _⟩ := hO3.form; obtain ⟨_, _, e3, _, _, r3⟩ := hO3.K; simp only [List.cons.injEq, Value.slice.injEq, and_true] at e3; obtain ⟨rfl, _, rfl⟩ := e3)
    | (go_at_call 276; (with_reducible refine (c_put64 A3 z3 _ c3 rfl ip _ _ r3 (by omega) h2).mono ?_); rintro e w4 ⟨v4, rfl, hO4, hB4⟩; have p0 := cell_bel hB4 n0; have p1 := cell_bel hB4 n1; have p2 := cell_bel hB4 n2))
  have hB14 : Below W1.heap.size W1 w4 := below_tr (below_tr hB2 hB3) hB4
  have hBw4 : Below w.heap.size w w4 := hBW1.trans (hB14.mono hBW1.size)
  have hR4 := blk_bel hB14 HR1.out
  have hz4 : z3 ++ leB ip 8 = encK ⟨nr, arch, ip, a0, a1, a2, a3, a4, a5⟩ 0 := by
    rw [← HZ3.out, ← HZ2.out]
    simp [encK]
  rw [hz4] at hO4
  have hO5 : (Kd.int .u8).Own 5 w4 w.heap.size (fun k => w.heap.size ≤ k) v4 (encK ⟨nr, arch, ip, a0, a1, a2, a3, a4, a5⟩ 0) := by
    obtain ⟨cells, h1, h2, h3⟩ := hO4
    have hw3 : w.heap.size ≤ w3.heap.size := Nat.le_trans hBW1.size (below_tr hB2 hB3).size
    refine ⟨cells, ⟨h1.1, ?_⟩, h2, fun k hk => Nat.le_trans hw3 (h3 k hk)⟩
    rcases h1.2 with h | ⟨g, cap, cur, e1, e2, e3⟩
    · exact .inl h
    · exact .inr ⟨g, cap, cur, e1, Nat.le_trans hw3 e2, e3⟩
  have q3 := blk_cell hR4 3
  have q4 := blk_cell hR4 4
  have q5 := blk_cell hR4 5
  have q6 := blk_cell hR4 6
  have q7 := blk_cell hR4 7
  have q8 := blk_cell hR4 8
  simp only [List.getElem?_toArray, List.getElem?_cons_zero, List.getElem?_cons_succ] at q3 q4 q5 q6 q7 q8
  clear hO4 hz4 hB14 hR4 k0 k1 k2 m0 m1 m2 n0 n1 n2 p0 p1 p2 hO3 hO2 r2 r3 hBW1 hB2 hB3 hB4 l2 l3
  go_wp2_with fail
  clear q3 q4 q5 q6 q7 q8
  have i0 : ∀ w, (Instr.index 25 (.agg #[.int .u64 a0, .int .u64 a1, .int .u64 a2, .int .u64 a3, .int .u64 a4, .int .u64 a5]) (.int .i64 0)).run Tryz.prog w = .ok (.int .u64 a0) w := fun _ => by kernel_rfl
  have i1 : ∀ w, (Instr.index 25 (.agg #[.int .u64 a0, .int .u64 a1, .int .u64 a2, .int .u64 a3, .int .u64 a4, .int .u64 a5]) (.int .i64 1)).run Tryz.prog w = .ok (.int .u64 a1) w := fun _ => by kernel_rfl
  have i2 : ∀ w, (Instr.index 25 (.agg #[.int .u64 a0, .int .u64 a1, .int .u64 a2, .int .u64 a3, .int .u64 a4, .int .u64 a5]) (.int .i64 2)).run Tryz.prog w = .ok (.int .u64 a2) w := fun _ => by kernel_rfl
  have i3 : ∀ w, (Instr.index 25 (.agg #[.int .u64 a0, .int .u64 a1, .int .u64 a2, .int .u64 a3, .int .u64 a4, .int .u64 a5]) (.int .i64 3)).run Tryz.prog w = .ok (.int .u64 a3) w := fun _ => by kernel_rfl
  have i4 : ∀ w, (Instr.index 25 (.agg #[.int .u64 a0, .int .u64 a1, .int .u64 a2, .int .u64 a3, .int .u64 a4, .int .u64 a5]) (.int .i64 4)).run Tryz.prog w = .ok (.int .u64 a4) w := fun _ => by kernel_rfl
  have i5 : ∀ w, (Instr.index 25 (.agg #[.int .u64 a0, .int .u64 a1, .int .u64 a2, .int .u64 a3, .int .u64 a4, .int .u64 a5]) (.int .i64 5)).run Tryz.prog w = .ok (.int .u64 a5) w := fun _ => by kernel_rfl
  have HARGS : Hid (∀ k (hk : k < 6), encK ⟨nr, arch, ip, a0, a1, a2, a3, a4, a5⟩ (k + 1) = encK ⟨nr, arch, ip, a0, a1, a2, a3, a4, a5⟩ k ++ leB ([a0, a1, a2, a3, a4, a5][k]'(by exact hk)) 8) := fun k hk => encK_succ _ k hk
  go_loopw [3, 5, 17] (fun v _ i wr => ∃ (k : Nat) (zs : List Int), k ≤ 6 ∧ i = .int .i64 k ∧ Hid (zs = encK ⟨nr, arch, ip, a0, a1, a2, a3, a4, a5⟩ k) ∧ Below w.heap.size w wr ∧ (Kd.int .u8).Own 5 wr w.heap.size (fun k => w.heap.size ≤ k) v zs) (fun _ _ i _ => 6 - (intOf i).toNat)
  case atStart => exact ⟨0, _, Nat.zero_le _, rfl, rfl, hBw4, hO5⟩
  case round =>
    obtain ⟨k, zs, hk, rfl, hzs, hB, hO⟩ := hrel
    have hzl : zs.length ≤ 100 := by rw [hzs.out, HD0.out k hk]; omega
    obtain ⟨Av, cv, rfl, _, _⟩ := hO.form
    obtain ⟨_, _, e2, _, _, r2⟩ := hO.K
    simp only [List.cons.injEq, Value.slice.injEq, and_true] at e2
    obtain ⟨rfl, _, rfl⟩ := e2
    have hw := hB.size
    by_cases hlt : k < 6
    · have hstep := HARGS.out k hlt
      rw [← hzs.out] at hstep
      have hcases : k = 0 ∨ k = 1 ∨ k = 2 ∨ k = 3 ∨ k = 4 ∨ k = 5 := by omega
      rcases hcases with rfl | rfl | rfl | rfl | rfl | rfl
      all_goals
        simp only [List.getElem_cons_zero, List.getElem_cons_succ] at hstep
        have HS := Lib.hid hstep
        clear hstep
        go_wp2_with (go_at_call 276; refine (c_put64 Av zs _ cv rfl _ _ _ r2 (by omega) (by assumption)).mono ?_; rintro e w5 ⟨v5, rfl, hO5, hB5⟩)
        go_roundw
        case rel =>
          refine ⟨_, zs ++ leB _ 8, by omega, by go_num, Lib.hid HS.out.symm, below_tr hB hB5, ?_⟩
          obtain ⟨cells, h1, h2, h3⟩ := hO5
          refine ⟨cells, ⟨h1.1, ?_⟩, h2, fun k hk => Nat.le_trans hw (h3 k hk)⟩
          rcases h1.2 with h | ⟨g, cap, cur, e1, e2, e3⟩
          · exact .inl h
          · exact .inr ⟨g, cap, cur, e1, Nat.le_trans hw e2, e3⟩
        case measure => simp [intOf]
    · have hk6 : k = 6 := by omega
      subst hk6
      go_wp2_with fail
      go_ret
      refine ⟨.slice Av zs.length cv, rfl, ?_, hB⟩
      unfold encB
      rw [← hzs.out]
      exact hO
end Go.Proofs.YtbojjjiggppnaaaGreat
