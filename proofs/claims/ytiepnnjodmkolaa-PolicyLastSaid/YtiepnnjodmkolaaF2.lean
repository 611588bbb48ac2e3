/- The walks of insn.put, fold and EncodeAll. -/
import Derived.Test.YtiepnnjodmkolaaD5
import Derived.Test.YtiepnnjodmkolaaC3
namespace Go.Proofs.Ytiepnnjodmkolaa
open Go.RowKit Go.Shelf
set_option linter.unusedVariables false
set_option linter.unusedSimpArgs false

theorem own_base {α : Type} {d : Kd α} {e : TypeId} {w : World} {b b' : Nat} {v : Value} {xs : List α} (hb : b' ≤ b) (h : d.Own e w b (fun k => b ≤ k) v xs) : d.Own e w b' (fun k => b' ≤ k) v xs := by
  obtain ⟨cells, h1, h2, h3⟩ := h
  refine ⟨cells, ⟨h1.1, ?_⟩, h2.imp (fun _ _ hK => d.mono (fun k hk => ⟨Nat.le_trans hb hk.1, hk.2⟩) hK), fun k hk => Nat.le_trans hb (h3 k hk)⟩
  rcases h1.2 with h | ⟨g, cap, cur, e1, e2, e3⟩
  · exact .inl h
  · exact .inr ⟨g, cap, cur, e1, Nat.le_trans hb e2, e3⟩
theorem bytes_base {w0 w w' : World} {xs : List Int} {e : Ending} (hb : w0.heap.size ≤ w.heap.size) (hB : Below w0.heap.size w0 w) (h : Bytes w xs e w') : Bytes w0 xs e w' := by
  obtain ⟨v, rfl, hO, hB2⟩ := h
  exact ⟨v, rfl, own_base hb hO, hB.trans (hB2.mono hb)⟩
/-- An instruction's bytes. -/
def encI (x : Insn) : List Int := leB x.code 2 ++ [x.jt, x.jf] ++ leB x.k 4
theorem encI_length (x : Insn) : (encI x).length = 8 := by simp [encI, leB_length]
theorem bytes_row {w : World} {x y : Int} (hx : 0 ≤ x ∧ x < 256) (hy : 0 ≤ y ∧ y < 256) : (Kd.int .u8).Row (w.alloc (.cells #[.int .u8 x, .int .u8 y] 5)) (fun _ => True) (some ⟨w.heap.size, 0, none⟩) [x, y] := by
  have h := (Kd.Own.lit (d := Kd.int .u8) (w := w) (ok := fun _ => True) (e := 5) (base := 0) (n := 2) (xs := [x, y]) (cells := [.int .u8 x, .int .u8 y]) rfl ⟨[.int .u8 x], [.int .u8 y], rfl, ⟨rfl, hx⟩, ⟨[.int .u8 y], [], rfl, ⟨rfl, hy⟩, rfl⟩⟩ (Nat.zero_le _) (by unfold maxLen; simp) trivial).K
  obtain ⟨A', c', e1, _, _, h⟩ := h
  simp only [List.cons.injEq, Value.slice.injEq, and_true] at e1
  rw [e1.1]
  exact h
set_option maxRecDepth 100000 in
set_option maxHeartbeats 4000000 in
theorem c_putI (A : Option Addr) (xs : List Int) (n c : Nat) (hn0 : n = xs.length) (x : Insn) (hx : x.wf) (ok : Nat → Prop) (w : World) (hC : (Kd.int .u8).Row w ok A xs) (hl : xs.length ≤ 5000) :
    Calls Try.prog 34 #[.slice A n c, x.agg] w (Bytes w (xs ++ encI x)) := by
  subst hn0
  obtain ⟨code, jt, jf, k⟩ := x
  obtain ⟨h0, h1, h2, h3⟩ := hx
  simp only [Kd.rng] at h0 h1 h2 h3
  unfold Insn.agg
  simp only
  go_enter Try.func34, Try.ntmps34
  go_wp2_with fail
  have hC1 := hC.bel (below_al (Below.refl _ _) (.cells #[.int .u16 code, .int .u8 jt, .int .u8 jf, .int .u32 k] 39))
  have hR1 := blk_new w (.cells #[.int .u16 code, .int .u8 jt, .int .u8 jf, .int .u32 k] 39)
  have hB1 : Below w.heap.size w (w.alloc (.cells #[.int .u16 code, .int .u8 jt, .int .u8 jf, .int .u32 k] 39)) := below_al (Below.refl _ _) _
  have hs1 : (w.alloc (.cells #[.int .u16 code, .int .u8 jt, .int .u8 jf, .int .u32 k] 39)).heap.size = w.heap.size + 1 := by simp
  generalize (w.alloc (.cells #[.int .u16 code, .int .u8 jt, .int .u8 jf, .int .u32 k] 39)) = W1 at *
  have k0 : W1.cell? ⟨w.heap.size, 0, none⟩ = some (.int .u16 code) := blk_cell hR1 0
  have k1 : W1.cell? ⟨w.heap.size, 1, none⟩ = some (.int .u8 jt) := blk_cell hR1 1
  have k2 : W1.cell? ⟨w.heap.size, 2, none⟩ = some (.int .u8 jf) := blk_cell hR1 2
  have k3 : W1.cell? ⟨w.heap.size, 3, none⟩ = some (.int .u32 k) := blk_cell hR1 3
  have SB : ∀ w', Below W1.heap.size W1 w' → (w'.cell? ⟨w.heap.size, 0, none⟩ = some (.int .u16 code) ∧ w'.cell? ⟨w.heap.size, 1, none⟩ = some (.int .u8 jt) ∧ w'.cell? ⟨w.heap.size, 2, none⟩ = some (.int .u8 jf) ∧ w'.cell? ⟨w.heap.size, 3, none⟩ = some (.int .u32 k)) := fun w' h => ⟨cell_bel h k0, cell_bel h k1, cell_bel h k2, cell_bel h k3⟩
  have HSB := Lib.hid SB
  have HC1 := Lib.hid hC1
  have HB1 := Lib.hid hB1
  have HS1 := Lib.hid hs1
  clear SB hC hR1 hC1 hB1 hs1
  have hc16 := fun A xs c x ok w hC hl hx => c_put16 A xs _ c rfl x ok w hC hl hx
  go_region_held3 (fun w' => w'.cell? ⟨w.heap.size, 0, none⟩ = some (.int .u16 code) ∧ w'.cell? ⟨w.heap.size, 1, none⟩ = some (.int .u8 jt) ∧ w'.cell? ⟨w.heap.size, 2, none⟩ = some (.int .u8 jf) ∧ w'.cell? ⟨w.heap.size, 3, none⟩ = some (.int .u32 k))
    (first | exact HSB.out _ hF | exact HSB.out _ hW3 | exact HSB.out _ (hW2.alloc hW2.size _) | exact HSB.out _ hW2 | exact HSB.out _ (below_al (below_d1 (Below.refl _ _)) _) | exact HSB.out _ (below_d1 (Below.refl _ _)) | exact HSB.out _ (Below.refl _ _))
    (first
    | (go_at_call 52; (with_reducible refine (c_put16 A xs _ c rfl code _ _ (HC1.out.bel (below_d1 (Below.refl _ _))) (by omega) h0).mono ?_); rintro e w2 ⟨v2, rfl, hO2, hB2⟩; have hW2 : Below W1.heap.size W1 w2 := undrew hB2; have HBASE : W1.heap.size ≤ W1.drew.heap.size := Nat.le_refl _; have HW : Below W1.heap.size W1 (w2.alloc (.cells #[.int .u8 jt, .int .u8 jf] 5)) := hW2.alloc hW2.size _)
    | (go_at_call 52; (with_reducible refine (c_put16 A xs _ c rfl code _ _ ((HC1.out.bel (below_al (Below.refl _ _) (.cells #[.int .u8 jt, .int .u8 jf] 5))).bel (below_d1 (Below.refl _ _))) (by omega) h0).mono ?_); rintro e w2 ⟨v2, rfl, hO2, hB2⟩; have hal : Below W1.heap.size W1 (W1.alloc (.cells #[.int .u8 jt, .int .u8 jf] 5)) := below_al (Below.refl _ _) _; have hW2 : Below W1.heap.size W1 w2 := hal.trans ((undrew hB2).mono hal.size); have HBASE : W1.heap.size ≤ (W1.alloc (.cells #[.int .u8 jt, .int .u8 jf] 5)).drew.heap.size := hal.size; have HW := hW2)
    | ((refine step_append_kd (P := Try.prog) (d := Kd.int .u8) (w := w2.alloc (.cells #[.int .u8 jt, .int .u8 jf] 5)) (by rfl) _ _ 40 5 _ 1 (by rfl) Try.underlying40 infoU8 rfl v2 (xs ++ leB code 2) _ 2 2 [jt, jf] (by rfl) (by rfl) (hO2.al (.cells #[.int .u8 jt, .int .u8 jf] 5)) rfl (bytes_row h1 h2) (fun _ _ h => h) (by rw [List.length_append, leB_length]; unfold maxLen; omega) (by rw [List.length_append, leB_length]; omega) (Nat.le_trans hB2.size (by simp)) (fun q hq => Nat.le_trans (Nat.le_trans hB2.size (by simp)) hq) ?_); intro v3 w3 hO3 hg3 _; have hW3 : Below W1.heap.size W1 w3 := HW.grown hg3 HW.size (fun q hq => Nat.le_trans HBASE (hO2.le q hq)); generalize hz3 : xs ++ leB code 2 ++ [jt, jf] = z3 at hO3; have HZ3 := Lib.hid hz3; have l3 : z3.length ≤ 6000 := (by rw [← hz3]; simp [leB_length]; omega); clear hz3; obtain ⟨A3, c3, rfl, -, -⟩ := hO3.form; obtain ⟨_, _, e3, -, -, r3⟩ := hO3.K; simp only [List.cons.injEq, Value.slice.injEq, and_true] at e3; obtain ⟨rfl, -, rfl⟩ := e3)
    | ((refine step_append_kd (P := Try.prog) (d := Kd.int .u8) (w := w2) (by rfl) _ _ 40 5 _ 1 (by rfl) Try.underlying40 infoU8 rfl v2 (xs ++ leB code 2) _ 2 2 [jt, jf] (by rfl) (by rfl) (hO2) rfl ((bytes_row (w := W1) h1 h2).bel (undrew hB2)) (fun _ _ h => h) (by rw [List.length_append, leB_length]; unfold maxLen; omega) (by rw [List.length_append, leB_length]; omega) (hB2.size) (fun q hq => Nat.le_trans (hB2.size) hq) ?_); intro v3 w3 hO3 hg3 _; have hW3 : Below W1.heap.size W1 w3 := HW.grown hg3 HW.size (fun q hq => Nat.le_trans HBASE (hO2.le q hq)); generalize hz3 : xs ++ leB code 2 ++ [jt, jf] = z3 at hO3; have HZ3 := Lib.hid hz3; have l3 : z3.length ≤ 6000 := (by rw [← hz3]; simp [leB_length]; omega); clear hz3; obtain ⟨A3, c3, rfl, -, -⟩ := hO3.form; obtain ⟨_, _, e3, -, -, r3⟩ := hO3.K; simp only [List.cons.injEq, Value.slice.injEq, and_true] at e3; obtain ⟨rfl, -, rfl⟩ := e3)
    | (go_at_call 51; (with_reducible refine (c_put32 A3 z3 _ c3 rfl k _ w3 r3 (by omega) h3).mono ?_); rintro e w4 ⟨v4, rfl, hO4, hB4⟩; have hF : Below W1.heap.size W1 w4 := hW3.trans (hB4.mono hW3.size)))
  all_goals
    have e : z3 ++ leB k 4 = xs ++ encI ⟨code, jt, jf, k⟩ := by rw [← HZ3.out]; simp [encI]
    rw [e] at hO4
    have hsz : w.heap.size ≤ w3.heap.size := Nat.le_trans HB1.out.size hW3.size
    have HO4 := Lib.hid (own_base hsz hO4)
    have HF := Lib.hid (HB1.out.trans (hF.mono HB1.out.size))
    clear e hO4 hsz hF hW3 hO3 r3 hO2 hB2 hW2 HBASE HW
    go_wp2_with fail
    go_ret
    exact ⟨v4, rfl, HO4.out, HF.out⟩
def encL (l : List Insn) : List Int := l.flatMap encI
theorem encL_snoc (l : List Insn) (x : Insn) : encL (l ++ [x]) = encL l ++ encI x := by simp [encL]
theorem encL_length (l : List Insn) : (encL l).length = 8 * l.length := by
  induction l with
  | nil => rfl
  | cons x l ih => simp only [encL, List.flatMap_cons, List.length_append, encI_length, List.length_cons] at *; omega
set_option maxRecDepth 100000 in
set_option maxHeartbeats 4000000 in
theorem c_fold (A : Option Addr) (l : List Insn) (c : Nat) (ok : Nat → Prop) (w : World) (hC : kInsn.Row w ok A l) (hl : l.length ≤ 255) :
    Calls Try.prog 33 #[.slice A l.length c, .slice none 0 0, .func (.func 34) #[] #[]] w (Bytes w (encL l)) := by
  have eg := enters_of Try.func34 (by kernel_rfl) rfl
  have hn := hC.1
  clear hn
  go_enter Try.func33, Try.ntmps33
  go_wp2_with fail
  go_loopw [1, 8, 11] (fun v _ i wr => ∃ (k : Nat) (zs : List Int), k ≤ l.length ∧ i = .int .i64 k ∧ Hid (zs = encL (l.take k)) ∧ zs.length = 8 * k ∧ Below w.heap.size w wr ∧ (Kd.int .u8).Own 5 wr w.heap.size (fun k => w.heap.size ≤ k) v zs) (fun _ _ i _ => l.length - (intOf i).toNat)
  case atStart => exact ⟨0, [], Nat.zero_le _, rfl, rfl, rfl, Below.refl _ _, Kd.Own.nil _ _ _ _ _⟩
  case round =>
    obtain ⟨k, zs, hk, rfl, hzs, hzl, hB, hO⟩ := hrel
    have HZL := Lib.hid hzl
    clear hzl
    obtain ⟨Av, cv, rfl, -, -⟩ := hO.form
    obtain ⟨_, _, e2, -, -, r2⟩ := hO.K
    simp only [List.cons.injEq, Value.slice.injEq, and_true] at e2
    obtain ⟨rfl, -, rfl⟩ := e2
    by_cases hlt : k < l.length
    · obtain ⟨ad, rfl, hok, hwf, e0, e1, e2, e3⟩ := kInsn.at_ (hC.bel hB) hlt
      have hstep : zs ++ encI l[k] = encL (l.take (k + 1)) := by rw [hzs.out, List.take_succ_eq_append_getElem hlt, encL_snoc]
      have HS := Lib.hid hstep
      clear hstep
      generalize l[k] = x at *
      have hput := fun ok w h => c_putI Av zs zs.length cv rfl x hwf ok w h (by rw [HZL.out]; omega)
      obtain ⟨code, jt, jf, kk⟩ := x
      unfold Insn.agg at hput
      simp only at *
      have HP := Lib.hid hput
      have HO := Lib.hid hO
      have R2 := Lib.hid r2
      have hal := Lib.hid (below_al (Below.refl wr.heap.size wr) (.cells #[.int .u16 code, .int .u8 jt, .int .u8 jf, .int .u32 kk] 39))
      clear hput hO r2 hwf
      go_wp2_with (go_at_call 34; refine (HP.out _ _ (R2.out.bel hal.out)).mono ?_; rintro e w5 ⟨v5, rfl, hO5, hB5⟩)
      have hB5' : Below wr.heap.size wr w5 := hal.out.trans (hB5.mono hal.out.size)
      have hsz : w.heap.size ≤ (wr.alloc (.cells #[.int .u16 code, .int .u8 jt, .int .u8 jf, .int .u32 kk] 39)).heap.size := Nat.le_trans hB.size hal.out.size
      go_roundw
      case rel => exact ⟨k + 1, _, by omega, by go_num, HS.out, by rw [List.length_append, HZL.out, encI_length]; omega, below_tr hB hB5', own_base hsz hO5⟩
      case measure => simp [intOf]; omega
    · obtain rfl : k = l.length := by omega
      rw [List.take_length] at hzs
      go_wp2_with fail
      go_ret
      refine ⟨.slice Av zs.length cv, rfl, ?_, hB⟩
      rw [← hzs.out]
      exact hO
set_option maxRecDepth 100000 in
set_option maxHeartbeats 4000000 in
theorem c_encodeAll (A : Option Addr) (l : List Insn) (c : Nat) (ok : Nat → Prop) (w : World) (hC : kInsn.Row w ok A l) (hl : l.length ≤ 255) :
    Calls Try.prog 18 #[.slice A l.length c] w fun e w' => ∃ v, e = .returned (.tuple #[v, .int .i64 0]) ∧ (Kd.int .u8).Own 5 w' w.heap.size (fun k => w.heap.size ≤ k) v (encL l) ∧ Below w.heap.size w w' := by
  have hf := Lib.hid (c_fold A l c ok w hC hl)
  have hl' : (l.length : Int) ≤ 255 := by omega
  clear hC
  go_enter Try.func18, Try.ntmps18
  go_wp2_with fail
  refine hf.out.mono ?_
  rintro e w1 ⟨v, rfl, hO, hB⟩
  go_wp2_with fail
  go_ret2
  exact ⟨v, rfl, hO, hB⟩
end Go.Proofs.Ytiepnnjodmkolaa
