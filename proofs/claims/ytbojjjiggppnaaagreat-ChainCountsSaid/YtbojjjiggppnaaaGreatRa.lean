/- Several texts in one. -/
import Derived.Test.YtbojjjiggppnaaaGreatM9
import Derived.Test.YtbojjjiggppnaaaGreatH0
import Derived.Deep.Cut
import Derived.Shelf.RegionOpenPlain
import Derived.Test.YtbojjjiggppnaaaGreatBB
import Derived.WideMake
import Derived.Laws.MakeOwn
import Derived.Test.YtbojjjiggppnaaaGreatD3
import Derived.Laws.StructEq
import Derived.Test.YtbojjjiggppnaaaGreatQ5
import Derived.Test.YtbojjjiggppnaaaGreatO1
import Derived.Test.YtbojjjiggppnaaaGreatN4
import Derived.Deep.RegionHeld3
import Derived.Deep.CutRange
/-! slices.Index at numbers; action.Split. -/
namespace Go.Proofs.YtbojjjiggppnaaaGreat
open Go.RowKit Go.Shelf
set_option linter.unusedVariables false
set_option linter.unusedSimpArgs false

def findI {α : Type} (p : α → Bool) (xs : List α) : Int := match xs.findIdx? p with
  | some i => (i : Int)
  | none => -1
theorem findI_at {α : Type} {p : α → Bool} {xs : List α} {k : Nat} (hk : k < xs.length) (hno : ∀ j (hj : j < k), p (xs[j]'(by omega)) = false) (h : p xs[k] = true) : findI p xs = k := by
  have : xs.findIdx? p = some k := by
    rw [List.findIdx?_eq_some_iff_getElem]
    exact ⟨hk, h, fun j hj => by rw [hno j hj]; simp⟩
  simp [findI, this]
theorem findI_none {α : Type} {p : α → Bool} {xs : List α} (hno : ∀ j (hj : j < xs.length), p xs[j] = false) : findI p xs = -1 := by
  have : xs.findIdx? p = none := by
    rw [List.findIdx?_eq_none_iff]
    intro x hx
    obtain ⟨i, hi, rfl⟩ := List.getElem_of_mem hx
    exact hno i hi
  simp [findI, this]
theorem findI_ge {α : Type} (p : α → Bool) (xs : List α) : decide (0 ≤ findI p xs) = xs.any p := by
  unfold findI
  cases h : xs.findIdx? p with
  | none =>
    rw [List.findIdx?_eq_none_iff] at h
    simp [List.any_eq]
    exact h
  | some i =>
    rw [List.findIdx?_eq_some_iff_getElem] at h
    obtain ⟨hi, hp, _⟩ := h
    simp
    exact ⟨xs[i], List.getElem_mem hi, hp⟩
theorem findI_lt {α : Type} (p : α → Bool) (xs : List α) : findI p xs < xs.length := by
  unfold findI
  cases h : xs.findIdx? p with
  | none => simp only; omega
  | some i =>
    rw [List.findIdx?_eq_some_iff_getElem] at h
    obtain ⟨hi, _⟩ := h
    simp only; omega

set_option maxHeartbeats 1000000 in
theorem c_idx (A : Option Addr) (xs : List Int) (n c : Nat) (v : Int) (ok : Nat → Prop) (w : World) (hC : (Kd.int .u32).Row w ok A xs) (hn0 : n = xs.length) :
    Calls Tryz.prog 180 #[.slice A n c, .int .u32 v] w fun e w' => e = .returned (.int .i64 (findI (fun y => v == y) xs)) ∧ Below w.heap.size w w' := by
  subst hn0
  have hn := hC.1
  go_enter Tryz.func180, Tryz.ntmps180
  go_wp2_with fail
  go_loopw [5, 8] (fun _ i wr => ∃ k : Nat, k ≤ xs.length ∧ i = .int .i64 k ∧ Below w.heap.size w wr ∧ Hid (∀ j (hj : j < xs.length), j < k → (v == xs[j]) = false)) (fun _ i _ => xs.length - (intOf i).toNat)
  case atStart => exact ⟨0, Nat.zero_le _, rfl, Below.refl _ _, fun j _ hj => absurd hj (Nat.not_lt_zero _)⟩
  case round =>
    obtain ⟨k, hk, rfl, hB, hno⟩ := hrel
    by_cases hlt : k < xs.length
    · obtain ⟨ad, rfl, hok, hwf, c0⟩ := Kd.int_at (hC.bel hB) hlt
      have HNO := hno
      by_cases hpk : (v == xs[k]) = true
      · have hf := findI_at (p := fun y => v == y) hlt (fun j hj => hno.out j (by omega) hj) hpk
        have HF := Lib.hid hf
        clear hf hno
        generalize xs[k] = y at *
        go_wp2_with fail
        go_ret
        exact ⟨ret_i HF.out.symm, hB⟩
      · have hpk' : (v == xs[k]) = false := by simpa using hpk
        have hno' : Hid (∀ j (hj : j < xs.length), j < k + 1 → (v == xs[j]) = false) := fun j hj hjk => by
          rcases Nat.lt_succ_iff_lt_or_eq.1 hjk with h | rfl
          · exact hno.out j hj h
          · exact hpk'
        clear hpk hno HNO
        generalize xs[k] = y at *
        go_wp2_with fail
        go_roundw
        case rel => exact ⟨k + 1, by omega, by go_num, hB, hno'⟩
        case measure => simp [intOf]; omega
    · obtain rfl : k = xs.length := by omega
      have hf := findI_none (p := fun y => v == y) (xs := xs) (fun j hj => hno.out j hj hj)
      have HF := Lib.hid hf
      clear hf hno
      go_wp2_with fail
      go_ret
      exact ⟨ret_i HF.out.symm, hB⟩
set_option maxRecDepth 100000 in
theorem c_contains32 (A : Option Addr) (xs : List Int) (n c : Nat) (v : Int) (ok : Nat → Prop) (w : World) (hC : (Kd.int .u32).Row w ok A xs) (hn0 : n = xs.length) :
    Calls Tryz.prog 145 #[.slice A n c, .int .u32 v] w fun e w' => e = .returned (.bool (xs.any (fun y => v == y))) ∧ Below w.heap.size w w' := by
  have h := c_idx A xs n c v ok w hC hn0
  have hge := findI_ge (fun y => v == y) xs
  generalize findI (fun y => v == y) xs = f at *
  rw [← hge]
  clear hge hC hn0
  go_enter Tryz.func145, Tryz.ntmps145
  go_wp2_with (go_at_call 180; refine h.mono ?_; rintro e w1 ⟨rfl, hB⟩)
  go_ret
  exact ⟨rfl, hB⟩
/-- The actions' halves. -/
def halvesL : List Int := [32768, 0, 3, 5, 32704, 32752, 32764, 32767]
/-- A word's action. -/
def splitA (k : Int) : Int := if findI (fun y => k / 65536 == y) halvesL < 0 then 0 else findI (fun y => k / 65536 == y) halvesL
set_option maxHeartbeats 1000000 in
theorem c_halves (w : World) : Calls Tryz.prog 191 #[] w fun e w' => e = .returned (.slice (some ⟨w.heap.size, 0, none⟩) 8 8) ∧ (Kd.int .u32).Row w' (fun q => q = w.heap.size) (some ⟨w.heap.size, 0, none⟩) halvesL ∧ Below w.heap.size w w' := by
  have hrow := (own_row (Kd.Own.lit (d := Kd.int .u32) (w := w) (e := 23) (base := 0) (ok := fun q => q = w.heap.size) (n := 8) (xs := halvesL) (cells := [.int .u32 32768, .int .u32 0, .int .u32 3, .int .u32 5, .int .u32 32704, .int .u32 32752, .int .u32 32764, .int .u32 32767]) rfl (by
    have h : Kd.Reps ((Kd.int .u32).K w (fun q => q = w.heap.size)) halvesL (halvesL.map (Value.int .u32)) := Kd.reps_scalar.2 ⟨rfl, by intro x hx; simp only [halvesL, List.mem_cons, List.not_mem_nil, or_false] at hx; simp only [Kd.rng]; omega⟩
    exact h) (Nat.zero_le _) (by unfold maxLen; simp [halvesL]) rfl)).2.2
  have HR := Lib.hid hrow
  clear hrow
  go_enter Tryz.func191, Tryz.ntmps191
  go_wp2_with fail
  go_ret
  exact ⟨rfl, HR.out, below_al (Below.refl _ _) _⟩
attribute [local go_sem] max2_int max_two
set_option maxRecDepth 100000 in
set_option maxHeartbeats 2000000 in
theorem c_Split (k : Int) (h0 : 0 ≤ k) (h1 : k < 4294967296) (w : World) : Calls Tryz.prog 163 #[.int .u32 k] w fun e w' => e = .returned (.agg #[.int .i64 (splitA k), .int .u16 (k % 65536)]) ∧ Below w.heap.size w w' := by
  obtain ⟨n, hn⟩ : ∃ n, w.heap.size = n := ⟨_, rfl⟩
  have F1 : Hid ((w.alloc (.cells #[.int .i64 0, .int .u16 0] 53)).heap[n]? = some (.cells #[.int .i64 0, .int .u16 0] 53)) := by rw [← hn]; exact blk_new _ _
  have HB1 : Hid (Below w.heap.size w (w.alloc (.cells #[.int .i64 0, .int .u16 0] 53))) := below_al (Below.refl _ _) _
  have HN := Lib.hid hn
  have hs : splitA k = if findI (fun y => k / 65536 == y) halvesL < 0 then 0 else findI (fun y => k / 65536 == y) halvesL := rfl
  have hcv : IntKind.u16.wrap k = k % 65536 := by rw [IntKind.wrap_u16]
  have hfl := findI_lt (fun y => k / 65536 == y) halvesL
  have hHL : halvesL.length = 8 := rfl
  rw [hHL] at hfl
  have hix := fun (W : World) (g : Nat) (ok : Nat → Prop) (h : (Kd.int .u32).Row W ok (some ⟨g, 0, none⟩) halvesL) => c_idx (some ⟨g, 0, none⟩) halvesL 8 8 (k / 65536) ok W h rfl
  have HIX := Lib.hid hix
  generalize splitA k = sa at *
  generalize findI (fun y => k / 65536 == y) halvesL = fi at *
  clear hix hHL
  go_enter Tryz.func163, Tryz.ntmps163
  go_upto_region 1 with fail
  generalize (w.alloc (.cells #[.int .i64 0, .int .u16 0] 53)) = W1 at *
  clear hn
  go_wp2_with (first | (go_at_call 191; refine (c_halves _).mono ?_; rintro e w2 ⟨rfl, hrow, hB2⟩; have HB2 := Lib.hid hB2; have HROW := Lib.hid hrow; clear hB2 hrow) | (go_at_call 180; refine (HIX.out _ _ _ HROW.out).mono ?_; rintro e w3 ⟨rfl, hB3⟩; have HF3 := Lib.hid (blk_bel hB3 (blk_bel HB2.out F1.out))) | (refine wpList_store_row rfl _ _ _ rfl n _ rfl rfl _ _ HF3.out (by kernel_rfl) (by rfl) (by first | kernel_rfl | rfl) ?_; intro W6 hW6))
  all_goals
    refine bodyPost_ret (results_cell_row rfl _ _ n _ _ _ _ rfl hW6.here Tryz.underlying53 rfl (by first | kernel_rfl | rfl)) rfl ?_
    refine ⟨?_, ((HB1.out.trans (HB2.out.mono HB1.out.size)).trans (hB3.mono (HB1.out.trans (HB2.out.mono HB1.out.size)).size)).trans (hW6.bel.mono (by rw [HN.out]; omega))⟩
    first | rw [if_pos (by assumption)] | rw [if_neg (by omega)]
end Go.Proofs.YtbojjjiggppnaaaGreat

/-! The walks of bitmap.known, join at answers, returns. -/
namespace Go.Proofs.YtbojjjiggppnaaaGreat
open Go.RowKit Go.Shelf
set_option linter.unusedVariables false
set_option linter.unusedSimpArgs false

set_option maxHeartbeats 1000000 in
theorem c_known (v : Int) (w : World) : Calls Tryz.prog 229 #[.int .u32 v] w fun e w' => e = .returned (.agg #[.bool true, .int .u32 v]) ∧ Below w.heap.size w w' := by
  obtain ⟨n, hn⟩ : ∃ n, w.heap.size = n := ⟨_, rfl⟩
  have F1 : Hid ((w.alloc (.cells #[.bool false, .int .u32 0] 246)).heap[n]? = some (.cells #[.bool false, .int .u32 0] 246)) := by rw [← hn]; exact blk_new _ _
  have HB1 : Hid (Below w.heap.size w (w.alloc (.cells #[.bool false, .int .u32 0] 246))) := below_al (Below.refl _ _) _
  have HN := Lib.hid hn
  go_enter Tryz.func229, Tryz.ntmps229
  go_upto_region 1 with fail
  generalize (w.alloc (.cells #[.bool false, .int .u32 0] 246)) = W1 at *
  clear hn
  go_wp2_with (first | (refine wpList_store_row (w := W1) rfl _ _ _ rfl n #[.bool true, .int .u32 v] rfl rfl _ _ F1.out (by kernel_rfl) (by rfl) (by kernel_rfl) ?_; intro W6 hW6))
  refine bodyPost_ret (results_cell_row rfl _ _ n _ #[.bool true, .int .u32 v] _ _ rfl hW6.here Tryz.underlying246 rfl (by kernel_rfl)) rfl ?_
  exact ⟨rfl, HB1.out.trans (hW6.bel.mono (by rw [HN.out]; omega))⟩
set_option maxHeartbeats 1000000 in
theorem c_retSome (a b c : Value) (x : Bool) (ha : a = .bool x) (y : Int) (hb : b = .int .u32 y) (z : Bool) (hc : c = .bool z) (w : World) : Calls Tryz.prog 264 #[.agg #[a, b, c]] w fun e w' => e = .returned (.bool z) ∧ Below w.heap.size w w' := by
  subst ha hb hc
  go_enter Tryz.func264, Tryz.ntmps264
  go_wp2_with fail
  go_ret
  exact ⟨rfl, below_al (Below.refl _ _) _⟩
theorem eg_retSome : ∀ args w, (callFunc 264 args).run Tryz.prog w = .ok (.enter 264 args) w := fun args w => by
  exact (enters_of Tryz.func264 (by kernel_rfl) rfl) args w
set_option maxRecDepth 100000 in
set_option maxHeartbeats 2000000 in
/-- Where there is none yet. -/
theorem c_joinAns (p : Bool) (q : Int) (v : Int) (w : World) : Calls Tryz.prog 263 #[.agg #[.bool p, .int .u32 q, .bool false], .agg #[.bool true, .int .u32 v, .bool true], .func (.func 264) #[] #[], .func (.func 265) #[] #[]] w fun e w' => e = .returned (.agg #[.bool true, .int .u32 v, .bool true]) ∧ Below w.heap.size w w' := by
  have heg := eg_retSome
  obtain ⟨n, hn⟩ : ∃ n, w.heap.size = n := ⟨_, rfl⟩
  obtain ⟨W1, hW1⟩ : ∃ W, W = (((w.alloc (.cells #[.bool p, .int .u32 q, .bool false] 269)).alloc (.cells #[.bool true, .int .u32 v, .bool true] 269)).alloc (.cells #[.bool false, .int .u32 0, .bool false] 269)) := ⟨_, rfl⟩
  have hB1 : Below w.heap.size w W1 := by rw [hW1]; exact below_al (below_al (below_al (Below.refl _ _) _) _) _
  have f1 : W1.heap[n]? = some (.cells #[.bool p, .int .u32 q, .bool false] 269) := by rw [hW1, ← hn]; exact blk_al (blk_al (blk_new _ _) _) _
  have f2 : W1.heap[n + 1]? = some (.cells #[.bool true, .int .u32 v, .bool true] 269) := by
    have h := blk_new (w.alloc (.cells #[.bool p, .int .u32 q, .bool false] 269)) (.cells #[.bool true, .int .u32 v, .bool true] 269)
    rw [World.size_alloc, hn] at h
    rw [hW1]
    exact blk_al h _
  have f3 : W1.heap[n + 1 + 1]? = some (.cells #[.bool false, .int .u32 0, .bool false] 269) := by
    have h := blk_new ((w.alloc (.cells #[.bool p, .int .u32 q, .bool false] 269)).alloc (.cells #[.bool true, .int .u32 v, .bool true] 269)) (.cells #[.bool false, .int .u32 0, .bool false] 269)
    rw [World.size_alloc, World.size_alloc, hn] at h
    rw [hW1]
    exact h
  have HB1 := Lib.hid hB1
  have F1 := Lib.hid f1
  have F2 := Lib.hid f2
  have F3 := Lib.hid f3
  have HN := Lib.hid hn
  clear hB1 f1 f2 f3
  rw [hW1] at HB1 F1 F2 F3
  clear hW1 W1
  go_enter Tryz.func263, Tryz.ntmps263
  go_upto_region 1 with fail
  generalize (((w.alloc (.cells #[.bool p, .int .u32 q, .bool false] 269)).alloc (.cells #[.bool true, .int .u32 v, .bool true] 269)).alloc (.cells #[.bool false, .int .u32 0, .bool false] 269)) = W1 at *
  clear hn
  have a0 : W1.cell? ⟨n, 0, none⟩ = some (.bool p) := blk_cell F1.out 0
  have a1 : W1.cell? ⟨n, 1, none⟩ = some (.int .u32 q) := blk_cell F1.out 1
  have a2 : W1.cell? ⟨n, 2, none⟩ = some (.bool false) := blk_cell F1.out 2
  go_wp2_with fail
  refine (c_retSome _ _ _ p rfl q rfl false rfl _).mono ?_
  rintro e w2 ⟨rfl, hB2⟩
  have HR2 := Lib.hid (blk_bel hB2 F3.out)
  have g2 := blk_bel hB2 F2.out
  have b0 : w2.cell? ⟨n + 1, 0, none⟩ = some (.bool true) := blk_cell g2 0
  have b1 : w2.cell? ⟨n + 1, 1, none⟩ = some (.int .u32 v) := blk_cell g2 1
  have b2 : w2.cell? ⟨n + 1, 2, none⟩ = some (.bool true) := blk_cell g2 2
  have HB2 := Lib.hid hB2
  clear hB2 g2 a0 a1 a2
  go_wp2_with (first | (refine wpList_store_row (w := w2) rfl _ _ _ rfl (n + 1 + 1) #[.bool true, .int .u32 v, .bool true] rfl rfl _ _ HR2.out (by kernel_rfl) (by rfl) (by kernel_rfl) ?_; intro W6 hW6))
  refine bodyPost_ret (results_cell_row rfl _ _ (n + 1 + 1) _ #[.bool true, .int .u32 v, .bool true] _ _ rfl hW6.here Tryz.underlying269 rfl (by kernel_rfl)) rfl ?_
  exact ⟨rfl, (HB1.out.trans (HB2.out.mono HB1.out.size)).trans (hW6.bel.mono (by rw [HN.out]; omega))⟩
set_option maxRecDepth 100000 in
set_option maxHeartbeats 2000000 in
theorem c_returnsR (br : Nat) (c0 c1 c2 : Value) (p : Bool) (q v : Int) (w : World) (hr : w.heap[br]? = some (.cells #[c0, c1, c2, .bool p, .int .u32 q, .bool false] 271)) :
    Calls Tryz.prog 243 #[.pointer (some ⟨br, 0, none⟩), .agg #[.bool true, .int .u32 v]] w fun e w' => (∃ u, e = .returned u) ∧ w'.heap[br]? = some (.cells #[c0, c1, c2, .bool true, .int .u32 v, .bool true] 271) ∧ (∀ k, k ≠ br → k < w.heap.size → w'.heap[k]? = w.heap[k]?) ∧ Below br w w' := by
  have hlt := blk_lt hr
  obtain ⟨n, hn⟩ : ∃ n, w.heap.size = n := ⟨_, rfl⟩
  have HB1 : Hid (Below w.heap.size w (w.alloc (.cells #[.bool true, .int .u32 v] 246))) := below_al (Below.refl _ _) _
  have F1 : Hid ((w.alloc (.cells #[.bool true, .int .u32 v] 246)).heap[n]? = some (.cells #[.bool true, .int .u32 v] 246)) := by rw [← hn]; exact blk_new _ _
  have FR : Hid ((w.alloc (.cells #[.bool true, .int .u32 v] 246)).heap[br]? = some (.cells #[c0, c1, c2, .bool p, .int .u32 q, .bool false] 271)) := blk_al hr _
  have HN := Lib.hid hn
  have HJ := Lib.hid (fun w => c_joinAns p q v w)
  clear hr
  go_enter Tryz.func243, Tryz.ntmps243
  go_upto_region 1 with fail
  generalize (w.alloc (.cells #[.bool true, .int .u32 v] 246)) = W1 at *
  clear hn
  have a0 : W1.cell? ⟨n, 0, none⟩ = some (.bool true) := blk_cell F1.out 0
  have a1 : W1.cell? ⟨n, 1, none⟩ = some (.int .u32 v) := blk_cell F1.out 1
  have r3 : W1.cell? ⟨br, 3, none⟩ = some (.bool p) := blk_cell FR.out 3
  have r4 : W1.cell? ⟨br, 4, none⟩ = some (.int .u32 q) := blk_cell FR.out 4
  have r5 : W1.cell? ⟨br, 5, none⟩ = some (.bool false) := blk_cell FR.out 5
  have mixed : (Tryz.prog).follows Departure.mixedOrders = true := by kernel_rfl
  go_region_law_o (go_simp; go_at_call 263; refine (HJ.out _).mono ?_; rintro e w2 ⟨rfl, hB2⟩; have g := blk_bel (undrew hB2) FR.out; have s3 : w2.cell? ⟨br, 3, none⟩ = some (.bool p) := blk_cell g 3; have s4 : w2.cell? ⟨br, 4, none⟩ = some (.int .u32 q) := blk_cell g 4; have s5 : w2.cell? ⟨br, 5, none⟩ = some (.bool false) := blk_cell g 5; have t3 : w2.frozen? ⟨br, 3, none⟩ = false := blk_free g 3; have t4 : w2.frozen? ⟨br, 4, none⟩ = false := blk_free g 4; have t5 : w2.frozen? ⟨br, 5, none⟩ = false := blk_free g 5)
  all_goals
    have hb := undrew hB2
    go_end0
    refine ⟨⟨_, rfl⟩, blk_set (j := 5) (blk_set (j := 4) (blk_set (j := 3) g _) _) _, fun k hk hkl => ?_, ((((HB1.out.trans (hb.mono HB1.out.size)).mono (Nat.le_of_lt hlt)).setCell (p := ⟨br, 3, none⟩) (Nat.le_refl _) _).setCell (p := ⟨br, 4, none⟩) (Nat.le_refl _) _).setCell (p := ⟨br, 5, none⟩) (Nat.le_refl _) _⟩
    exact (Below.heap_setCell _ _ _ k hk).trans ((Below.heap_setCell _ _ _ k hk).trans ((Below.heap_setCell _ _ _ k hk).trans ((HB1.out.trans (hb.mono HB1.out.size)).block k hkl)))
end Go.Proofs.YtbojjjiggppnaaaGreat

/-! The walk of bitmap's step at a return. -/
namespace Go.Proofs.YtbojjjiggppnaaaGreat
open Go.RowKit Go.Shelf
set_option linter.unusedVariables false
set_option linter.unusedSimpArgs false
attribute [-simp] Tryz.isAgg278 Tryz.sizeOf278

/-- A state's cells, nothing known. -/
def zSt : Array Value := #[.bool false, .bool false, .int .u32 0, .bool false, .int .u32 0, .bool false, .int .u32 0, .bool false, .int .u32 0, .bool false, .int .u32 0, .bool false, .int .u32 0, .bool false, .int .u32 0, .bool false, .int .u32 0, .bool false, .int .u32 0, .bool false, .int .u32 0, .bool false, .int .u32 0, .bool false, .int .u32 0, .bool false, .int .u32 0, .bool false, .int .u32 0, .bool false, .int .u32 0, .bool false, .int .u32 0, .bool false, .int .u32 0, .bool false, .int .u32 0]
theorem infoSt : (Tryz.prog.info? 278).map (·.size) = some 37 := by kernel_rfl
set_option maxRecDepth 100000 in
set_option maxHeartbeats 4000000 in
theorem c_step6b (br bs : Nat) (nr ar : Value) (cs : Array Value) (hcs : cs.size = 37) (h1 : cs.all (·.oneCell') = true) (p : Bool) (q jt jf k : Int) (w : World)
    (hr : w.heap[br]? = some (.cells #[nr, ar, .slice (some ⟨bs, 0, none⟩) 1 1, .bool p, .int .u32 q, .bool false] 271)) (hs : w.heap[bs]? = some (.cells cs 278)) :
    Calls Tryz.prog 230 #[.pointer (some ⟨br, 0, none⟩), .agg #[.int .u16 6, .int .u8 jt, .int .u8 jf, .int .u32 k], .int .i64 0] w fun e w' => (∃ u, e = .returned u) ∧ w'.heap[br]? = some (.cells #[nr, ar, .slice (some ⟨bs, 0, none⟩) 1 1, .bool true, .int .u32 k, .bool true] 271) ∧ Below br w w' := by
  have hlt := blk_lt hr
  obtain ⟨n, hn⟩ : ∃ n, w.heap.size = n := ⟨_, rfl⟩
  obtain ⟨W2, hW2⟩ : ∃ W, W = ((w.alloc (.cells #[.pointer (some ⟨br, 0, none⟩)] 272)).alloc (.cells #[.int .u16 6, .int .u8 jt, .int .u8 jf, .int .u32 k] 141)) := ⟨_, rfl⟩
  have HB2 : Hid (Below w.heap.size w W2) := by rw [hW2]; exact below_al (below_al (Below.refl _ _) _) _
  have HZ2 : Hid (W2.heap.size = n + 1 + 1) := by rw [hW2]; simp [Hid, hn]
  have F1 : Hid (W2.heap[n]? = some (.cells #[.pointer (some ⟨br, 0, none⟩)] 272)) := by rw [hW2, ← hn]; exact blk_al (blk_new _ _) _
  have F2 : Hid (W2.heap[n + 1]? = some (.cells #[.int .u16 6, .int .u8 jt, .int .u8 jf, .int .u32 k] 141)) := by
    have h := blk_new (w.alloc (.cells #[.pointer (some ⟨br, 0, none⟩)] 272)) (.cells #[.int .u16 6, .int .u8 jt, .int .u8 jf, .int .u32 k] 141)
    rw [World.size_alloc, hn] at h
    rw [hW2]
    exact h
  have FR : Hid (W2.heap[br]? = some (.cells #[nr, ar, .slice (some ⟨bs, 0, none⟩) 1 1, .bool p, .int .u32 q, .bool false] 271)) := by rw [hW2]; exact blk_al (blk_al hr _) _
  have FS : Hid (W2.heap[bs]? = some (.cells cs 278)) := by rw [hW2]; exact blk_al (blk_al hs _) _
  have HN := Lib.hid hn
  have H1 := Lib.hid h1
  have HCS := Lib.hid hcs
  clear hr hs h1 hcs
  rw [hW2] at HB2 HZ2 F1 F2 FR FS
  clear hW2 W2
  go_enter Tryz.func230, Tryz.ntmps230
  go_upto_region 1 with fail
  generalize ((w.alloc (.cells #[.pointer (some ⟨br, 0, none⟩)] 272)).alloc (.cells #[.int .u16 6, .int .u8 jt, .int .u8 jf, .int .u32 k] 141)) = W2 at *
  clear hn
  have a0 : W2.cell? ⟨n, 0, none⟩ = some (.pointer (some ⟨br, 0, none⟩)) := blk_cell F1.out 0
  have r2 : W2.cell? ⟨br, 2, none⟩ = some (.slice (some ⟨bs, 0, none⟩) 1 1) := blk_cell FR.out 2
  have F0 := trivial
  have hszS : ∀ w, (sizeOf 278).run Tryz.prog w = .ok 37 w := Tryz.sizeOf278
  go_upto_region 2 with (first
    | (clear F0; refine wpList_load_row (w := W2) rfl 278 _ rfl bs rfl 278 cs (0, 0) _ FS.out Tryz.underlying278 rfl (by rw [HCS.out]; exact infoSt) ?_; have G1 := trivial)
    | (clear G1; refine wpList_alloc_row (w := W2) rfl 278 rfl (n + 1 + 1) HZ2.out zSt 37 (by kernel_rfl) ?_; intro W5 hW5; have G2 := trivial)
    | (clear G2; refine wpList_store_row (w := W5) rfl _ _ _ rfl (n + 1 + 1) cs rfl rfl _ _ hW5.here (by rw [HCS.out]; exact infoSt) (by rw [HCS.out]; rfl) H1.out ?_; intro W6 hW6; have G3 := trivial))
  have HB6 : Hid (Below (n + 1 + 1) W2 W6) := hW5.bel.trans hW6.bel
  clear a0 r2 hW5 hW6 G3
  have e1 := (HB6.out.block n (by omega)).trans F1.out
  have e2 := (HB6.out.block (n + 1) (by omega)).trans F2.out
  have HE1 := Lib.hid e1
  have HE2 := Lib.hid e2
  have HR6 := Lib.hid ((HB6.out.block br (by have := HN.out; omega)).trans FR.out)
  have x0 : W6.cell? ⟨n + 1, 0, none⟩ = some (.int .u16 6) := blk_cell e2 0
  clear e1 e2
  have hb : bits .and .u16 6 7 = 6 := by decide
  have hb2 : bits .and .u16 6 16 = 0 := by decide
  go_upto_region 24 with fail
  have a6 : W6.cell? ⟨n, 0, none⟩ = some (.pointer (some ⟨br, 0, none⟩)) := blk_cell HE1.out 0
  have k6 : W6.cell? ⟨n + 1, 3, none⟩ = some (.int .u32 k) := blk_cell HE2.out 3
  have mixed : (Tryz.prog).follows Departure.mixedOrders = true := by kernel_rfl
  clear x0
  go_region_law_o (go_simp; first | (go_at_call 229; refine (c_known _ _).mono ?_; rintro e w7 ⟨rfl, hB7⟩; have a7 := cell_bel (undrew hB7) a6; have hr7 := blk_bel (undrew hB7) HR6.out; have hk7 : Below W6.heap.size W6 w7 := undrew hB7) | (go_at_call 243; refine (c_returnsR br nr ar (.slice (some ⟨bs, 0, none⟩) 1 1) p q k _ hr7).mono ?_; rintro e w8 ⟨⟨u, rfl⟩, hr8, hk8, hB8⟩))
  all_goals
    go_wp2_with fail
    refine bodyPost_ret (results_none rfl _ _ _) rfl ?_
    exact ⟨⟨_, rfl⟩, hr8, (((HB2.out.trans (HB6.out.mono (by rw [HN.out]; omega))).trans (hk7.mono (by have h1 := HB2.out.size; have h2 := HB6.out.size; omega))).mono (Nat.le_of_lt hlt)).trans hB8⟩
end Go.Proofs.YtbojjjiggppnaaaGreat

/-! The walk of bitmap's flow at a program of one return. -/
namespace Go.Proofs.YtbojjjiggppnaaaGreat
open Go.RowKit Go.Shelf
set_option linter.unusedVariables false
set_option linter.unusedSimpArgs false
attribute [-simp] Tryz.isAgg278 Tryz.sizeOf278

theorem infoSt3 : (Tryz.prog.info? 278).map (fun i => (i.zero, i.size, i.bytes)) = some (some (.agg zSt), 37, 148) := by kernel_rfl
theorem made_st : madeCells zSt 37 = zSt := by kernel_rfl
theorem mk_st (W : World) : (Instr.makeSlice 244 (.int .i64 1) (.int .i64 1)).run Tryz.prog W = .ok (.slice (some ⟨W.heap.size, 0, none⟩) 1 1) (W.alloc (.cells zSt 278)) := by
  obtain ⟨i0, hi, hzz⟩ := Option.map_eq_some_iff.1 infoSt3
  simp only [Prod.mk.injEq] at hzz
  obtain ⟨hz0, hz1, hz2⟩ := hzz
  have h := run_makeSlice (P := Tryz.prog) W 244 278 i0 (.agg zSt) Tryz.underlying244 hi hz0 .i64 .i64 1 1 (by omega) (by omega) (by rw [hz1]; decide) (by rw [hz2]; decide) (by omega)
  rw [h, hz1]
  show _ = Result.ok _ (W.alloc (.cells zSt 278))
  have hm : madeCells (Value.agg zSt).cells ((1 : Int).toNat * 37) = zSt := made_st
  rw [hm]
  rfl
/-- A state's cells, reached. -/
def StOk (cs : Array Value) : Prop := cs.size = 37 ∧ cs[0]? = some (.bool true) ∧ ∀ u ∈ cs.toList, u.oneCell' = true
theorem StOk.set {cs : Array Value} (h : StOk cs) {j : Nat} (hj : 0 < j) {u : Value} (hu : u.oneCell' = true) : StOk (cs.setIfInBounds j u) := by
  refine ⟨by rw [Array.size_setIfInBounds]; exact h.1, ?_, fun v hv => ?_⟩
  · rw [Array.getElem?_setIfInBounds]
    rw [if_neg (by omega)]
    exact h.2.1
  · rw [Array.toList_setIfInBounds] at hv
    rcases List.mem_or_eq_of_mem_set hv with hv | rfl
    · exact h.2.2 v hv
    · exact hu
theorem StOk.all {cs : Array Value} (h : StOk cs) : cs.all (·.oneCell') = true := by
  rw [← Array.all_toList, List.all_eq_true]
  exact h.2.2
def oneSt : Array Value := #[.bool true, .bool true, .int .u32 0, .bool true, .int .u32 0, .bool false, .int .u32 0, .bool false, .int .u32 0, .bool false, .int .u32 0, .bool false, .int .u32 0, .bool false, .int .u32 0, .bool false, .int .u32 0, .bool false, .int .u32 0, .bool false, .int .u32 0, .bool false, .int .u32 0, .bool false, .int .u32 0, .bool false, .int .u32 0, .bool false, .int .u32 0, .bool false, .int .u32 0, .bool false, .int .u32 0, .bool false, .int .u32 0, .bool false, .int .u32 0]
theorem stOk_one : StOk oneSt := ⟨rfl, rfl, by intro u hu; simp only [oneSt, List.mem_cons, List.not_mem_nil, or_false] at hu; rcases hu with rfl | rfl | rfl | rfl | rfl | rfl | rfl | rfl | rfl | rfl | rfl | rfl | rfl | rfl | rfl | rfl | rfl | rfl | rfl | rfl | rfl | rfl | rfl | rfl | rfl | rfl | rfl | rfl | rfl | rfl | rfl | rfl | rfl | rfl | rfl | rfl | rfl <;> rfl⟩
set_option maxRecDepth 100000 in
set_option maxHeartbeats 4000000 in
theorem c_flow6 (A : Option Addr) (c : Nat) (jt jf k nr ar : Int) (ok : Nat → Prop) (w : World) (hrow : kInsn.Row w ok A [⟨6, jt, jf, k⟩]) :
    Calls Tryz.prog 208 #[.slice A 1 c, .agg #[.int .u32 nr, .int .u32 ar]] w fun e w' => ∃ br : Nat, e = .returned (.pointer (some ⟨br, 0, none⟩)) ∧ (∃ c0 c1 c2 : Value, w'.heap[br]? = some (.cells #[c0, c1, c2, .bool true, .int .u32 k, .bool true] 271)) ∧ Below w.heap.size w w' := by
  obtain ⟨n, hn⟩ : ∃ n, w.heap.size = n := ⟨_, rfl⟩
  have HROW := Lib.hid hrow
  have HN := Lib.hid hn
  have mixed : (Tryz.prog).follows Departure.mixedOrders = true := by kernel_rfl
  have hszS : ∀ w, (sizeOf 278).run Tryz.prog w = .ok 37 w := Tryz.sizeOf278
  have hmk := mk_st
  clear hrow
  go_enter Tryz.func208, Tryz.ntmps208
  have FR3 : Hid (((((w.alloc (.cells #[.int .u32 nr, .int .u32 ar] 241)).alloc (.cells zSt 278)).alloc (.cells #[.int .u32 nr, .int .u32 ar, .slice (some ⟨n + 1, 0, none⟩) 1 1, .bool false, .int .u32 0, .bool false] 271))).heap[n + 1 + 1]? = some (.cells #[.int .u32 nr, .int .u32 ar, .slice (some ⟨n + 1, 0, none⟩) 1 1, .bool false, .int .u32 0, .bool false] 271)) := by
    have h := blk_new ((w.alloc (.cells #[.int .u32 nr, .int .u32 ar] 241)).alloc (.cells zSt 278)) (.cells #[.int .u32 nr, .int .u32 ar, .slice (some ⟨n + 1, 0, none⟩) 1 1, .bool false, .int .u32 0, .bool false] 271)
    rwa [World.size_alloc, World.size_alloc, hn] at h
  have FS3 : Hid (((((w.alloc (.cells #[.int .u32 nr, .int .u32 ar] 241)).alloc (.cells zSt 278)).alloc (.cells #[.int .u32 nr, .int .u32 ar, .slice (some ⟨n + 1, 0, none⟩) 1 1, .bool false, .int .u32 0, .bool false] 271))).heap[n + 1]? = some (.cells zSt 278)) := by
    have h := blk_new (w.alloc (.cells #[.int .u32 nr, .int .u32 ar] 241)) (.cells zSt 278)
    rw [World.size_alloc, hn] at h
    exact blk_al h _
  have HB3 : Hid (Below w.heap.size w (((w.alloc (.cells #[.int .u32 nr, .int .u32 ar] 241)).alloc (.cells zSt 278)).alloc (.cells #[.int .u32 nr, .int .u32 ar, .slice (some ⟨n + 1, 0, none⟩) 1 1, .bool false, .int .u32 0, .bool false] 271))) := below_al (below_al (below_al (Below.refl _ _) _) _) _
  go_upto_region 1 with fail
  go_region
  have FR3' : Hid (((((w.alloc (.cells #[.int .u32 nr, .int .u32 ar] 241)).alloc (.cells zSt 278)).alloc (.cells #[.int .u32 nr, .int .u32 ar, .slice (some ⟨n + 1, 0, none⟩) 1 1, .bool false, .int .u32 0, .bool false] 271))).drew.heap[n + 1 + 1]? = some (.cells #[.int .u32 nr, .int .u32 ar, .slice (some ⟨n + 1, 0, none⟩) 1 1, .bool false, .int .u32 0, .bool false] 271)) := FR3.out
  have FS3' : Hid (((((w.alloc (.cells #[.int .u32 nr, .int .u32 ar] 241)).alloc (.cells zSt 278)).alloc (.cells #[.int .u32 nr, .int .u32 ar, .slice (some ⟨n + 1, 0, none⟩) 1 1, .bool false, .int .u32 0, .bool false] 271))).drew.heap[n + 1]? = some (.cells zSt 278)) := FS3.out
  have HB3' : Hid (Below w.heap.size w ((((w.alloc (.cells #[.int .u32 nr, .int .u32 ar] 241)).alloc (.cells zSt 278)).alloc (.cells #[.int .u32 nr, .int .u32 ar, .slice (some ⟨n + 1, 0, none⟩) 1 1, .bool false, .int .u32 0, .bool false] 271))).drew) := below_d1 HB3.out
  clear hn hmk FR3 FS3 HB3
  generalize ((((w.alloc (.cells #[.int .u32 nr, .int .u32 ar] 241)).alloc (.cells zSt 278)).alloc (.cells #[.int .u32 nr, .int .u32 ar, .slice (some ⟨n + 1, 0, none⟩) 1 1, .bool false, .int .u32 0, .bool false] 271))).drew = W3 at *
  go_upto_region 2 with fail
  go_wp2_with fail
  refine (c_known 0 _).mono ?_
  rintro e w4 ⟨rfl, hB4⟩
  obtain ⟨m, hm⟩ : ∃ m, w4.heap.size = m := ⟨_, rfl⟩
  have FM5 : Hid ((w4.alloc (.cells #[.bool true, .int .u32 0] 246)).heap[m]? = some (.cells #[.bool true, .int .u32 0] 246)) := by rw [← hm]; exact blk_new _ _
  have FR5 : Hid ((w4.alloc (.cells #[.bool true, .int .u32 0] 246)).heap[n + 1 + 1]? = some (.cells #[.int .u32 nr, .int .u32 ar, .slice (some ⟨n + 1, 0, none⟩) 1 1, .bool false, .int .u32 0, .bool false] 271)) := blk_al (blk_bel hB4 FR3'.out) _
  have FS5 : Hid ((w4.alloc (.cells #[.bool true, .int .u32 0] 246)).heap[n + 1]? = some (.cells zSt 278)) := blk_al (blk_bel hB4 FS3'.out) _
  have HB5 : Hid (Below w.heap.size w (w4.alloc (.cells #[.bool true, .int .u32 0] 246))) := below_al (HB3'.out.trans (hB4.mono HB3'.out.size)) _
  have hmn : n + 1 + 1 < m := by have := blk_lt (blk_bel hB4 FR3'.out); omega
  clear hB4 FR3' FS3' HB3'
  go_upto_region 3 with fail
  generalize (w4.alloc (.cells #[.bool true, .int .u32 0] 246)) = W5 at *
  clear hm
  have hS : ∀ w', Below W5.heap.size W5 w' → w'.cell? ⟨n + 1 + 1, 2, none⟩ = some (.slice (some ⟨n + 1, 0, none⟩) 1 1) ∧ w'.cell? ⟨m, 0, none⟩ = some (.bool true) ∧ w'.cell? ⟨m, 1, none⟩ = some (.int .u32 0) := fun w' h => ⟨blk_cell (blk_bel h FR5.out) 2, blk_cell (blk_bel h FM5.out) 0, blk_cell (blk_bel h FM5.out) 1⟩
  have HS := Lib.hid hS
  clear hS
  refine wp_region_till (S := fun w' => w'.cell? ⟨n + 1 + 1, 2, none⟩ = some (.slice (some ⟨n + 1, 0, none⟩) 1 1) ∧ w'.cell? ⟨m, 0, none⟩ = some (.bool true) ∧ w'.cell? ⟨m, 1, none⟩ = some (.int .u32 0)) (fun j => j == 8) 9 _ (by kernel_rfl) rfl (by kernel_rfl) (HS.out _ (below_d1 (Below.refl _ _))) (fun hHeld => ?_)
  refine anyTill_take (i := 0) (oi := ⟨some 17, _, _, _, _, _⟩) (v := ?_) rfl (by kernel_rfl) (by kernel_rfl) (by kernel_rfl) (by kernel_rfl) (fun _ _ _ h => h) (Or.inl ⟨by rfl, ?_⟩) hHeld ?_
  rotate_left
  · intro w hSw
    (try dsimp only at hSw)
    go_simp
    try with_reducible rfl
  (try simp only [Act.put, List.setIfInBounds_toArray, List.set_cons_zero, List.set_cons_succ])
  refine anyTill_take (i := 1) (oi := ⟨some 18, _, _, _, _, _⟩) (v := ?_) rfl (by kernel_rfl) (by kernel_rfl) (by kernel_rfl) (by kernel_rfl) (fun _ _ _ h => h) (Or.inl ⟨by rfl, ?_⟩) hHeld ?_
  rotate_left
  · intro w hSw
    (try dsimp only at hSw)
    go_simp
    try with_reducible rfl
  (try simp only [Act.put, List.setIfInBounds_toArray, List.set_cons_zero, List.set_cons_succ])
  refine anyTill_take (i := 2) (oi := ⟨some 19, _, _, _, _, _⟩) (v := ?_) rfl (by kernel_rfl) (by kernel_rfl) (by kernel_rfl) (by kernel_rfl) (fun _ _ _ h => h) (Or.inl ⟨by rfl, ?_⟩) hHeld ?_
  rotate_left
  · intro w hSw
    (try dsimp only at hSw)
    go_simp
    try with_reducible rfl
  (try simp only [Act.put, List.setIfInBounds_toArray, List.set_cons_zero, List.set_cons_succ])
  refine anyTill_take (i := 3) (oi := ⟨some 20, _, _, _, _, _⟩) (v := ?_) rfl (by kernel_rfl) (by kernel_rfl) (by kernel_rfl) (by kernel_rfl) (fun _ _ _ h => h) (Or.inl ⟨by rfl, ?_⟩) hHeld ?_
  rotate_left
  · intro w hSw
    (try dsimp only at hSw)
    go_simp
    try with_reducible rfl
  (try simp only [Act.put, List.setIfInBounds_toArray, List.set_cons_zero, List.set_cons_succ])
  refine anyTill_take (i := 4) (oi := ⟨some 21, _, _, _, _, _⟩) (v := ?_) rfl (by kernel_rfl) (by kernel_rfl) (by kernel_rfl) (by kernel_rfl) (fun _ _ _ h => h) (Or.inl ⟨by rfl, ?_⟩) hHeld ?_
  rotate_left
  · intro w hSw
    (try dsimp only at hSw)
    go_simp
    try with_reducible rfl
  (try simp only [Act.put, List.setIfInBounds_toArray, List.set_cons_zero, List.set_cons_succ])
  refine anyTill_take (i := 5) (oi := ⟨some 22, _, _, _, _, _⟩) (v := ?_) rfl (by kernel_rfl) (by kernel_rfl) (by kernel_rfl) (by kernel_rfl) (fun _ _ _ h => h) (Or.inl ⟨by rfl, ?_⟩) hHeld ?_
  rotate_left
  · intro w hSw
    (try dsimp only at hSw)
    go_simp
    try with_reducible rfl
  (try simp only [Act.put, List.setIfInBounds_toArray, List.set_cons_zero, List.set_cons_succ])
  refine anyTill_take (i := 6) (oi := ⟨some 23, _, _, _, _, _⟩) (v := ?_) rfl (by kernel_rfl) (by kernel_rfl) (by kernel_rfl) (by kernel_rfl) (fun _ _ _ h => h) (Or.inl ⟨by rfl, ?_⟩) hHeld ?_
  rotate_left
  · intro w hSw
    (try dsimp only at hSw)
    go_simp
    try with_reducible rfl
  (try simp only [Act.put, List.setIfInBounds_toArray, List.set_cons_zero, List.set_cons_succ])
  refine anyTill_take (i := 7) (oi := ⟨some 24, _, _, _, _, _⟩) (v := ?_) rfl (by kernel_rfl) (by kernel_rfl) (by kernel_rfl) (by kernel_rfl) (fun _ _ _ h => h) (Or.inl ⟨by rfl, ?_⟩) hHeld ?_
  rotate_left
  · intro w hSw
    (try dsimp only at hSw)
    go_simp
    try with_reducible rfl
  (try simp only [Act.put, List.setIfInBounds_toArray, List.set_cons_zero, List.set_cons_succ])
  refine anyTill_each (rs := [8]) (by kernel_rfl) (by simp) ?_
  refine eachTill_cons (o := ⟨none, _, _, _, _, _⟩) rfl (fun K hK => ?_) eachTill_nil
  rw [if_pos (by rfl)]
  refine wp_store_row 278 _ _ rfl (n + 1) oneSt rfl rfl _ _ FS5.out infoSt (by rfl) (stOk_one.all) ?_
  intro W6 hW6
  have FS6 : Hid (W6.heap[n + 1]? = some (.cells oneSt 278)) := hW6.here
  have FR6 : Hid (W6.heap[n + 1 + 1]? = some (.cells #[.int .u32 nr, .int .u32 ar, .slice (some ⟨n + 1, 0, none⟩) 1 1, .bool false, .int .u32 0, .bool false] 271)) := (hW6.far _ (by omega)).trans FR5.out
  have FM6 : Hid (W6.heap[m]? = some (.cells #[.bool true, .int .u32 0] 246)) := (hW6.far _ (by omega)).trans FM5.out
  have HB6 : Hid (Below w.heap.size w W6) := HB5.out.trans (undrew (hW6.bel.mono (by rw [HN.out]; omega)))
  refine hK.out _ _ (.inl rfl) (fun hcl => ?_)
  clear hcl hK K hHeld hW6 FS5 FR5 FM5 HB5 HS
  (try simp only [Act.put, List.setIfInBounds_toArray, List.set_cons_zero, List.set_cons_succ])
  refine anyTill_done (by kernel_rfl) ?_ _
  have HOK := Lib.hid stOk_one
  generalize oneSt = cs6 at *
  go_wp2_with fail
  go_loopw [7, 25] (fun _ i wr => ∃ (j : Nat) (cs : Array Value), j ≤ 16 ∧ i = .int .i64 j ∧ Hid (StOk cs) ∧ Hid (wr.heap[n + 1]? = some (.cells cs 278)) ∧ Hid (wr.heap[n + 1 + 1]? = some (.cells #[.int .u32 nr, .int .u32 ar, .slice (some ⟨n + 1, 0, none⟩) 1 1, .bool false, .int .u32 0, .bool false] 271)) ∧ Hid (wr.heap[m]? = some (.cells #[.bool true, .int .u32 0] 246)) ∧ Hid (Below w.heap.size w wr)) (fun _ i _ => 16 - (intOf i).toNat)
  case atStart => exact ⟨0, cs6, by omega, rfl, HOK.out, FS6.out, FR6.out, FM6.out, HB6.out⟩
  case round =>
    clear HOK FS6 FR6 FM6 HB6
    obtain ⟨j, cs, hj, rfl, hok, hfs, hfr, hfm, hbw⟩ := hrel
    by_cases hlt : j < 16
    · have p2 : wr.cell? ⟨n + 1 + 1, 2, none⟩ = some (.slice (some ⟨n + 1, 0, none⟩) 1 1) := blk_cell hfr.out 2
      have m0 : wr.cell? ⟨m, 0, none⟩ = some (.bool true) := blk_cell hfm.out 0
      have m1 : wr.cell? ⟨m, 1, none⟩ = some (.int .u32 0) := blk_cell hfm.out 1
      have hsz := hok.out.1
      have t0 : wr.cell? ⟨n + 1, 5 + j * 2, none⟩ = some (cs[5 + j * 2]'(by omega)) := (blk_cell hfs.out _).trans (Array.getElem?_eq_getElem _)
      have t1 : wr.cell? ⟨n + 1, 5 + j * 2 + 1, none⟩ = some (cs[5 + j * 2 + 1]'(by omega)) := (blk_cell hfs.out _).trans (Array.getElem?_eq_getElem _)
      have f0 : wr.frozen? ⟨n + 1, 5 + j * 2, none⟩ = false := blk_free hfs.out _
      have f1 : wr.frozen? ⟨n + 1, 5 + j * 2 + 1, none⟩ = false := blk_free hfs.out _
      generalize (cs[5 + j * 2]'(by omega)) = u0 at t0
      generalize (cs[5 + j * 2 + 1]'(by omega)) = u1 at t1
      clear hsz
      have hj0 : (0 : Int) ≤ (j : Int) := by omega
      have hj1 : (j : Int) < 16 := by omega
      go_upto_region 7 with fail
      go_region
      go_wp2_with fail
      have hbA : Below n wr (((wr.setCell ⟨n + 1, 5 + j * 2, none⟩ (.bool true)).setCell ⟨n + 1, 5 + j * 2 + 1, none⟩ (.int .u32 0)).drew) := below_d1 (((Below.refl n wr).setCell (p := ⟨n + 1, 5 + j * 2, none⟩) (by simp only; omega) _).setCell (p := ⟨n + 1, 5 + j * 2 + 1, none⟩) (by simp only; omega) _)
      go_roundw
      case rel => exact ⟨j + 1, (cs.setIfInBounds (5 + j * 2) (.bool true)).setIfInBounds (5 + j * 2 + 1) (.int .u32 0), by omega, by go_num, (hok.out.set (by omega) rfl).set (by omega) rfl, blk_set (blk_set hfs.out _) _, blk_far (blk_far hfr.out (by simp only; omega) _) (by simp only; omega) _, blk_far (blk_far hfm.out (by simp only; omega) _) (by simp only; omega) _, hbw.out.trans (by rw [HN.out]; exact hbA)⟩
      case measure => simp [intOf]; omega
    · have hd : decide ((j : Int) < 16) = false := decide_eq_false (by omega)
      have HST : Hid (∃ cs : Array Value, Hid (StOk cs) ∧ Hid (wr.heap[n + 1]? = some (.cells cs 278)) ∧ Hid (wr.heap[n + 1 + 1]? = some (.cells #[.int .u32 nr, .int .u32 ar, .slice (some ⟨n + 1, 0, none⟩) 1 1, .bool false, .int .u32 0, .bool false] 271)) ∧ Hid (Below w.heap.size w wr)) := ⟨cs, hok, hfs, hfr, hbw⟩
      clear hok hfs hfr hbw hfm
      go_wp2_with fail
      clear hd hlt hj
      go_loopw [8, 9, 40] (fun _ _ i wr => ∃ j : Nat, j ≤ 1 ∧ i = .int .i64 j ∧ Hid (j = 0 → ∃ cs : Array Value, Hid (StOk cs) ∧ Hid (wr.heap[n + 1]? = some (.cells cs 278)) ∧ Hid (wr.heap[n + 1 + 1]? = some (.cells #[.int .u32 nr, .int .u32 ar, .slice (some ⟨n + 1, 0, none⟩) 1 1, .bool false, .int .u32 0, .bool false] 271)) ∧ Hid (Below w.heap.size w wr)) ∧ Hid (j = 1 → wr.heap[n + 1 + 1]? = some (.cells #[.int .u32 nr, .int .u32 ar, .slice (some ⟨n + 1, 0, none⟩) 1 1, .bool true, .int .u32 k, .bool true] 271) ∧ Below w.heap.size w wr)) (fun _ _ i _ => 1 - (intOf i).toNat)
      case atStart => exact ⟨0, by omega, rfl, fun _ => HST.out, fun h => absurd h (by omega)⟩
      case round =>
        clear HST
        obtain ⟨j, hj, rfl, h0, h1⟩ := hrel
        by_cases hlt : j < 1
        · obtain rfl : j = 0 := by omega
          obtain ⟨cs, hok, hfs, hfr, hbw⟩ := h0.out rfl
          obtain ⟨ad, rfl, hoka, hwf, e0, e1, e2, e3⟩ := kInsn.at_ (HROW.out.bel hbw.out) (i := 0) (by simp)
          have had0 : ad.add 0 = ad := by unfold Addr.add; simp
          simp only [List.getElem_cons_zero, Nat.zero_mul, had0] at e0 e1 e2 e3
          clear had0
          have p2 : wr.cell? ⟨n + 1 + 1, 2, none⟩ = some (.slice (some ⟨n + 1, 0, none⟩) 1 1) := blk_cell hfr.out 2
          have s0 : wr.cell? ⟨n + 1, 0, none⟩ = some (.bool true) := (blk_cell hfs.out 0).trans hok.out.2.1
          clear h0 h1 hwf
          obtain ⟨mi, hmi⟩ : ∃ mi, wr.heap.size = mi := ⟨_, rfl⟩
          have HI : Hid ((wr.alloc (.cells #[.int .u16 6, .int .u8 jt, .int .u8 jf, .int .u32 k] 141)).heap[mi]? = some (.cells #[.int .u16 6, .int .u8 jt, .int .u8 jf, .int .u32 k] 141)) := by rw [← hmi]; exact blk_new _ _
          have HFR := Lib.hid (blk_al hfr.out (.cells #[.int .u16 6, .int .u8 jt, .int .u8 jf, .int .u32 k] 141))
          have HFS := Lib.hid (blk_al hfs.out (.cells #[.int .u16 6, .int .u8 jt, .int .u8 jf, .int .u32 k] 141))
          have HBW : Hid (Below w.heap.size w (wr.alloc (.cells #[.int .u16 6, .int .u8 jt, .int .u8 jf, .int .u32 k] 141))) := below_al hbw.out _
          go_upto_region 12 with fail
          generalize (wr.alloc (.cells #[.int .u16 6, .int .u8 jt, .int .u8 jf, .int .u32 k] 141)) = W7 at *
          clear hmi e0 e1 e2 e3 p2 s0
          have p2 : W7.cell? ⟨n + 1 + 1, 2, none⟩ = some (.slice (some ⟨n + 1, 0, none⟩) 1 1) := blk_cell HFR.out 2
          have s0 : W7.cell? ⟨n + 1, 0, none⟩ = some (.bool true) := (blk_cell HFS.out 0).trans hok.out.2.1
          have i0 : W7.cell? ⟨mi, 0, none⟩ = some (.int .u16 6) := blk_cell HI.out 0
          have i1 : W7.cell? ⟨mi, 1, none⟩ = some (.int .u8 jt) := blk_cell HI.out 1
          have i2 : W7.cell? ⟨mi, 2, none⟩ = some (.int .u8 jf) := blk_cell HI.out 2
          have i3 : W7.cell? ⟨mi, 3, none⟩ = some (.int .u32 k) := blk_cell HI.out 3
          have HST7 := Lib.hid (c_step6b (n + 1 + 1) (n + 1) (.int .u32 nr) (.int .u32 ar) cs hok.out.1 hok.out.all false 0 jt jf k W7 HFR.out HFS.out)
          go_wp2_with (first | (go_at_call 230; refine HST7.out.mono ?_; rintro e w8 ⟨⟨u, rfl⟩, hr8, hB8⟩; have HR8 := Lib.hid hr8; have HB8 : Hid (Below w.heap.size w w8) := HBW.out.trans (hB8.mono (by rw [HN.out]; omega)); clear hr8 hB8))
          go_roundw
          case rel => exact ⟨1, by omega, by go_num, fun h => absurd h (by omega), fun _ => ⟨HR8.out, HB8.out⟩⟩
          case measure => simp [intOf]
        · obtain rfl : j = 1 := by omega
          obtain ⟨h2, h3⟩ := h1.out rfl
          have H2 := Lib.hid h2
          have H3 := Lib.hid h3
          clear h0 h1 h2 h3
          go_wp2_with fail
          go_ret
          exact ⟨n + 1 + 1, rfl, ⟨_, _, _, H2.out⟩, H3.out⟩
end Go.Proofs.YtbojjjiggppnaaaGreat

/-! The walks of bitmap's allows, Bits and of chain's bits at a program of one return. -/
namespace Go.Proofs.YtbojjjiggppnaaaGreat
open Go.RowKit Go.Shelf
set_option linter.unusedVariables false
set_option linter.unusedSimpArgs false

theorem check6 (jt jf k : Int) : checkL [⟨6, jt, jf, k⟩] = (0, 0) := by
  have h : oneF ⟨6, jt, jf, k⟩ 0 1 = 0 := by
    have hf : formF 6 = 1 := by decide
    unfold oneF
    simp only [hf]
    repeat rw [if_neg (by omega)]
  have h1 : retB ⟨6, jt, jf, k⟩ = true := by simp [retB]
  simp [checkL, firstBad, h, h1]
/-- Does a program that returns k allow? -/
def allowB (k : Int) : Bool := splitA k == 7 && k % 65536 == 0
theorem run_eqlVerdict (a b : Int) (w : World) : (binOp .eql 53 (.agg #[.int .i64 a, .int .u16 b]) (.agg #[.int .i64 7, .int .u16 0])).run Tryz.prog w = .ok (.bool (a == 7 && b == 0)) w := by
  have u3 := Tryz.underlying3
  have u4 := Tryz.underlying51
  have a3 := Tryz.isAgg3
  have a4 := Tryz.isAgg51
  have z3 := Tryz.sizeOf3
  have z4 := Tryz.sizeOf51
  have hS : Tryz.prog.underlying 53 = some (.struct (Tryz.prog.fieldsOf 53)) := by kernel_rfl
  rw [run_eql_struct, run_equalIn_agg _ _ _ _ _ hS (by kernel_rfl)]
  simp only [Program.fieldsOf, Tryz.underlying53]
  go_simp
  by_cases h1 : a = 7 <;> by_cases h2 : b = 0 <;> simp_all
set_option maxRecDepth 100000 in
set_option maxHeartbeats 2000000 in
theorem c_allows6 (A : Option Addr) (c : Nat) (jt jf k nr ar : Int) (ok : Nat → Prop) (w : World) (hk : 0 ≤ k ∧ k < 4294967296) (hrow : kInsn.Row w ok A [⟨6, jt, jf, k⟩]) :
    Calls Tryz.prog 186 #[.slice A 1 c, .agg #[.int .u32 nr, .int .u32 ar]] w fun e w' => e = .returned (.bool (allowB k)) ∧ Below w.heap.size w w' := by
  have HFL := Lib.hid (fun (W : World) (h : Below w.heap.size w W) => c_flow6 A c jt jf k nr ar ok W (hrow.bel h))
  have HB1 : Hid (Below w.heap.size w (w.alloc (.cells #[.int .u32 nr, .int .u32 ar] 241))) := below_al (Below.refl _ _) _
  have hrun := run_eqlVerdict (splitA k) (k % 65536)
  have hal : allowB k = (splitA k == 7 && k % 65536 == 0) := rfl
  have HSP := Lib.hid (fun w => c_Split k hk.1 hk.2 w)
  rw [hal]
  clear hrow hal
  generalize splitA k = sa at *
  obtain ⟨sd, hsd⟩ : ∃ sd, sd = k % 65536 := ⟨_, rfl⟩
  rw [← hsd] at hrun HSP ⊢
  clear hsd
  obtain ⟨n, hn⟩ : ∃ n, w.heap.size = n := ⟨_, rfl⟩
  have F1 : Hid ((w.alloc (.cells #[.int .u32 nr, .int .u32 ar] 241)).heap[n]? = some (.cells #[.int .u32 nr, .int .u32 ar] 241)) := by rw [← hn]; exact blk_new _ _
  have HN := Lib.hid hn
  go_enter Tryz.func186, Tryz.ntmps186
  go_upto_region 1 with fail
  generalize (w.alloc (.cells #[.int .u32 nr, .int .u32 ar] 241)) = W1 at *
  clear hn
  have q0 : W1.cell? ⟨n, 0, none⟩ = some (.int .u32 nr) := blk_cell F1.out 0
  have q1 : W1.cell? ⟨n, 1, none⟩ = some (.int .u32 ar) := blk_cell F1.out 1
  go_wp2_with (first | (go_at_call 208; refine (HFL.out _ HB1.out).mono ?_; rintro e w2 ⟨br, rfl, ⟨c0, c1, c2, hr2⟩, hB2⟩; have r3 : w2.cell? ⟨br, 3, none⟩ = some (.bool true) := blk_cell hr2 3; have r4 : w2.cell? ⟨br, 4, none⟩ = some (.int .u32 k) := blk_cell hr2 4; have HB2 := Lib.hid (HB1.out.trans (hB2.mono HB1.out.size)); clear hr2 hB2) | (go_at_call 163; refine (HSP.out _).mono ?_; rintro e w3 ⟨rfl, hB3⟩))
  go_ret
  exact ⟨rfl, (HB2.out.trans ((below_al (Below.refl _ _) _).mono HB2.out.size)).trans (hB3.mono (Nat.le_trans HB2.out.size (below_al (Below.refl _ _) _).size))⟩
end Go.Proofs.YtbojjjiggppnaaaGreat

/-! The walks of bitmap.Bits and of chain's bits at a program of one return. -/
namespace Go.Proofs.YtbojjjiggppnaaaGreat
open Go.RowKit Go.Shelf
set_option linter.unusedVariables false
set_option linter.unusedSimpArgs false

/-- So many bits. -/
def onesTo (b : Bool) (j : Nat) : Int := if b then 2 ^ j - 1 else 0
theorem or_ones : ∀ j : Fin 64, bits .or .u64 (onesTo true j.val) (IntKind.u64.wrap (2 ^ j.val)) = onesTo true (j.val + 1) := by decide +kernel
set_option maxRecDepth 100000 in
set_option maxHeartbeats 2000000 in
theorem c_Bits6 (A : Option Addr) (c : Nat) (jt jf k ar : Int) (ok : Nat → Prop) (w : World) (hk : 0 ≤ k ∧ k < 4294967296) (hrow : kInsn.Row w ok A [⟨6, jt, jf, k⟩]) :
    Calls Tryz.prog 155 #[.slice A 1 c, .int .u32 ar] w fun e w' => e = .returned (.tuple #[.int .u64 (onesTo (allowB k) 64), .int .i64 0]) ∧ Below w.heap.size w w' := by
  have hck := c_checkL A [⟨6, jt, jf, k⟩] c ok w hrow
  have hT : checkT [⟨6, jt, jf, k⟩] = .tuple #[.int .i64 0, .int .i64 0] := by unfold checkT; rw [check6]
  rw [hT] at hck
  have HCK := Lib.hid hck
  have HAL := Lib.hid (fun (nr : Int) (W : World) (h : Below w.heap.size w W) => c_allows6 A c jt jf k nr ar ok W hk (hrow.bel h))
  clear hrow hck hT
  generalize allowB k = b at *
  go_enter Tryz.func155, Tryz.ntmps155
  go_wp2_with fail
  refine HCK.out.mono ?_
  rintro e w2 ⟨rfl, hB2⟩
  have HB2 := Lib.hid hB2
  clear hB2 HCK
  go_wp2_with fail
  go_loopw [8, 9, 18] (fun o _ i wr => ∃ j : Nat, j ≤ 64 ∧ i = .int .u32 j ∧ o = .int .u64 (onesTo b j) ∧ Hid (Below w.heap.size w wr)) (fun _ _ i _ => 64 - (intOf i).toNat)
  case atStart => exact ⟨0, by omega, rfl, by unfold onesTo; cases b <;> rfl, HB2.out⟩
  case round =>
    obtain ⟨j, hj, rfl, rfl, hB⟩ := hrel
    by_cases hlt : j < 64
    · go_wp2_with fail
      refine (HAL.out _ _ hB.out).mono ?_
      rintro e w3 ⟨rfl, hB3⟩
      have HB3 := Lib.hid (below_tr hB.out hB3)
      clear hB3
      cases b with
      | false =>
        have hz : ∀ j, onesTo false j = 0 := fun j => rfl
        simp only [hz]
        go_wp2_with fail
        go_roundw
        case rel => exact ⟨j + 1, by omega, by go_num, by rw [hz], HB3.out⟩
        case measure => simp [intOf]; omega
      | true =>
        go_wp2_with fail
        exact ⟨⟨j + 1, by omega, by go_num, by rw [or_ones ⟨j, hlt⟩], HB3.out⟩, by simp [intOf]; omega⟩
    · obtain rfl : j = 64 := by omega
      go_wp2_with fail
      go_ret2
      exact ⟨rfl, hB.out⟩
set_option maxRecDepth 100000 in
set_option maxHeartbeats 2000000 in
theorem c_bits6 (A : Option Addr) (c : Nat) (jt jf k : Int) (ok : Nat → Prop) (w : World) (hk : 0 ≤ k ∧ k < 4294967296) (hrow : kInsn.Row w ok A [⟨6, jt, jf, k⟩]) :
    Calls Tryz.prog 93 #[.slice A 1 c] w fun e w' => e = .returned (.tuple #[.int .u64 (onesTo (allowB k) 64), .int .u64 (onesTo (allowB k) 64)]) ∧ Below w.heap.size w w' := by
  have HB := Lib.hid (fun (ar : Int) (W : World) (h : Below w.heap.size w W) => c_Bits6 A c jt jf k ar ok W hk (hrow.bel h))
  clear hrow
  generalize onesTo (allowB k) 64 = o at *
  go_enter Tryz.func93, Tryz.ntmps93
  go_wp2_with fail
  refine (HB.out _ _ (Below.refl _ _)).mono ?_
  rintro e w2 ⟨rfl, hB2⟩
  go_wp2_with fail
  refine (HB.out _ _ hB2).mono ?_
  rintro e w3 ⟨rfl, hB3⟩
  go_wp2_with fail
  go_ret2
  exact ⟨rfl, below_tr hB2 hB3⟩
end Go.Proofs.YtbojjjiggppnaaaGreat

/-! The walks of slices.Clone at instructions, of slices.Insert at the end. -/
namespace Go.Proofs.YtbojjjiggppnaaaGreat
open Go.RowKit Go.Shelf
set_option linter.unusedVariables false
set_option linter.unusedSimpArgs false

set_option maxRecDepth 100000 in
set_option maxHeartbeats 1000000 in
/-- A row of its own, whose elements lead where they led. -/
theorem c_cloneInsn (A : Option Addr) (xs : List Insn) (c : Nat) (ok : Nat → Prop) (w : World) (hC : kInsn.Row w ok A xs) (hl : xs.length ≤ 100000) :
    Calls Tryz.prog 87 #[.slice A xs.length c] w fun e w' => ∃ v, e = .returned v ∧ kInsn.Own 141 w' w.heap.size (fun q => (ok q ∧ q < w.heap.size) ∨ w.heap.size ≤ q) v xs ∧ Below w.heap.size w w' := by
  have hnil := fun (w : World) (a : Option Addr) (n c : Nat) => Lib.run_eql_slice_nil (P := Tryz.prog) w 38 141 a n c 0 0 Tryz.underlying38
  cases A with
  | none =>
    have h0 : xs = [] := by
      cases xs with
      | nil => rfl
      | cons y ys => obtain ⟨ad, cs, e, _⟩ := hC.2 0 y rfl; cases e
    subst h0
    go_enter Tryz.func87, Tryz.ntmps87
    go_wp2_with fail
    go_ret
    exact ⟨_, rfl, Kd.Own.nil _ _ _ _ _, Below.refl _ _⟩
  | some ad =>
    have hO : kInsn.Own 141 (w.alloc (.cells #[] 141)) w.heap.size (fun q => (ok q ∧ q < w.heap.size) ∨ w.heap.size ≤ q) (.slice (some ⟨w.heap.size, 0, none⟩) 0 0) [] := Kd.Own.lit (d := kInsn) (cells := []) rfl rfl (Nat.le_refl _) (by simp) (.inr (Nat.le_refl _))
    have hC' := hC.bound.bel (below_al (Below.refl _ _) (.cells #[] 141))
    have hne : ∀ (x : Insn) (cs : List Value), kInsn.K (w.alloc (.cells #[] 141)) (fun q => ok q ∧ q < w.heap.size) x cs → kInsn.K (w.alloc (.cells #[] 141)) (fun q => ((ok q ∧ q < w.heap.size) ∨ w.heap.size ≤ q) ∧ some q ≠ (Value.slice (some ⟨w.heap.size, 0, none⟩) 0 0).ownBlock) x cs := fun x cs h => kInsn.mono (fun q hq => ⟨.inl hq, fun e => by simp only [Value.ownBlock, Option.some.injEq] at e; have := hq.2; omega⟩) h
    go_enter Tryz.func87, Tryz.ntmps87
    go_wp2_with (at_builtin; refine wp_append_kd rfl _ _ 38 141 _ 8 rfl Tryz.underlying38 infoInsnC rfl (.slice (some ⟨w.heap.size, 0, none⟩) 0 0) [] (some ad) xs.length c xs rfl rfl hO rfl hC' hne (by unfold maxLen; simp; omega) (by simp; omega) (by simp) (fun q hq => .inr (by simp at hq; omega)) ?_; intro v1 w1 hO1 hg1 hat1)
    go_ret
    exact ⟨_, rfl, by simpa using hO1, ((Below.refl _ w).alloc (Nat.le_refl _) _).grown hg1 (by simp) (fun q hq => by have := hO.le q hq; omega)⟩

set_option maxRecDepth 100000 in
set_option maxHeartbeats 2000000 in
/-- A filter behind all others. -/
theorem c_insEnd (xs : List Node) (A : Option Addr) (c base bv : Nat) (okO okS : Nat → Prop) (x : Node) (w : World) (hO : kNode.Own 65 w base okO (.slice A xs.length c) xs) (hR : kNode.Row w okS (some ⟨bv, 0, none⟩) [x])
    (hne : ∀ (y : Node) (ds : List Value), kNode.K w okS y ds → kNode.K w (fun q => okO q ∧ some q ≠ (Value.slice A xs.length c).ownBlock) y ds) (hl : xs.length ≤ 1000) (hb : base ≤ w.heap.size) (hok : ∀ q, w.heap.size ≤ q → okO q) :
    Calls Tryz.prog 94 #[.slice A xs.length c, .int .i64 xs.length, .slice (some ⟨bv, 0, none⟩) 1 1] w fun e w' => ∃ v1, e = .returned v1 ∧ kNode.Own 65 w' base okO v1 (xs ++ [x]) ∧ w.grownBy w' (Value.slice A xs.length c).ownBlock := by
  obtain ⟨A', c', hv, hlc, hcm⟩ := hO.form
  simp only [Value.slice.injEq, true_and] at hv
  obtain ⟨rfl, rfl⟩ := hv
  have hcm' : c ≤ 9223372036854775807 := by unfold maxLen at hcm; omega
  obtain ⟨ob, hob⟩ : ∃ ob, (Value.slice A xs.length c).ownBlock = ob := ⟨_, rfl⟩
  rw [hob]
  have HOB := Lib.hid hob
  clear hob
  have HO := Lib.hid hO
  have HR := Lib.hid hR
  have HNE := Lib.hid hne
  have HOK := Lib.hid hok
  clear hO hR hne hok hcm
  go_enter Tryz.func94, Tryz.ntmps94
  go_wp2_with (first | (at_builtin; refine wp_append_kd (d := kNode) (base := base) rfl _ _ 29 65 _ 72 rfl Tryz.underlying29 infoNode rfl (.slice A xs.length c) xs (some ⟨bv, 0, none⟩) 1 1 [x] rfl rfl HO.out rfl HR.out HNE.out (by unfold maxLen; omega) (by omega) hb HOK.out ?_; intro v1 w1 hO1 hg1 hat1))
  all_goals
    go_ret
    exact ⟨_, rfl, hO1, by have h := hg1; rw [HOB.out] at h; exact h⟩
end Go.Proofs.YtbojjjiggppnaaaGreat

/-! The walk of chain.Add's change, at a program of one return and filters numbered in turn. -/
namespace Go.Proofs.YtbojjjiggppnaaaGreat
open Go.RowKit Go.Shelf
set_option linter.unusedVariables false
set_option linter.unusedSimpArgs false

/-- Numbered in turn. -/
def InTurn (xs : List Node) : Prop := ∀ i (hi : i < xs.length), xs[i].id = (i : Int) + 1
theorem InTurn.rising {xs : List Node} (h : InTurn xs) : Rising xs := fun i j hi hj hij => by rw [h i hi, h j hj]; omega
/-- The parent's size. -/
def UpSize (xs : List Node) (par up : Int) : Prop := (par = 0 ∧ up = 0) ∨ (par ≠ 0 ∧ ∃ x, findN xs par = some x ∧ x.size = up)
def addNode (xs : List Node) (par up jt jf k : Int) : Node := ⟨(xs.length : Int) + 1, par, [⟨6, jt, jf, k⟩], 5 + up, 1, onesTo (allowB k) 64, onesTo (allowB k) 64⟩
theorem own_insn {e : TypeId} {w : World} {base : Nat} {ok : Nat → Prop} {v : Value} {xs : List Insn} (h : kInsn.Own e w base ok v xs) : kInsn.Own e w base (fun q => base ≤ q) v xs := by
  obtain ⟨cells, ho, hr, hk⟩ := h
  exact ⟨cells, ho, hr.imp (fun _ _ h => h), fun k h => (ho.lt k h).1⟩
theorem onesTo_rng (b : Bool) : Kd.rng .u64 (onesTo b 64) := by
  cases b <;> simp only [onesTo, Kd.rng] <;> decide
/-- The new filter's own box. -/
structure Fresh (w : World) (bn : Nat) (Ac : Option Addr) (cc : Nat) (jt jf k par i s o t : Int) (W : World) : Prop where
  n : W.heap[bn]? = some (.cells #[.int .i64 i, .int .i64 par, .slice Ac 1 cc, .int .i64 s, .int .i64 1, .int .u64 o, .int .u64 t] 65)
  p : kInsn.slice.K W (fun q => q ≠ bn ∧ w.heap.size ≤ q) [⟨6, jt, jf, k⟩] [.slice Ac 1 cc]
  b : Below w.heap.size w W
namespace Fresh
variable {w : World} {bn : Nat} {Ac : Option Addr} {cc : Nat} {jt jf k par i s o t : Int} {W W' : World}
theorem bel (h : Fresh w bn Ac cc jt jf k par i s o t W) (hb : Below W.heap.size W W') : Fresh w bn Ac cc jt jf k par i s o t W' := ⟨blk_bel hb h.n, Kd.bel (d := kInsn.slice) h.p hb, h.b.trans (hb.mono h.b.size)⟩
theorem al (h : Fresh w bn Ac cc jt jf k par i s o t W) (ob : Obj) : Fresh w bn Ac cc jt jf k par i s o t (W.alloc ob) := h.bel (below_al (Below.refl _ _) ob)
theorem far (h : Fresh w bn Ac cc jt jf k par i s o t W) (hbn : w.heap.size ≤ bn) (j : Nat) (u : Value) : kInsn.slice.K (W.setCell ⟨bn, j, none⟩ u) (fun q => q ≠ bn ∧ w.heap.size ≤ q) [⟨6, jt, jf, k⟩] [.slice Ac 1 cc] ∧ Below w.heap.size w (W.setCell ⟨bn, j, none⟩ u) :=
  ⟨Kd.far (d := kInsn.slice) h.p (p := ⟨bn, j, none⟩) (fun q hq => hq.1) u, h.b.setCell (p := ⟨bn, j, none⟩) hbn u⟩
theorem set0 (h : Fresh w bn Ac cc jt jf k par i s o t W) (hbn : w.heap.size ≤ bn) (u : Int) : Fresh w bn Ac cc jt jf k par u s o t (W.setCell ⟨bn, 0, none⟩ (.int .i64 u)) := ⟨blk_set (j := 0) h.n _, (h.far hbn 0 _).1, (h.far hbn 0 _).2⟩
theorem set3 (h : Fresh w bn Ac cc jt jf k par i s o t W) (hbn : w.heap.size ≤ bn) (u : Int) : Fresh w bn Ac cc jt jf k par i u o t (W.setCell ⟨bn, 3, none⟩ (.int .i64 u)) := ⟨blk_set (j := 3) h.n _, (h.far hbn 3 _).1, (h.far hbn 3 _).2⟩
theorem set5 (h : Fresh w bn Ac cc jt jf k par i s o t W) (hbn : w.heap.size ≤ bn) (u : Int) : Fresh w bn Ac cc jt jf k par i s u t (W.setCell ⟨bn, 5, none⟩ (.int .u64 u)) := ⟨blk_set (j := 5) h.n _, (h.far hbn 5 _).1, (h.far hbn 5 _).2⟩
theorem set6 (h : Fresh w bn Ac cc jt jf k par i s o t W) (hbn : w.heap.size ≤ bn) (u : Int) : Fresh w bn Ac cc jt jf k par i s o u (W.setCell ⟨bn, 6, none⟩ (.int .u64 u)) := ⟨blk_set (j := 6) h.n _, (h.far hbn 6 _).1, (h.far hbn 6 _).2⟩
end Fresh
theorem turn_at {xs : List Node} {i : Nat} (h : InTurn xs) (hP : Parts xs ((xs.length : Int) + 1) i i) (hi : i ≤ xs.length) : i = xs.length ∧ isAt xs ((xs.length : Int) + 1) i = false := by
  have hi' : i = xs.length := by
    by_cases hlt : i < xs.length
    · have h1 := (hP h.rising).2 i hlt (Nat.le_refl _)
      rw [h i hlt] at h1
      omega
    · omega
  subst hi'
  exact ⟨rfl, by simp [isAt]⟩
/-- Behind the change. -/
structure Added (xs : List Node) (par up jt jf k : Int) (bp bid B1 B0 : Nat) (ok : Nat → Prop) (ob : Option Nat) (w : World) (v : Value) (w' : World) : Prop where
  pool : w'.heap[bp]? = some (.cells #[v] 31)
  one : v.oneCell' = true
  nodes : kNode.Own 65 w' B1 (fun q => ok q ∨ w.heap.size ≤ q) v (xs ++ [addNode xs par up jt jf k])
  id_ : w'.heap[bid]? = some (.cells #[.int .i64 ((xs.length : Int) + 1)] 3)
  far : ∀ q, q < w.heap.size → q ≠ bp → q ≠ bid → some q ≠ ob → w'.heap[q]? = w.heap[q]?
  bel : Below B0 w w'
theorem Added.d1 {xs : List Node} {par up jt jf k : Int} {bp bid B1 B0 : Nat} {ok : Nat → Prop} {ob : Option Nat} {w : World} {v : Value} {w' : World} (h : Added xs par up jt jf k bp bid B1 B0 ok ob w v w') : Added xs par up jt jf k bp bid B1 B0 ok ob w v w'.drew := ⟨h.pool, h.one, h.nodes.bel (below_d1 (Below.refl _ _)), h.id_, h.far, below_d1 h.bel⟩
set_option maxRecDepth 100000 in
set_option maxHeartbeats 8000000 in
theorem c_add1 (xs : List Node) (n c cp : Nat) (A Ap : Option Addr) (par up jt jf k : Int) (bp bg bq bid base B0 : Nat) (ok okP : Nat → Prop) (w : World) (hO : kNode.Own 65 w base ok (.slice A n c) xs) (hn0 : n = xs.length) (hl : xs.length ≤ 20) (hpar : Kd.rng .i64 par) (hk : 0 ≤ k ∧ k < 4294967296)
    (hp : w.heap[bp]? = some (.cells #[.slice A n c] 31)) (hg : w.heap[bg]? = some (.cells #[.slice Ap 1 cp] 38)) (hq : w.heap[bq]? = some (.cells #[.int .i64 par] 3)) (hd : w.heap[bid]? = some (.cells #[.int .i64 0] 3))
    (hrow : kInsn.Row w okP Ap [⟨6, jt, jf, k⟩]) (hit : InTurn xs) (hup : UpSize xs par up) (hup0 : 0 ≤ up ∧ up ≤ 200) (hok : ∀ q, ok q → q ≠ bp ∧ q ≠ bid) (hpd : bp ≠ bid) (h0p : B0 ≤ bp) (h0d : B0 ≤ bid) (h0b : B0 ≤ base) (hbw : base ≤ w.heap.size) :
    Calls Tryz.prog 91 #[.pointer (some ⟨bp, 0, none⟩), .pointer (some ⟨bg, 0, none⟩), .pointer (some ⟨bq, 0, none⟩), .pointer (some ⟨bid, 0, none⟩)] w fun e w' => e = .returned (.int .i64 0) ∧ ∃ v, Added xs par up jt jf k bp bid base B0 ok (Value.slice A n c).ownBlock w v w' := by
  subst hn0
  obtain ⟨ob, hob⟩ : ∃ ob, (Value.slice A xs.length c).ownBlock = ob := ⟨_, rfl⟩
  rw [hob]
  have HOB := Lib.hid hob
  clear hob
  have hck : ∀ W, Below w.heap.size w W → Calls Tryz.prog 92 #[.slice Ap 1 cp] W fun e w' => e = .returned (.tuple #[.int .i64 0, .int .i64 0]) ∧ Below W.heap.size W w' := fun W h => by
    have h1 := c_checkL Ap [⟨6, jt, jf, k⟩] cp okP W (hrow.bel h)
    have hT : checkT [⟨6, jt, jf, k⟩] = .tuple #[.int .i64 0, .int .i64 0] := by unfold checkT; rw [check6]
    rw [hT] at h1
    exact h1
  have HCK := Lib.hid hck
  have HBI := Lib.hid (fun (W : World) (h : Below w.heap.size w W) => c_bits6 Ap cp jt jf k okP W hk (hrow.bel h))
  have HCL := Lib.hid (fun (W : World) (h : Below w.heap.size w W) => c_cloneInsn Ap [⟨6, jt, jf, k⟩] cp (fun q => okP q ∧ q < w.heap.size) W (hrow.bound.bel h) (by simp))
  have hrowp := own_rowN hO
  have HPL := Lib.hid (fun (t : Int) (W : World) (h : Below w.heap.size w W) => c_place xs _ c A t ok W (hrowp.bel h) rfl (by omega))
  have HC : Hid (∀ W, Below w.heap.size w W → W.cell? ⟨bp, 0, none⟩ = some (.slice A xs.length c) ∧ W.cell? ⟨bg, 0, none⟩ = some (.slice Ap 1 cp) ∧ W.cell? ⟨bq, 0, none⟩ = some (.int .i64 par) ∧ W.cell? ⟨bid, 0, none⟩ = some (.int .i64 0)) := fun W h => ⟨blk_cell (blk_bel h hp) 0, blk_cell (blk_bel h hg) 0, blk_cell (blk_bel h hq) 0, blk_cell (blk_bel h hd) 0⟩
  have hxn := hrowp.1
  have HP := Lib.hid hp
  have HD := Lib.hid hd
  have hownb : ∀ g, ob = some g → ok g ∧ base ≤ g ∧ g < w.heap.size := fun g hg => by
    obtain ⟨cells, ho, hr, hkk⟩ := hO
    rw [← HOB.out] at hg
    exact ⟨hkk g hg, ho.lt g hg⟩
  have HOWN := Lib.hid hownb
  clear hownb
  have HO := Lib.hid hO
  have HOK := Lib.hid hok
  have HIT := Lib.hid hit
  have HUP := Lib.hid hup
  have mixed : (Tryz.prog).follows Departure.mixedOrders = true := by kernel_rfl
  obtain ⟨p0, q0, r0, i0⟩ := HC.out _ (Below.refl _ _)
  clear hck hrow hrowp hp hg hq hd hO hok hit hup
  go_enter Tryz.func91, Tryz.ntmps91
  go_wp2_with fail
  refine (HCK.out _ (Below.refl _ _)).mono ?_
  rintro e w2 ⟨rfl, hB2⟩
  have HB2 := Lib.hid hB2
  clear hB2 p0 q0 r0 i0 HCK
  go_upto_region 4 with fail
  go_cut [8] from 23 (fun s8 wx => ∃ (bn : Nat) (Ac : Option Addr) (cc : Nat), s8 = .pointer (some ⟨bn, 0, none⟩) ∧ Hid (w.heap.size ≤ bn) ∧ Hid (Fresh w bn Ac cc jt jf k par 1 5 0 0 wx))
  case first =>
    have h5 : IntKind.i64.wrap 5 = 5 := by decide
    have HS : Hid (∀ w', Below w.heap.size w w' → w'.cell? ⟨bg, 0, none⟩ = some (.slice Ap 1 cp) ∧ w'.cell? ⟨bq, 0, none⟩ = some (.int .i64 par)) := fun w' h => ⟨(HC.out w' h).2.1, (HC.out w' h).2.2.1⟩
    refine wp_region_held_drew (S := fun w' => w'.cell? ⟨bg, 0, none⟩ = some (.slice Ap 1 cp) ∧ w'.cell? ⟨bq, 0, none⟩ = some (.int .i64 par)) (by kernel_rfl) (HS.out _ (below_d1 HB2.out)) (fun hHeld => ?_)
    refine wpAnyH_take (i := 0) (oi := ⟨some 23, _, _, _, _, _⟩) (v := ?_) rfl (by kernel_rfl) (by kernel_rfl) (by kernel_rfl) (fun _ _ _ h => h) (Or.inl ⟨by rfl, ?_⟩) (by assumption) ?_
    rotate_left
    · intro w hSw
      (try dsimp only at hSw)
      go_simp
      try with_reducible rfl
    (try simp only [Act.put, List.setIfInBounds_toArray, List.set_cons_zero, List.set_cons_succ])
    refine wpAnyH_take (i := 1) (oi := ⟨some 24, _, _, _, _, _⟩) (v := ?_) rfl (by kernel_rfl) (by kernel_rfl) (by kernel_rfl) (fun _ _ _ h => h) (Or.inl ⟨by rfl, ?_⟩) (by assumption) ?_
    rotate_left
    · intro w hSw
      (try dsimp only at hSw)
      go_simp
      try with_reducible rfl
    (try simp only [Act.put, List.setIfInBounds_toArray, List.set_cons_zero, List.set_cons_succ])
    refine wpAnyH_take (i := 3) (oi := ⟨some 26, _, _, _, _, _⟩) (v := ?_) rfl (by kernel_rfl) (by kernel_rfl) (by kernel_rfl) (fun _ _ _ h => h) (Or.inl ⟨by rfl, ?_⟩) (by assumption) ?_
    rotate_left
    · intro w hSw
      (try dsimp only at hSw)
      go_simp
      try with_reducible rfl
    (try simp only [Act.put, List.setIfInBounds_toArray, List.set_cons_zero, List.set_cons_succ])
    refine wpAnyH_take (i := 4) (oi := ⟨some 27, _, _, _, _, _⟩) (v := ?_) rfl (by kernel_rfl) (by kernel_rfl) (by kernel_rfl) (fun _ _ _ h => h) (Or.inl ⟨by rfl, ?_⟩) (by assumption) ?_
    rotate_left
    · intro w hSw
      (try dsimp only at hSw)
      go_simp
      try with_reducible rfl
    (try simp only [Act.put, List.setIfInBounds_toArray, List.set_cons_zero, List.set_cons_succ])
    refine wpAnyH_take (i := 5) (oi := ⟨some 28, _, _, _, _, _⟩) (v := ?_) rfl (by kernel_rfl) (by kernel_rfl) (by kernel_rfl) (fun _ _ _ h => h) (Or.inl ⟨by rfl, ?_⟩) (by assumption) ?_
    rotate_left
    · intro w hSw
      (try dsimp only at hSw)
      go_simp
      try with_reducible rfl
    (try simp only [Act.put, List.setIfInBounds_toArray, List.set_cons_zero, List.set_cons_succ])
    clear hHeld
    have HB0 : Hid (Below w.heap.size w w2.drew) := below_d1 HB2.out
    generalize w2.drew = V0 at *
    refine wpAnyH_ready (rs := [2, 7]) (by kernel_rfl) (by simp) ?_
    refine AllReadyH.cons (o := ⟨some 25, _, _, _, _, _⟩) rfl (fun K hK => ?_) (AllReadyH.cons (o := ⟨some 8, _, _, _, _, _⟩) rfl (fun K hK => ?_) AllReadyH.nil)
    · go_simp
      go_at_call 87
      refine (HCL.out _ HB0.out).mono ?_
      rintro e V1 ⟨vc, rfl, hOc, hBc⟩
      obtain ⟨Ac, cc, hvc, -, -⟩ := hOc.form
      subst hvc
      have HB1 : Hid (Below w.heap.size w V1) := HB0.out.trans (hBc.mono HB0.out.size)
      have HKC : Hid (kInsn.slice.K V1 (fun q => V0.heap.size ≤ q) [⟨6, jt, jf, k⟩] [.slice Ac 1 cc]) := (own_insn hOc).K
      refine hK.out _ _ (HS.out _ HB1.out) (fun hHeld => ?_)
      clear hK K hOc
      (try simp only [Act.put, List.setIfInBounds_toArray, List.set_cons_zero, List.set_cons_succ])
      refine wpAnyH_take (i := 6) (oi := ⟨some 29, _, _, _, _, _⟩) (v := ?_) rfl (by kernel_rfl) (by kernel_rfl) (by kernel_rfl) (fun _ _ _ h => h) (Or.inl ⟨by rfl, ?_⟩) (by assumption) ?_
      rotate_left
      · intro w hSw
        (try dsimp only at hSw)
        go_simp
        try with_reducible rfl
      (try simp only [Act.put, List.setIfInBounds_toArray, List.set_cons_zero, List.set_cons_succ])
      clear hHeld
      refine wpAnyH_ready (rs := [7]) (by kernel_rfl) (by simp) ?_
      refine AllReadyH.cons (o := ⟨some 8, _, _, _, _, _⟩) rfl (fun K hK => ?_) AllReadyH.nil
      go_simp
      obtain ⟨bn, hbn⟩ : ∃ bn, V1.heap.size = bn := ⟨_, rfl⟩
      have HF : Hid ((V1.alloc (.cells #[.int .i64 0, .int .i64 0, .slice none 0 0, .int .i64 0, .int .i64 0, .int .u64 0, .int .u64 0] 65)).heap[bn]? = some (.cells #[.int .i64 0, .int .i64 0, .slice none 0 0, .int .i64 0, .int .i64 0, .int .u64 0, .int .u64 0] 65)) := by rw [← hbn]; exact blk_new _ _
      have HB2x : Hid (Below w.heap.size w (V1.alloc (.cells #[.int .i64 0, .int .i64 0, .slice none 0 0, .int .i64 0, .int .i64 0, .int .u64 0, .int .u64 0] 65))) := HB1.out.alloc HB1.out.size _
      have HBN : Hid (w.heap.size ≤ bn) := by rw [← hbn]; exact HB1.out.size
      have HKC2 : Hid (kInsn.slice.K V1 (fun q => q ≠ bn ∧ w.heap.size ≤ q) [⟨6, jt, jf, k⟩] [.slice Ac 1 cc]) := kInsn.slice.mono (fun q hq => by
        have h1 := hq.2
        rw [hbn] at h1
        exact ⟨by omega, Nat.le_trans HB0.out.size hq.1⟩) (Kd.bound (d := kInsn.slice) HKC.out)
      have HKC3 : Hid (kInsn.slice.K (V1.alloc (.cells #[.int .i64 0, .int .i64 0, .slice none 0 0, .int .i64 0, .int .i64 0, .int .u64 0, .int .u64 0] 65)) (fun q => q ≠ bn ∧ w.heap.size ≤ q) [⟨6, jt, jf, k⟩] [.slice Ac 1 cc]) := Kd.al (d := kInsn.slice) HKC2.out _
      clear HKC HKC2
      refine hK.out _ _ (HS.out _ HB2x.out) (fun hHeld => ?_)
      clear hK K
      rw [hbn]
      clear hbn
      generalize V1.alloc (.cells #[.int .i64 0, .int .i64 0, .slice none 0 0, .int .i64 0, .int .i64 0, .int .u64 0, .int .u64 0] 65) = V2 at *
      (try simp only [Act.put, List.setIfInBounds_toArray, List.set_cons_zero, List.set_cons_succ])
      (try rw [h5])
      refine wpAnyH_ready (rs := [8]) (by kernel_rfl) (by simp) ?_
      refine AllReadyH.cons (o := ⟨none, _, _, _, _, _⟩) rfl (fun K hK => ?_) AllReadyH.nil
      rw [if_pos (by rfl)]
      refine wp_store_row 65 _ _ rfl bn #[.int .i64 1, .int .i64 par, .slice Ac 1 cc, .int .i64 5, .int .i64 1, .int .u64 0, .int .u64 0] rfl rfl _ _ HF.out (by kernel_rfl) (by rfl) (by kernel_rfl) ?_
      intro V9 hV9
      have HB9 : Hid (Below w.heap.size w V9) := HB2x.out.trans (hV9.bel.mono HBN.out)
      refine hK.out _ _ (HS.out _ HB9.out) (fun hHeld => ?_)
      clear hK K hHeld
      (try simp only [Act.put, List.setIfInBounds_toArray, List.set_cons_zero, List.set_cons_succ])
      refine wpAnyH_done (by kernel_rfl) ?_ _
      go_wp2_with fail
      go_meet
      exact ⟨bn, Ac, cc, rfl, HBN.out, hV9.here, Kd.move (d := kInsn.slice) HKC3.out (fun q hq _ => hV9.far q hq.1), HB9.out⟩
    · go_simp
      obtain ⟨bn, hbn⟩ : ∃ bn, V0.heap.size = bn := ⟨_, rfl⟩
      have HF : Hid ((V0.alloc (.cells #[.int .i64 0, .int .i64 0, .slice none 0 0, .int .i64 0, .int .i64 0, .int .u64 0, .int .u64 0] 65)).heap[bn]? = some (.cells #[.int .i64 0, .int .i64 0, .slice none 0 0, .int .i64 0, .int .i64 0, .int .u64 0, .int .u64 0] 65)) := by rw [← hbn]; exact blk_new _ _
      have HB1 : Hid (Below w.heap.size w (V0.alloc (.cells #[.int .i64 0, .int .i64 0, .slice none 0 0, .int .i64 0, .int .i64 0, .int .u64 0, .int .u64 0] 65))) := HB0.out.alloc HB0.out.size _
      have HBN : Hid (w.heap.size ≤ bn) := by rw [← hbn]; exact HB0.out.size
      refine hK.out _ _ (HS.out _ HB1.out) (fun hHeld => ?_)
      clear hK K
      rw [hbn]
      have hV1s : (V0.alloc (.cells #[.int .i64 0, .int .i64 0, .slice none 0 0, .int .i64 0, .int .i64 0, .int .u64 0, .int .u64 0] 65)).heap.size = bn + 1 := by rw [← hbn]; exact Array.size_push _
      generalize V0.alloc (.cells #[.int .i64 0, .int .i64 0, .slice none 0 0, .int .i64 0, .int .i64 0, .int .u64 0, .int .u64 0] 65) = V1 at *
      clear hHeld hbn
      (try simp only [Act.put, List.setIfInBounds_toArray, List.set_cons_zero, List.set_cons_succ])
      refine wpAnyH_ready (rs := [2]) (by kernel_rfl) (by simp) ?_
      refine AllReadyH.cons (o := ⟨some 25, _, _, _, _, _⟩) rfl (fun K hK => ?_) AllReadyH.nil
      go_simp
      go_at_call 87
      refine (HCL.out _ HB1.out).mono ?_
      rintro e V2 ⟨vc, rfl, hOc, hBc⟩
      obtain ⟨Ac, cc, hvc, -, -⟩ := hOc.form
      subst hvc
      have HB2x : Hid (Below w.heap.size w V2) := HB1.out.trans (hBc.mono HB1.out.size)
      have HKC : Hid (kInsn.slice.K V2 (fun q => V1.heap.size ≤ q) [⟨6, jt, jf, k⟩] [.slice Ac 1 cc]) := (own_insn hOc).K
      refine hK.out _ _ (HS.out _ HB2x.out) (fun hHeld => ?_)
      clear hK K hOc
      (try simp only [Act.put, List.setIfInBounds_toArray, List.set_cons_zero, List.set_cons_succ])
      have HF2 : Hid (V2.heap[bn]? = some (.cells #[.int .i64 0, .int .i64 0, .slice none 0 0, .int .i64 0, .int .i64 0, .int .u64 0, .int .u64 0] 65)) := blk_bel hBc HF.out
      have HKC3 : Hid (kInsn.slice.K V2 (fun q => q ≠ bn ∧ w.heap.size ≤ q) [⟨6, jt, jf, k⟩] [.slice Ac 1 cc]) := kInsn.slice.mono (fun q hq => by
        have h1 := HBN.out
        rw [hV1s] at hq
        exact ⟨by omega, by omega⟩) HKC.out
      clear HKC HF
      refine wpAnyH_take (i := 6) (oi := ⟨some 29, _, _, _, _, _⟩) (v := ?_) rfl (by kernel_rfl) (by kernel_rfl) (by kernel_rfl) (fun _ _ _ h => h) (Or.inl ⟨by rfl, ?_⟩) (by assumption) ?_
      rotate_left
      · intro w hSw
        (try dsimp only at hSw)
        go_simp
        try with_reducible rfl
      (try simp only [Act.put, List.setIfInBounds_toArray, List.set_cons_zero, List.set_cons_succ])
      clear hHeld
      (try rw [h5])
      refine wpAnyH_ready (rs := [8]) (by kernel_rfl) (by simp) ?_
      refine AllReadyH.cons (o := ⟨none, _, _, _, _, _⟩) rfl (fun K hK => ?_) AllReadyH.nil
      rw [if_pos (by rfl)]
      refine wp_store_row 65 _ _ rfl bn #[.int .i64 1, .int .i64 par, .slice Ac 1 cc, .int .i64 5, .int .i64 1, .int .u64 0, .int .u64 0] rfl rfl _ _ HF2.out (by kernel_rfl) (by rfl) (by kernel_rfl) ?_
      intro V9 hV9
      have HB9 : Hid (Below w.heap.size w V9) := HB2x.out.trans (hV9.bel.mono HBN.out)
      refine hK.out _ _ (HS.out _ HB9.out) (fun hHeld => ?_)
      clear hK K hHeld
      (try simp only [Act.put, List.setIfInBounds_toArray, List.set_cons_zero, List.set_cons_succ])
      refine wpAnyH_done (by kernel_rfl) ?_ _
      go_wp2_with fail
      go_meet
      exact ⟨bn, Ac, cc, rfl, HBN.out, hV9.here, Kd.move (d := kInsn.slice) HKC3.out (fun q hq _ => hV9.far q hq.1), HB9.out⟩
  case rest =>
    obtain ⟨bn, Ac, cc, rfl, HBN, HFR⟩ := hcut
    obtain ⟨p0, q0, r0, i0⟩ := HC.out _ HFR.out.b
    go_upto_if 31 with fail
    go_cut [9, 10] from 31 (fun s9 s10 wx => Hid (Fresh w bn Ac cc jt jf k par 1 (5 + up) 0 0 wx))
    case first =>
      by_cases hp0 : par = 0
      · have hpe : (par == 0) = true := by rw [beq_iff_eq]; exact hp0
        have hu0 : up = 0 := by
          rcases HUP.out with h | h
          · exact h.2
          · exact absurd hp0 h.1
        have HU0 := Lib.hid hu0
        clear hp0 hu0
        go_wp2_with fail
        go_meet
        rw [HU0.out]
        exact HFR
      · have hpe : (par == 0) = false := by rw [beq_eq_false_iff_ne]; exact hp0
        obtain ⟨x, hfx, hxs⟩ : ∃ x, findN xs par = some x ∧ x.size = up := by
          rcases HUP.out with h | h
          · exact absurd h.1 hp0
          · exact h.2
        have HFX := Lib.hid hfx
        have HXS := Lib.hid hxs
        clear hp0 hfx hxs
        go_upto_region 6 with fail
        go_region_held3 (fun w' => w'.cell? ⟨bp, 0, none⟩ = some (.slice A xs.length c) ∧ w'.cell? ⟨bq, 0, none⟩ = some (.int .i64 par))
          (first | exact ⟨(HC.out _ hb2).1, (HC.out _ hb2).2.2.1⟩ | exact ⟨(HC.out _ (below_d1 HFR.out.b)).1, (HC.out _ (below_d1 HFR.out.b)).2.2.1⟩ | exact ⟨(HC.out _ HFR.out.b).1, (HC.out _ HFR.out.b).2.2.1⟩)
          (first
          | (go_at_call 86; (with_reducible refine (HPL.out par _ (below_d1 HFR.out.b)).mono ?_); rintro e w3 ⟨i, rfl, hil, hP, hb3⟩; have hb2 : Below w.heap.size w w3 := (below_d1 HFR.out.b).trans (hb3.mono HFR.out.b.size); have HF3 := Lib.hid (HFR.out.bel (undrew hb3))))
        rename_i hHeld
        have HAF := at_found HIT.out.rising hP hil
        clear hHeld hb3 hP p0 q0 r0 i0
        rcases HAF with ⟨hat, hlt, hf⟩ | ⟨hat, hf⟩
        · have hsx : Hid (xs[i].size = up) := by
            have h := HFX.out
            rw [hf] at h
            cases h
            exact HXS.out
          rw [hat]
          clear hf hat hil HFX HXS HFR hb2
          obtain ⟨p0, q0, r0, i0⟩ := HC.out _ HF3.out.b
          obtain ⟨ad, A2, c2, rfl, hok, -, e0, e1, e2, e3, e4, e5, e6⟩ := kNode.at_ (own_rowN (HO.out.bel HF3.out.b)) hlt
          rw [hsx.out] at e3
          have n3 : w3.cell? ⟨bn, 3, none⟩ = some (.int .i64 5) := blk_cell HF3.out.n 3
          have m3 : w3.frozen? ⟨bn, 3, none⟩ = false := blk_free HF3.out.n 3
          have hw : IntKind.i64.wrap (5 + up) = 5 + up := wrap_i64 (by omega)
          have hi0 : (0 : Int) ≤ (i : Int) := by omega
          have hi1 : (i : Int) < (xs.length : Int) := by omega
          clear e0 e1 e2 e4 e5 e6 hsx hok
          go_upto_region 9 with fail
          go_region
          all_goals
            go_wp2_with fail
            go_meet
            exact (HF3.out.set3 HBN.out _).bel (below_d1 (Below.refl _ _))
        · exact absurd hf (by rw [HFX.out]; simp)
    case rest =>
      have HFR2 := hcut
      clear HFR hcut p0 q0 r0 i0
      have hsz : Hid (IntKind.i64.wrap 0 = 0) := rfl
      obtain ⟨p0, q0, r0, i0⟩ := HC.out _ HFR2.out.b
      have n3 : wc.cell? ⟨bn, 3, none⟩ = some (.int .i64 (5 + up)) := blk_cell HFR2.out.n 3
      have hd : decide (256 < 5 + up) = false := decide_eq_false (by omega)
      have hl4 : ((xs.length : Int) == 24) = false := by rw [beq_eq_false_iff_ne]; omega
      go_wp2_with fail
      clear p0 q0 r0 i0 n3 hd hl4
      go_loopw [12, 70] (fun s12 j wr => ∃ k0 : Nat, k0 ≤ xs.length ∧ j = .int .i64 k0 ∧ Hid (Fresh w bn Ac cc jt jf k par ((k0 : Int) + 1) (5 + up) 0 0 wr)) (fun _ j _ => xs.length - (intOf j).toNat)
      case atStart => exact ⟨0, Nat.zero_le _, rfl, HFR2.out⟩
      case round =>
        obtain ⟨k0, hk0, rfl, HFL⟩ := hrel
        by_cases hltk : k0 < xs.length
        · obtain ⟨ad, A2, c2, rfl, hok, ⟨g0, g1, g2, g3, g4, g5, g6⟩, e0, e1, e2, e3, e4, e5, e6⟩ := kNode.at_ (own_rowN (HO.out.bel HFL.out.b)) hltk
          have hk1 : (0 : Int) ≤ (k0 : Int) := by omega
          have hk2 : (k0 : Int) < (xs.length : Int) := by omega
          have hid : xs[k0].id = (k0 : Int) + 1 := HIT.out k0 hltk
          have q2 := g2.2.2.1
          generalize xs[k0] = x at *
          rw [hid] at e0
          have HID := Lib.hid hid
          clear g0 g1 g2 g3 g4 g5 g6 hid hok
          obtain ⟨m, hm⟩ : ∃ m, wr.heap.size = m := ⟨_, rfl⟩
          have f1 : (wr.alloc (.cells #[.int .i64 ((k0 : Int) + 1), .int .i64 x.parent, .slice A2 x.program.length c2, .int .i64 x.size, .int .i64 x.count, .int .u64 x.one, .int .u64 x.two] 65)).heap[m]? = some (.cells #[.int .i64 ((k0 : Int) + 1), .int .i64 x.parent, .slice A2 x.program.length c2, .int .i64 x.size, .int .i64 x.count, .int .u64 x.one, .int .u64 x.two] 65) := by rw [← hm]; exact blk_new _ _
          have HF2 := Lib.hid (HFL.out.al (.cells #[.int .i64 ((k0 : Int) + 1), .int .i64 x.parent, .slice A2 x.program.length c2, .int .i64 x.size, .int .i64 x.count, .int .u64 x.one, .int .u64 x.two] 65))
          have F1 := Lib.hid f1
          clear f1
          go_upto_region 15 with fail
          generalize (wr.alloc (.cells #[.int .i64 ((k0 : Int) + 1), .int .i64 x.parent, .slice A2 x.program.length c2, .int .i64 x.size, .int .i64 x.count, .int .u64 x.one, .int .u64 x.two] 65)) = W3 at *
          have z0 : W3.cell? ⟨m, 0, none⟩ = some (.int .i64 ((k0 : Int) + 1)) := blk_cell F1.out 0
          have n0 : W3.cell? ⟨bn, 0, none⟩ = some (.int .i64 ((k0 : Int) + 1)) := blk_cell HF2.out.n 0
          have m0 : W3.frozen? ⟨bn, 0, none⟩ = false := blk_free HF2.out.n 0
          have hw2 : IntKind.i64.wrap ((k0 : Int) + 1 + 1) = (k0 : Int) + 1 + 1 := wrap_i64 (by omega)
          clear e0 e1 e2 e3 e4 e5 e6 hm
          go_wp2_with fail
          go_roundw
          case rel => exact ⟨k0 + 1, by omega, by go_num, by rw [show (((k0 + 1 : Nat) : Int)) = (k0 : Int) + 1 by omega]; exact HF2.out.set0 HBN.out _⟩
          case measure => simp [intOf]; omega
        · obtain rfl : k0 = xs.length := by omega
          clear HFR2
          obtain ⟨p0, q0, r0, i0⟩ := HC.out _ HFL.out.b
          obtain ⟨L, hL⟩ : ∃ L : Int, (xs.length : Int) + 1 = L := ⟨_, rfl⟩
          rw [hL] at HFL
          have HLE := Lib.hid hL
          have HFN := Lib.hid (show ∀ W, Below wr.heap.size wr W → W.cell? ⟨bn, 5, none⟩ = some (.int .u64 0) ∧ W.frozen? ⟨bn, 5, none⟩ = false ∧ W.frozen? ⟨bn, 6, none⟩ = false ∧ W.cell? ⟨bn, 6, none⟩ = some (.int .u64 0) from fun W h => ⟨blk_cell (blk_bel h HFL.out.n) 5, blk_free (blk_bel h HFL.out.n) 5, blk_free (blk_bel h HFL.out.n) 6, blk_cell (blk_bel h HFL.out.n) 6⟩)
          clear hL
          go_upto_region 18 with fail
          go_upto_region 19 with fail
          refine (HBI.out _ HFL.out.b).mono ?_
          rintro e w4 ⟨rfl, hB4⟩
          obtain ⟨n5, m5, m6, n6⟩ := HFN.out _ hB4
          go_upto_region 19 with fail
          have HF5 := Lib.hid (((HFL.out.bel hB4).set5 HBN.out (onesTo (allowB k) 64)).set6 HBN.out (onesTo (allowB k) 64))
          clear HFL p0 q0 r0 i0 n5 m5 m6 n6 hB4 HFN
          generalize ((w4.setCell ⟨bn, 5, none⟩ (Value.int .u64 (onesTo (allowB k) 64))).setCell ⟨bn, 6, none⟩ (Value.int .u64 (onesTo (allowB k) 64))) = W5 at *
          have HC5 : Hid (∀ W, Below W5.heap.size W5 W → W.cell? ⟨bp, 0, none⟩ = some (.slice A xs.length c) ∧ W.cell? ⟨bn, 0, none⟩ = some (.int .i64 L)) := fun W h => ⟨(HC.out _ (HF5.out.bel h).b).1, blk_cell (blk_bel h HF5.out.n) 0⟩
          obtain ⟨p0, n0⟩ := HC5.out _ (Below.refl _ _)
          go_region_held3 (fun w' => w'.cell? ⟨bp, 0, none⟩ = some (.slice A xs.length c) ∧ w'.cell? ⟨bn, 0, none⟩ = some (.int .i64 L))
            (first | exact HC5.out _ hb2 | exact HC5.out _ (below_d1 (Below.refl _ _)) | exact HC5.out _ (Below.refl _ _))
            (first
            | (go_at_call 86; (with_reducible refine (HPL.out L _ (below_d1 HF5.out.b)).mono ?_); rintro e w6 ⟨i, rfl, hil, hP, hb3⟩; have hb2 : Below W5.heap.size W5 w6 := undrew hb3))
          rename_i hHeld
          rw [← HLE.out] at hP
          obtain ⟨hil2, hat⟩ := turn_at HIT.out hP hil
          rw [HLE.out] at hat
          rw [hat, hil2]
          have HF6 := Lib.hid (HF5.out.bel hb2)
          clear hHeld hb2 hb3 hP hil hil2 hat p0 n0 HC5 HF5
          obtain ⟨p0, q0, r0, i0⟩ := HC.out _ HF6.out.b
          have pf0 : w6.frozen? ⟨bp, 0, none⟩ = false := blk_free (blk_bel HF6.out.b HP.out) 0
          have n0 : w6.cell? ⟨bn, 0, none⟩ = some (.int .i64 L) := blk_cell HF6.out.n 0
          have n1 : w6.cell? ⟨bn, 1, none⟩ = some (.int .i64 par) := blk_cell HF6.out.n 1
          have n2 : w6.cell? ⟨bn, 2, none⟩ = some (.slice Ac 1 cc) := blk_cell HF6.out.n 2
          have n3 : w6.cell? ⟨bn, 3, none⟩ = some (.int .i64 (5 + up)) := blk_cell HF6.out.n 3
          have n4 : w6.cell? ⟨bn, 4, none⟩ = some (.int .i64 1) := blk_cell HF6.out.n 4
          have n5 : w6.cell? ⟨bn, 5, none⟩ = some (.int .u64 (onesTo (allowB k) 64)) := blk_cell HF6.out.n 5
          have n6 : w6.cell? ⟨bn, 6, none⟩ = some (.int .u64 (onesTo (allowB k) 64)) := blk_cell HF6.out.n 6
          have HINS : Hid (∀ W, Below w6.heap.size w6 W → W.heap.size = w6.heap.size → Calls Tryz.prog 94 #[.slice A xs.length c, .int .i64 xs.length, .slice (some ⟨w6.heap.size, 0, none⟩) 1 1] (W.alloc (.cells #[.int .i64 L, .int .i64 par, .slice Ac 1 cc, .int .i64 (5 + up), .int .i64 1, .int .u64 (onesTo (allowB k) 64), .int .u64 (onesTo (allowB k) 64)] 65)) fun e w' => ∃ v1, e = .returned v1 ∧ kNode.Own 65 w' base (fun q => ok q ∨ w.heap.size ≤ q) v1 (xs ++ [addNode xs par up jt jf k]) ∧ w'.heap[bp]? = some (.cells #[.slice A xs.length c] 31) ∧ w'.heap[bid]? = some (.cells #[.int .i64 0] 3) ∧ w'.heap[bn]? = some (.cells #[.int .i64 L, .int .i64 par, .slice Ac 1 cc, .int .i64 (5 + up), .int .i64 1, .int .u64 (onesTo (allowB k) 64), .int .u64 (onesTo (allowB k) 64)] 65) ∧ (∀ q, q < w.heap.size → some q ≠ ob → w'.heap[q]? = w.heap[q]?) ∧ Below B0 w w') := fun W hW hs => by
            have hb9 : Below w6.heap.size w6 (W.alloc (.cells #[.int .i64 L, .int .i64 par, .slice Ac 1 cc, .int .i64 (5 + up), .int .i64 1, .int .u64 (onesTo (allowB k) 64), .int .u64 (onesTo (allowB k) 64)] 65)) := below_al hW _
            have hb8 : Below w.heap.size w (W.alloc (.cells #[.int .i64 L, .int .i64 par, .slice Ac 1 cc, .int .i64 (5 + up), .int .i64 1, .int .u64 (onesTo (allowB k) 64), .int .u64 (onesTo (allowB k) 64)] 65)) := HF6.out.b.trans (hb9.mono HF6.out.b.size)
            have hbn := HBN.out
            have hbnl := blk_lt HF6.out.n
            have hO9 : kNode.Own 65 (W.alloc (.cells #[.int .i64 L, .int .i64 par, .slice Ac 1 cc, .int .i64 (5 + up), .int .i64 1, .int .u64 (onesTo (allowB k) 64), .int .u64 (onesTo (allowB k) 64)] 65)) base (fun q => ok q ∨ w.heap.size ≤ q) (.slice A xs.length c) xs := Kd.Own.mono (fun q h => Or.inl h) (HO.out.bel hb8)
            have hK9 : kNode.K W (fun q => (q ≠ bn ∧ w.heap.size ≤ q) ∧ q < W.heap.size) (addNode xs par up jt jf k) [.int .i64 L, .int .i64 par, .slice Ac 1 cc, .int .i64 (5 + up), .int .i64 1, .int .u64 (onesTo (allowB k) 64), .int .u64 (onesTo (allowB k) 64)] := by
              refine Kd.bound (d := kNode) ?_
              obtain ⟨A9, c9, h9, k0, k1, k2⟩ := (HF6.out.bel hW).p
              simp only [List.cons.injEq, and_true, Value.slice.injEq] at h9
              obtain ⟨rfl, -, rfl⟩ := h9
              rw [← HLE.out]
              exact kNode.mk (x := addNode xs par up jt jf k) (by simp only [addNode, Kd.rng]; omega) hpar ⟨k0, k1, k2⟩ (by simp only [addNode, Kd.rng]; omega) (by simp only [addNode, Kd.rng]; omega) (onesTo_rng _) (onesTo_rng _)
            have hR9 := lit_node hs hK9 (fun q hq => by rw [← hs]; exact hq.2)
            refine (c_insEnd xs A c base _ (fun q => ok q ∨ w.heap.size ≤ q) _ _ _ hO9 hR9 (fun y ds hy => kNode.mono (fun q hq => ?_) hy) (by omega) (Nat.le_trans hbw hb8.size) (fun q hq => Or.inr (Nat.le_trans hb8.size hq))).mono ?_
            · have hge : w.heap.size ≤ q := by
                rcases hq with h | h
                · exact h.1.2
                · have := HF6.out.b.size
                  omega
              refine ⟨Or.inr hge, fun e => ?_⟩
              have := (HOWN.out q (by rw [← HOB.out]; exact e.symm)).2.2
              omega
            · rintro e w' ⟨v1, rfl, hO1, hg⟩
              rw [HOB.out] at hg
              have hfar : ∀ q, q < w.heap.size → some q ≠ ob → w'.heap[q]? = w.heap[q]? := fun q hq hne => (hg.block q (Nat.lt_of_lt_of_le hq hb8.size) hne).trans (hb8.block q hq)
              have hnb : ∀ q, q = bp ∨ q = bid → some q ≠ ob := fun q hq e => by
                have h1 := HOK.out q (HOWN.out q e.symm).1
                rcases hq with h | h
                · exact h1.1 h
                · exact h1.2 h
              refine ⟨v1, rfl, hO1, (hfar bp (blk_lt HP.out) (hnb _ (Or.inl rfl))).trans HP.out, (hfar bid (blk_lt HD.out) (hnb _ (Or.inr rfl))).trans HD.out, ?_, hfar, ?_⟩
              · refine (hg.block bn (Nat.lt_of_lt_of_le hbnl hb9.size) (fun e => ?_)).trans (blk_bel hb9 HF6.out.n)
                have := (HOWN.out bn e.symm).2.2
                omega
              · exact (hb8.mono (Nat.le_trans h0b hbw)).grown hg (Nat.le_trans (Nat.le_trans h0b hbw) hb8.size) (fun q hq => Nat.le_trans h0b (HOWN.out q hq).2.1)
          have HFIN : Hid (∀ w7 v1, kNode.Own 65 w7 base (fun q => ok q ∨ w.heap.size ≤ q) v1 (xs ++ [addNode xs par up jt jf k]) → w7.heap[bp]? = some (.cells #[.slice A xs.length c] 31) → w7.heap[bid]? = some (.cells #[.int .i64 0] 3) → (∀ q, q < w.heap.size → some q ≠ ob → w7.heap[q]? = w.heap[q]?) → Below B0 w w7 →
              Added xs par up jt jf k bp bid base B0 ok ob w v1 ((w7.setCell ⟨bp, 0, none⟩ v1).setCell ⟨bid, 0, none⟩ (.int .i64 L))) := fun w7 v1 hO7 hp7 hd7 hf7 hb7 => by
            have hne : ∀ q, ok q ∨ w.heap.size ≤ q → q ≠ bp ∧ q ≠ bid := fun q hq => by
              have h1 := blk_lt HP.out
              have h2 := blk_lt HD.out
              rcases hq with h | h
              · exact HOK.out q h
              · omega
            refine ⟨blk_far (blk_set (j := 0) hp7 _) hpd _, ?_, (hO7.far (fun q hq => (hne q hq).1) _).far (fun q hq => (hne q hq).2) _, ?_, ?_, ?_⟩
            · obtain ⟨A', c', rfl, -⟩ := hO7.form
              rfl
            · rw [HLE.out]
              exact blk_set (j := 0) (blk_far hd7 (fun e => hpd e.symm) _) _
            · intro q hq h1 h2 h3
              exact (Below.heap_setCell _ ⟨bid, 0, none⟩ _ q h2).trans ((Below.heap_setCell _ ⟨bp, 0, none⟩ _ q h1).trans (hf7 q hq h3))
            · exact (hb7.setCell (p := ⟨bp, 0, none⟩) h0p _).setCell (p := ⟨bid, 0, none⟩) h0d _
          have pA0 : (w6.alloc (.cells #[.int .i64 L, .int .i64 par, .slice Ac 1 cc, .int .i64 (5 + up), .int .i64 1, .int .u64 (onesTo (allowB k) 64), .int .u64 (onesTo (allowB k) 64)] 65)).cell? ⟨bp, 0, none⟩ = some (.slice A xs.length c) := cell_bel (below_al (Below.refl _ _) _) p0
          have HP8 := HP
          clear HF6 HCL HBI HPL HC q0 r0 i0 HO HD
          go_upto_region 20 with fail
          go_region_law_o (go_simp; go_at_call 94; refine (HINS.out _ (below_d1 (Below.refl _ _)) rfl).mono ?_; rintro e w7 ⟨v1, rfl, hO7, hp7, hd7, hn7, hf7, hb7⟩; have HF7 := Lib.hid (HFIN.out w7 v1 hO7 hp7 hd7 hf7 hb7); have y0 : w7.cell? ⟨bp, 0, none⟩ = some (.slice A xs.length c) := blk_cell hp7 0; have y1 : w7.frozen? ⟨bp, 0, none⟩ = false := blk_free hp7 0; have HN7 := Lib.hid hn7; have HD7 := Lib.hid hd7; obtain ⟨A7, c7, hv7, hl7, hm7⟩ := hO7.form; subst hv7; clear hO7 hp7 hd7 hn7 hf7 hb7)
          all_goals
            simp only [List.length_append, List.length_singleton] at HF7
            have b8 := Lib.hid (blk_far HN7.out (p := ⟨bp, 0, none⟩) (fun e => by have h1 := blk_lt HP8.out; have h2 := HBN.out; simp only at e; omega) (Value.slice A7 (xs.length + 1) c7))
            have d8 := Lib.hid (blk_far HD7.out (p := ⟨bp, 0, none⟩) (fun e => hpd e.symm) (Value.slice A7 (xs.length + 1) c7))
            have z0 : (w7.setCell ⟨bp, 0, none⟩ (Value.slice A7 (xs.length + 1) c7)).cell? ⟨bn, 0, none⟩ = some (.int .i64 L) := blk_cell b8.out 0
            have z1 : (w7.setCell ⟨bp, 0, none⟩ (Value.slice A7 (xs.length + 1) c7)).cell? ⟨bid, 0, none⟩ = some (.int .i64 0) := blk_cell d8.out 0
            have z2 : (w7.setCell ⟨bp, 0, none⟩ (Value.slice A7 (xs.length + 1) c7)).frozen? ⟨bid, 0, none⟩ = false := blk_free d8.out 0
            generalize hW8 : w7.setCell ⟨bp, 0, none⟩ (Value.slice A7 (xs.length + 1) c7) = W8 at *
            clear hW8 y0 y1
            go_wp2_with fail
            go_ret
            exact ⟨rfl, _, HF7.out⟩
end Go.Proofs.YtbojjjiggppnaaaGreat

/-! The walk of chain.Add at a program of one return. -/
namespace Go.Proofs.YtbojjjiggppnaaaGreat
open Go.RowKit Go.Shelf
set_option linter.unusedVariables false
set_option linter.unusedSimpArgs false

theorem eg_add1 : ∀ args w, (callFunc 91 args).run Tryz.prog w = .ok (.enter 91 args) w := fun args w => by
  exact (enters_of Tryz.func91 (by kernel_rfl) rfl) args w
/-- What the change leaves. -/
def AddD (xs : List Node) (par up jt jf k : Int) (n : Nat) (ok : Nat → Prop) (err : Int) (v : Value) (W : World) : Prop :=
  err = 0 ∧ W.heap[n + 3]? = some (.cells #[.slice none 0 0] 31) ∧ W.heap[n + 4]? = some (.cells #[.int .i64 ((xs.length : Int) + 1)] 3) ∧ kPool.K W (fun q => ((ok q ∧ q < n) ∨ n ≤ q) ∧ q ≠ n + 6 ∧ q ≠ n + 3) ⟨xs ++ [addNode xs par up jt jf k]⟩ [v]
set_option maxRecDepth 100000 in
set_option maxHeartbeats 4000000 in
theorem c_Add6 (xs : List Node) (c cp : Nat) (A Ap : Option Addr) (par up jt jf k : Int) (ok okP : Nat → Prop) (w : World) (hC : kNode.Row w ok A xs) (hrow : kInsn.Row w okP Ap [⟨6, jt, jf, k⟩]) (hl : xs.length ≤ 20) (hpar : Kd.rng .i64 par) (hk : 0 ≤ k ∧ k < 4294967296)
    (hit : InTurn xs) (hup : UpSize xs par up) (hup0 : 0 ≤ up ∧ up ≤ 200) (hpool : poolE xs = 0) :
    Calls Tryz.prog 31 #[.agg #[.slice A xs.length c], .int .i64 par, .slice Ap 1 cp] w fun e w' => ∃ v, e = .returned (.tuple #[.agg #[v], .int .i64 ((xs.length : Int) + 1), .int .i64 0]) ∧ kPool.K w' (fun q => ok q ∨ w.heap.size ≤ q) ⟨xs ++ [addNode xs par up jt jf k]⟩ [v] ∧ Below w.heap.size w w' := by
  obtain ⟨n, hn⟩ : ∃ n, w.heap.size = n := ⟨_, rfl⟩
  have hxn := hC.1
  obtain ⟨W1, hW1⟩ : ∃ W, W = (((((w.alloc (.cells #[.slice A xs.length c] 31)).alloc (.cells #[.int .i64 par] 3)).alloc (.cells #[.slice Ap 1 cp] 38)).alloc (.cells #[.slice none 0 0] 31)).alloc (.cells #[.int .i64 0] 3)) := ⟨_, rfl⟩
  have hB1 : Below w.heap.size w W1 := by rw [hW1]; exact below_al (below_al (below_al (below_al (below_al (Below.refl _ _) _) _) _) _) _
  have hs1 : W1.heap.size = n + 5 := by rw [hW1]; simp [hn]
  have f0 : W1.heap[n]? = some (.cells #[.slice A xs.length c] 31) := by rw [hW1, ← hn]; exact blk_al (blk_al (blk_al (blk_al (blk_new _ _) _) _) _) _
  have f1 : W1.heap[n + 1]? = some (.cells #[.int .i64 par] 3) := by
    have h := blk_new (w.alloc (.cells #[.slice A xs.length c] 31)) (.cells #[.int .i64 par] 3)
    rw [World.size_alloc, hn] at h
    rw [hW1]
    exact blk_al (blk_al (blk_al (h) _) _) _
  have f2 : W1.heap[n + 2]? = some (.cells #[.slice Ap 1 cp] 38) := by
    have h := blk_new ((w.alloc (.cells #[.slice A xs.length c] 31)).alloc (.cells #[.int .i64 par] 3)) (.cells #[.slice Ap 1 cp] 38)
    rw [World.size_alloc, World.size_alloc, hn] at h
    rw [hW1]
    exact blk_al (blk_al (h) _) _
  have f3 : W1.heap[n + 3]? = some (.cells #[.slice none 0 0] 31) := by
    have h := blk_new (((w.alloc (.cells #[.slice A xs.length c] 31)).alloc (.cells #[.int .i64 par] 3)).alloc (.cells #[.slice Ap 1 cp] 38)) (.cells #[.slice none 0 0] 31)
    rw [World.size_alloc, World.size_alloc, World.size_alloc, hn] at h
    rw [hW1]
    exact blk_al (h) _
  have f4 : W1.heap[n + 4]? = some (.cells #[.int .i64 0] 3) := by
    have h := blk_new ((((w.alloc (.cells #[.slice A xs.length c] 31)).alloc (.cells #[.int .i64 par] 3)).alloc (.cells #[.slice Ap 1 cp] 38)).alloc (.cells #[.slice none 0 0] 31)) (.cells #[.int .i64 0] 3)
    rw [World.size_alloc, World.size_alloc, World.size_alloc, World.size_alloc, hn] at h
    rw [hW1]
    exact h
  have hRow := hC.bound.bel hB1
  rw [hn] at hRow
  have hturn := c_turn xs c A _ W1 hRow (by omega) 91 #[.pointer (some ⟨n + 2, 0, none⟩), .pointer (some ⟨n + 1, 0, none⟩), .pointer (some ⟨n + 4, 0, none⟩)] eg_add1 n (by omega)
    (AddD xs par up jt jf k n ok)
    (fun e v W W' h hk hsz => by
      rw [hs1] at hk
      obtain ⟨h1, h2, h3, h4⟩ := h
      exact ⟨h1, (hk _ (by omega)).trans h2, (hk _ (by omega)).trans h3, Kd.move (d := kPool) h4 (fun k hk' _ => hk k (by have := hk'.2; omega))⟩)
    (fun hp W m A1 c1 hB hm hbox hO => by
      rw [hs1] at hm hO
      have hmW := blk_lt hbox
      have hb1 : W.heap[n + 1]? = some (.cells #[.int .i64 par] 3) := blk_bel hB f1
      have hb2 : W.heap[n + 2]? = some (.cells #[.slice Ap 1 cp] 38) := blk_bel hB f2
      have hb3 : W.heap[n + 3]? = some (.cells #[.slice none 0 0] 31) := blk_bel hB f3
      have hb4 : W.heap[n + 4]? = some (.cells #[.int .i64 0] 3) := blk_bel hB f4
      have hO' : kNode.Own 65 W (n + 5 + 2) (fun q => (ok q ∧ q < n) ∨ (n + 5 + 1 < q ∧ q ≠ m)) (.slice A1 xs.length c1) xs := Kd.Own.mono (fun q hq => by
        rcases hq with h | h
        · exact .inl h.1
        · exact .inr h) hO
      have hown := hO'.le
      refine (c_add1 xs _ c1 cp A1 Ap par up jt jf k m (n + 2) (n + 1) (n + 4) (n + 5 + 2) n _ okP W hO' rfl hl hpar hk hbox hb2 hb1 hb4 (hrow.bel (hB1.trans (hB.mono hB1.size))) hit hup hup0 (fun q hq => by
        rcases hq with h | h <;> omega) (by omega) (by omega) (by omega) (by omega) (by omega)).mono ?_
      rintro e W' ⟨rfl, v, hG⟩
      have hfarb : ∀ k, k < n + 7 → k ≠ n + 4 → W'.heap[k]? = W.heap[k]? := fun k hk k1 => hG.far k (by omega) (by omega) k1 (fun e => by have := hown k e.symm; omega)
      refine ⟨0, v, rfl, hG.pool, hG.one, ⟨rfl, (hfarb _ (by omega) (by omega)).trans hb3, hG.id_, ?_⟩, by rw [hs1]; exact hfarb _ (by omega) (by omega), hG.bel⟩
      refine kPool.mono (fun q hq => ?_) hG.nodes.K
      rcases hq with (h | h) | h
      · exact ⟨.inl h, by omega, by omega⟩
      · exact ⟨.inr (by omega), by omega, by omega⟩
      · exact ⟨.inr (by omega), by omega, by omega⟩)
  have HT := Lib.hid hturn
  have HS1 := Lib.hid hs1
  have HB1 := Lib.hid hB1
  have F4 := Lib.hid f4
  have F3 := Lib.hid f3
  have F1 := Lib.hid f0
  have HN := Lib.hid hn
  have HPOOL := Lib.hid hpool
  clear hC hrow hturn hRow f0 f1 f2 f3 f4 hs1 hB1 hpool hit hup
  rw [hW1] at HT HS1 HB1 F3 F1 F4
  clear hW1 W1
  go_enter Tryz.func31, Tryz.ntmps31
  go_upto_region 2 with fail
  generalize (((((w.alloc (.cells #[.slice A xs.length c] 31)).alloc (.cells #[.int .i64 par] 3)).alloc (.cells #[.slice Ap 1 cp] 38)).alloc (.cells #[.slice none 0 0] 31)).alloc (.cells #[.int .i64 0] 3)) = W1 at *
  clear hn
  have p0 : W1.cell? ⟨n, 0, none⟩ = some (.slice A xs.length c) := blk_cell F1.out 0
  have mixed : (Tryz.prog).follows Departure.mixedOrders = true := by kernel_rfl
  go_wp2_with fail
  refine HT.out.mono ?_
  rintro e w5 (⟨hp, rfl, hB5⟩ | ⟨hp, err, v, he, hd, hB5⟩)
  · exact absurd (hp.symm.trans HPOOL.out) (by decide)
  · obtain ⟨d1, d2, d3, d4⟩ := hd
    subst d1
    have HF5 := Lib.hid d2
    have HG5 := Lib.hid d3
    have HK := Lib.hid d4
    have HB5 : Hid (Below w.heap.size w w5) := by rw [← HN.out] at hB5; exact HB1.out.trans hB5
    clear hB5 hp HT d2 d3 d4
    rcases he with ⟨h0, rfl⟩ | ⟨h0, rfl⟩
    · have hvf : ∃ Av lv cv, v = .slice Av lv cv := by
        obtain ⟨Av, cv, hv, -, -, -⟩ := HK.out
        simp only [List.cons.injEq, and_true] at hv
        exact ⟨_, _, _, hv⟩
      obtain ⟨Av, lv, cv, hvf⟩ := hvf
      subst hvf
      clear h0
      obtain ⟨m, hm⟩ : ∃ m, w5.heap.size = m := ⟨_, rfl⟩
      have f8 : (w5.alloc (.cells #[.slice Av lv cv] 31)).heap[m]? = some (.cells #[.slice Av lv cv] 31) := by rw [← hm]; exact blk_new _ _
      have F8 := Lib.hid f8
      have G8 := Lib.hid (blk_al HG5.out (.cells #[.slice Av lv cv] 31))
      have R8 := Lib.hid (blk_al HF5.out (.cells #[.slice Av lv cv] 31))
      have B8 := Lib.hid (below_al (Below.refl w5.heap.size w5) (.cells #[.slice Av lv cv] 31))
      clear f8
      go_upto_region 3 with fail
      clear hm
      generalize (w5.alloc (.cells #[.slice Av lv cv] 31)) = W6 at *
      have c8 : W6.cell? ⟨m, 0, none⟩ = some (.slice Av lv cv) := blk_cell F8.out 0
      have c7 : W6.cell? ⟨n + 1 + 1 + 1 + 1, 0, none⟩ = some (.int .i64 ((xs.length : Int) + 1)) := blk_cell G8.out 0
      have c6 : W6.cell? ⟨n + 1 + 1 + 1, 0, none⟩ = some (.slice none 0 0) := blk_cell R8.out 0
      have f6 : W6.frozen? ⟨n + 1 + 1 + 1, 0, none⟩ = false := blk_free R8.out 0
      have h68 : Hid (W6.heap[n + 1 + 1 + 1]? = some (.cells #[.slice none 0 0] 31)) := R8.out
      go_region
      all_goals
        go_wp2_with fail
        refine bodyPost_ret (results_ctt rfl _ _ (n + 1 + 1 + 1) _ #[.slice Av lv cv] _ _ rfl (blk_set (j := 0) h68.out _) Tryz.underlying31 rfl (by kernel_rfl)) rfl ?_
        refine ⟨.slice Av lv cv, rfl, ?_, (HB5.out.trans (B8.out.mono HB5.out.size)).trans (undrew ((Below.refl _ _).setCell (p := ⟨n + 1 + 1 + 1, 0, none⟩) (by rw [HN.out]; simp; omega) _))⟩
        refine kPool.mono (fun q hq => ?_) (kPool.bel (Kd.far (d := kPool) (kPool.bel HK.out B8.out) (p := ⟨n + 1 + 1 + 1, 0, none⟩) (fun k hk e => by simp only at e; omega) _) (below_d1 (Below.refl _ _)))
        rcases hq.1 with h | h
        · exact .inl h.1
        · exact .inr (by rw [HN.out]; exact h)
    · exact absurd rfl h0
end Go.Proofs.YtbojjjiggppnaaaGreat
