/- The walk of slices.BinarySearchFunc at filters, and of chain.place. -/
import Derived.Test.YtbojjjiggppnaaaGreatM1
namespace Go.Proofs.YtbojjjiggppnaaaGreat
open Go.RowKit Go.Shelf
set_option linter.unusedVariables false
set_option linter.unusedSimpArgs false

/-- By rising numbers. -/
def Rising (xs : List Node) : Prop := ∀ i j (hi : i < xs.length) (hj : j < xs.length), i < j → xs[i].id < xs[j].id
/-- Ahead of i all are below t, and none from i on: where they rise. -/
def Parts (xs : List Node) (t : Int) (i j : Nat) : Prop := Rising xs → (∀ k (hk : k < xs.length), k < i → xs[k].id < t) ∧ (∀ k (hk : k < xs.length), j ≤ k → t ≤ xs[k].id)
theorem Parts.up {xs : List Node} {t : Int} {i j h : Nat} (hP : Parts xs t i j) (hh : h < xs.length) (hlt : xs[h].id < t) : Parts xs t (h + 1) j := fun hR => ⟨fun k hk hkh => by
  rcases Nat.lt_succ_iff_lt_or_eq.1 hkh with h' | rfl
  · exact Int.lt_trans (hR k h hk hh h') hlt
  · exact hlt, (hP hR).2⟩
theorem Parts.down {xs : List Node} {t : Int} {i j h : Nat} (hP : Parts xs t i j) (hh : h < xs.length) (hge : t ≤ xs[h].id) : Parts xs t i h := fun hR => ⟨(hP hR).1, fun k hk hhk => by
  rcases Nat.lt_or_eq_of_le hhk with h' | rfl
  · exact Int.le_trans hge (Int.le_of_lt (hR h k hh hk h'))
  · exact hge⟩
def isAt (xs : List Node) (t : Int) (i : Nat) : Bool := match xs[i]? with
  | some x => x.id == t
  | none => false
set_option maxHeartbeats 2000000 in
theorem c_bsearch (A : Option Addr) (xs : List Node) (n c : Nat) (t : Int) (b : Nat) (ok : Nat → Prop) (w : World) (hC : kNode.Row w ok A xs) (hn0 : n = xs.length) (hl : xs.length ≤ 1000000) (hb : w.heap[b]? = some (.cells #[.func (.func 151) #[] #[]] 198)) :
    Calls Tryz.prog 182 #[.slice A n c, .int .i64 t, .func (.func 183) #[] #[.pointer (some ⟨b, 0, none⟩)]] w fun e w' => ∃ i : Nat, e = .returned (.tuple #[.int .i64 i, .bool (isAt xs t i)]) ∧ i ≤ xs.length ∧ Parts xs t i i ∧ Below w.heap.size w w' := by
  subst hn0
  have heg := eg_row1
  have HC := Lib.hid hC
  have HB := Lib.hid hb
  clear hC hb
  go_enter Tryz.func182, Tryz.ntmps182
  go_wp2_with fail
  go_loopw [9, 10, 11] (fun lo hi _ wr => ∃ i j : Nat, lo = .int .i64 i ∧ hi = .int .i64 j ∧ i ≤ j ∧ j ≤ xs.length ∧ Hid (Parts xs t i j) ∧ Hid (Below w.heap.size w wr)) (fun lo hi _ _ => (intOf hi - intOf lo).toNat)
  case atStart => exact ⟨0, xs.length, rfl, rfl, Nat.zero_le _, Nat.le_refl _, fun _ => ⟨fun k _ h => absurd h (Nat.not_lt_zero _), fun k h1 h2 => absurd h1 (by omega)⟩, Below.refl _ _⟩
  case round =>
    obtain ⟨i, j, rfl, rfl, hij, hj, hP, hBr⟩ := hrel
    by_cases hlt : i < j
    · obtain ⟨h, hh⟩ : ∃ h, h = (i + j) / 2 := ⟨_, rfl⟩
      have h1 : i ≤ h := by omega
      have h2 : h < j := by omega
      have hhl : h < xs.length := by omega
      obtain ⟨ad, A2, c2, rfl, hok, ⟨g0, g1, g2, g3, g4, g5, g6⟩, e0, e1, e2, e3, e4, e5, e6⟩ := kNode.at_ (HC.out.bel hBr.out) hhl
      have hcall := c_row1 xs[h] t b ok _ wr (kNode.mk (x := xs[h]) g0 g1 g2 g3 g4 g5 g6) (blk_bel hBr.out HB.out)
      have HUP : Hid (xs[h].id < t → Parts xs t (h + 1) j) := fun hx => hP.out.up hhl hx
      have HDN : Hid (t ≤ xs[h].id → Parts xs t i h) := fun hx => hP.out.down hhl hx
      have g2' := g2.2.2.1
      have HCALL := Lib.hid hcall
      clear hcall g2 hP
      generalize xs[h] = x at *
      subst hh
      go_wp2_with fail
      refine HCALL.out.mono ?_
      rintro e w2 ⟨rfl, hB2⟩
      have HB2 := Lib.hid (below_tr hBr.out hB2)
      clear hB2 HCALL e0 e1 e2 e3 e4 e5 e6
      by_cases hx : x.id < t
      · have hc : cmpI x.id t = -1 := by unfold cmpI; rw [if_pos hx]
        rw [hc]
        clear hc
        go_wp2_with fail
        go_roundw
        case rel => exact ⟨(i + j) / 2 + 1, j, by go_num, rfl, by omega, hj, HUP.out hx, HB2.out⟩
        case measure => simp [intOf]; omega
      · have hc : ¬ (cmpI x.id t < 0) := by unfold cmpI; rw [if_neg hx]; split <;> omega
        generalize cmpI x.id t = q at *
        go_wp2_with fail
        go_roundw
        case rel => exact ⟨i, (i + j) / 2, rfl, by go_num, by omega, by omega, HDN.out (by omega), HB2.out⟩
        case measure => simp [intOf]; omega
    · obtain rfl : i = j := by omega
      by_cases hil : i < xs.length
      · obtain ⟨ad, A2, c2, rfl, hok, ⟨g0, g1, g2, g3, g4, g5, g6⟩, e0, e1, e2, e3, e4, e5, e6⟩ := kNode.at_ (HC.out.bel hBr.out) hil
        have hcall := c_row1 xs[i] t b ok _ wr (kNode.mk (x := xs[i]) g0 g1 g2 g3 g4 g5 g6) (blk_bel hBr.out HB.out)
        have g2' := g2.2.2.1
        have HAT : Hid (isAt xs t i = (xs[i].id == t)) := by simp [Hid, isAt, hil]
        have HCALL := Lib.hid hcall
        clear hcall g2
        generalize xs[i] = x at *
        go_wp2_with fail
        refine HCALL.out.mono ?_
        rintro e w2 ⟨rfl, hB2⟩
        have HB2 := Lib.hid (below_tr hBr.out hB2)
        clear hB2 HCALL e0 e1 e2 e3 e4 e5 e6
        go_wp2_with fail
        go_ret2
        refine ⟨i, ?_, hj, hP.out, HB2.out⟩
        have hz : (cmpI x.id t == 0) = (x.id == t) := by unfold cmpI; grind
        show Ending.returned (.tuple #[.int .i64 i, .bool (cmpI x.id t == 0)]) = _
        rw [HAT.out, hz]
      · have HAT : Hid (isAt xs t i = false) := by simp [Hid, isAt, hil]
        go_wp2_with fail
        go_ret2
        exact ⟨i, by show Ending.returned (.tuple #[.int .i64 i, .bool false]) = _; rw [HAT.out], hj, hP.out, hBr.out⟩
set_option maxHeartbeats 2000000 in
/-- The place of a filter. -/
theorem c_place (xs : List Node) (n c : Nat) (A : Option Addr) (t : Int) (ok : Nat → Prop) (w : World) (hC : kNode.Row w ok A xs) (hn0 : n = xs.length) (hl : xs.length ≤ 1000000) :
    Calls Tryz.prog 86 #[.agg #[.slice A n c], .int .i64 t] w fun e w' => ∃ i : Nat, e = .returned (.tuple #[.int .i64 i, .bool (isAt xs t i)]) ∧ i ≤ xs.length ∧ Parts xs t i i ∧ Below w.heap.size w w' := by
  subst hn0
  have hrow : Calls Tryz.prog 150 #[.slice A xs.length c, .int .i64 t, .func (.func 151) #[] #[]] (w.alloc (.cells #[.slice A xs.length c] 31)) fun e w' => ∃ i : Nat, e = .returned (.tuple #[.int .i64 i, .bool (isAt xs t i)]) ∧ i ≤ xs.length ∧ Parts xs t i i ∧ Below w.heap.size w w' := by
    have hB1 : Below w.heap.size w (w.alloc (.cells #[.slice A xs.length c] 31)) := below_al (Below.refl _ _) _
    have hR1 := hC.bel hB1
    generalize (w.alloc (.cells #[.slice A xs.length c] 31)) = W at *
    have hR2 := hR1.bel (below_al (Below.refl _ _) (.cells #[.func (.func 151) #[] #[]] 198))
    have H := Lib.hid (c_bsearch A xs _ c t W.heap.size ok _ hR2 rfl hl (blk_new W _))
    have HB1 := Lib.hid hB1
    clear hR1 hR2 hC hB1
    go_enter Tryz.func150, Tryz.ntmps150
    go_wp2_with fail
    refine H.out.mono ?_
    rintro e w2 ⟨i, rfl, hi, hP, hB2⟩
    have HP := Lib.hid hP
    clear hP
    go_wp2_with fail
    go_ret2
    exact ⟨i, rfl, hi, HP.out, below_tr HB1.out (below_tr (below_al (Below.refl _ _) _) hB2)⟩
  have HR := Lib.hid hrow
  clear hrow hC
  go_enter Tryz.func86, Tryz.ntmps86
  go_wp2_with fail
  refine HR.out.mono ?_
  rintro e w2 ⟨i, rfl, hi, hP, hB2⟩
  have HP := Lib.hid hP
  clear hP
  go_wp2_with fail
  go_ret2
  exact ⟨i, rfl, hi, HP.out, hB2⟩
end Go.Proofs.YtbojjjiggppnaaaGreat
