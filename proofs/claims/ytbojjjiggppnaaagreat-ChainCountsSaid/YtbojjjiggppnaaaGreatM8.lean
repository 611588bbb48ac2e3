/- The walk of chain.Take's change. -/
import Derived.Test.YtbojjjiggppnaaaGreatM7
import Derived.Deep.RegionHeld3
namespace Go.Proofs.YtbojjjiggppnaaaGreat
open Go.RowKit Go.Shelf
set_option linter.unusedVariables false
set_option linter.unusedSimpArgs false

theorem own_rowN {w : World} {base n c : Nat} {ok : Nat → Prop} {A : Option Addr} {xs : List Node} (h : kNode.Own 65 w base ok (.slice A n c) xs) : kNode.Row w ok A xs := by
  obtain ⟨A', c', e1, h1, h2, h3⟩ := h.K
  simp only [List.cons.injEq, Value.slice.injEq, and_true] at e1
  obtain ⟨rfl, -, rfl⟩ := e1
  exact h3
set_option maxRecDepth 100000 in
set_option maxHeartbeats 4000000 in
theorem c_take1 (xs : List Node) (n c : Nat) (A : Option Addr) (t : Int) (bp bi base : Nat) (ok : Nat → Prop) (w : World) (hO : kNode.Own 65 w base ok (.slice A n c) xs) (hn0 : n = xs.length) (hl : xs.length ≤ 1000000)
    (hp : w.heap[bp]? = some (.cells #[.slice A n c] 31)) (hi : w.heap[bi]? = some (.cells #[.int .i64 t] 3)) (hcnt : ∀ x ∈ xs, x.count ≤ 1099511627776) (hne : ∀ q, (Value.slice A n c).ownBlock = some q → q ≠ bp) :
    Calls Tryz.prog 98 #[.pointer (some ⟨bp, 0, none⟩), .pointer (some ⟨bi, 0, none⟩)] w fun e w' => ∃ i : Nat, i ≤ xs.length ∧ Parts xs t i i ∧ ((isAt xs t i = false ∧ e = .returned (.int .i64 4) ∧ Below w.heap.size w w') ∨ (isAt xs t i = true ∧ ∃ h : i < xs.length, e = .returned (.int .i64 0) ∧ kNode.Own 65 w' base ok (.slice A n c) (xs.set i { xs[i] with count := xs[i].count + 1 }) ∧ w'.heap[bp]? = some (.cells #[.slice A n c] 31) ∧ Below base w w')) := by
  subst hn0
  have hrow := (own_rowN hO)
  have HPL := Lib.hid (fun (W : World) (h : Below w.heap.size w W) => c_place xs _ c A t ok W (hrow.bel h) rfl hl)
  have HC : Hid (∀ W, Below w.heap.size w W → W.cell? ⟨bp, 0, none⟩ = some (.slice A xs.length c) ∧ W.cell? ⟨bi, 0, none⟩ = some (.int .i64 t)) := fun W h => ⟨blk_cell (blk_bel h hp) 0, blk_cell (blk_bel h hi) 0⟩
  have hxn := hrow.1
  obtain ⟨p0, i0⟩ := HC.out _ (Below.refl _ _)
  go_enter Tryz.func98, Tryz.ntmps98
  go_wp2_with fail
  go_region_held3 (fun w' => w'.cell? ⟨bp, 0, none⟩ = some (.slice A xs.length c) ∧ w'.cell? ⟨bi, 0, none⟩ = some (.int .i64 t))
    (first | exact HC.out _ hb2 | exact HC.out _ (below_d1 (Below.refl _ _)) | exact HC.out _ (Below.refl _ _))
    (first
    | (go_at_call 86; (with_reducible refine (HPL.out _ (below_d1 (Below.refl _ _))).mono ?_); rintro e w2 ⟨i, rfl, hil, hP, hb2'⟩; have hb2 : Below w.heap.size w w2 := undrew hb2'))
  rename_i hHeld
  have HB2 := Lib.hid hb2
  have HP := Lib.hid hP
  clear hHeld hb2 hb2' hP p0 i0
  obtain ⟨p0, i0⟩ := HC.out _ HB2.out
  cases hat : isAt xs t i
  · go_wp2_with fail
    go_ret
    exact ⟨i, hil, HP.out, .inl ⟨hat, rfl, HB2.out⟩⟩
  · have hlt : i < xs.length := by
      unfold isAt at hat
      by_cases h : i < xs.length
      · exact h
      · rw [List.getElem?_eq_none (by omega)] at hat
        cases hat
    obtain ⟨g, c', hv, hbg, hokg, hgs, hfz⟩ := hO.at_ (by omega)
    simp only [Value.slice.injEq, true_and] at hv
    obtain ⟨rfl, rfl⟩ := hv
    have hO2 := hO.bel HB2.out
    obtain ⟨ad, A2, c2, had, hok, ⟨g0, g1, g2, g3, g4, g5, g6⟩, e0, e1, e2, e3, e4, e5, e6⟩ := kNode.at_ (own_rowN hO2) hlt
    cases had
    have hadd : ∀ m, (Addr.mk g 0 none).add m = ⟨g, m, none⟩ := fun m => by unfold Addr.add; by_cases h : m = 0 <;> simp [h]
    simp only [hadd] at e0 e1 e2 e3 e4 e5 e6
    have f4 : w2.frozen? ⟨g, i * 7 + 4, none⟩ = false := by
      exact (Kd.Own.at_ hO2 (by omega)).elim (fun g' h => by
        obtain ⟨c'', hv, -, -, -, hf⟩ := h
        simp only [Value.slice.injEq, Option.some.injEq, Addr.mk.injEq, and_true] at hv
        obtain ⟨rfl, -⟩ := hv
        exact hf _)
    have hc := hcnt _ (List.getElem_mem hlt)
    have hi0 : (0 : Int) ≤ (i : Int) := by omega
    have hi1 : (i : Int) < (xs.length : Int) := by omega
    have HO2 := Lib.hid hO2
    have HP2 := Lib.hid (blk_bel HB2.out hp)
    have hgp := hne g (by simp [Value.ownBlock])
    simp only [Kd.rng] at g4
    clear hadd g0 g1 g2 g3 g5 g6 hO2 e0 e1 e2 e3 e5 e6
    obtain ⟨q, hq⟩ : ∃ q, q = xs[i].count := ⟨_, rfl⟩
    rw [← hq] at e4 hc g4
    have HQ := Lib.hid hq
    clear hq
    go_wp2_with fail
    go_ret
    refine ⟨i, hil, HP.out, .inr ⟨hat, rfl, ⟨hlt, ?_⟩, blk_far HP2.out (p := ⟨g, i * 7 + 4, none⟩) (fun e => hgp e.symm) _, (HB2.out.mono (by omega)).setCell (p := ⟨g, i * 7 + 4, none⟩) hbg _⟩⟩
    refine Kd.Own.store (f := 4) HO2.out hlt (by decide) _ _ (fun cs hK => ?_)
    rw [HQ.out]
    rw [HQ.out] at hc g4
    obtain ⟨A9, c9, rfl, k0, k1, k2, k3, k4, k5, k6⟩ := kNode.opn hK
    simp only [Kd.rng] at k4
    exact kNode.mk (x := { xs[i] with count := xs[i].count + 1 }) k0 k1 k2 k3 ⟨by simp only; omega, by simp only; omega⟩ k5 k6
end Go.Proofs.YtbojjjiggppnaaaGreat
