/- The walk of policy.shadows. -/
import Derived.Test.YtiepnnjodmkolaaK1
namespace Go.Proofs.Ytiepnnjodmkolaa
open Go.RowKit Go.Shelf
set_option linter.unusedVariables false
set_option linter.unusedSimpArgs false

/-- Does the first rule hide the second? -/
def missR (r s : Rule) : Bool := s.archs.any (fun y => !(r.archs.any (fun z => y == z)))
def shadR (r s : Rule) : Bool := (r.tests.length == 0) && ((r.archs.length == 0) || (decide (0 < s.archs.length) && !(missR r s))) && decide (r.lo ≤ s.lo) && decide (s.hi ≤ r.hi)
set_option maxHeartbeats 1000000 in
theorem c_miss (A : Option Addr) (xs : List Int) (c : Nat) (v : Int) (b : Nat) (ok : Nat → Prop) (w : World) (hC : (Kd.int .u32).Row w ok A xs) (hb : w.cell? ⟨b, 0, none⟩ = some (.slice A xs.length c)) :
    Calls Try.prog 66 #[.int .u32 v, .pointer (some ⟨b, 0, none⟩)] w fun e w' => e = .returned (.bool (!(xs.any (fun z => v == z)))) ∧ Below w.heap.size w w' := by
  have h := c_contains32 A xs _ c v ok w hC rfl
  generalize (xs.any (fun z => v == z)) = f at *
  clear hC
  go_enter Try.func66, Try.ntmps66
  go_wp2_with (go_at_call 36; refine h.mono ?_; rintro e w1 ⟨rfl, hB⟩)
  go_ret
  exact ⟨rfl, hB⟩
theorem eg_miss : ∀ args w, (callFunc 66 args).run Try.prog w = .ok (.enter 66 args) w := fun args w => by
  exact (enters_of Try.func66 (by kernel_rfl) rfl) args w
set_option maxRecDepth 100000 in
set_option maxHeartbeats 8000000 in
theorem c_shadows (r s : Rule) (ok ok' : Nat → Prop) (cs ds : List Value) (w : World) (hK : kRule.K w ok r cs) (hL : kRule.K w ok' s ds) :
    Calls Try.prog 47 #[.agg cs.toArray, .agg ds.toArray] w fun e w' => e = .returned (.bool (shadR r s)) ∧ Below w.heap.size w w' := by
  obtain ⟨A0, c0, A3, c3, rfl, ⟨l0, m0, r0⟩, g1, g2, ⟨l3, m3, r3⟩, g4⟩ := kRule.opn hK
  obtain ⟨B0, d0, B3, d3, rfl, ⟨k0, n0, q0⟩, f1, f2, ⟨k3, n3, q3⟩, f4⟩ := kRule.opn hL
  have hn0 := r0.1
  have hn3 := r3.1
  have hp0 := q0.1
  have hp3 := q3.1
  obtain ⟨n, hsz⟩ : ∃ n, w.heap.size = n := ⟨_, rfl⟩
  obtain ⟨W1, hW1⟩ : ∃ W, W = ((w.alloc (.cells #[.slice A0 r.archs.length c0, .int .u32 r.lo, .int .u32 r.hi, .slice A3 r.tests.length c3, .int .u32 r.word] 51)).alloc (.cells #[.slice B0 s.archs.length d0, .int .u32 s.lo, .int .u32 s.hi, .slice B3 s.tests.length d3, .int .u32 s.word] 51)) := ⟨_, rfl⟩
  have hB1 : Below w.heap.size w W1 := by rw [hW1]; exact below_al (below_al (Below.refl _ _) _) _
  have hR1 : W1.heap[n]? = some (.cells #[.slice A0 r.archs.length c0, .int .u32 r.lo, .int .u32 r.hi, .slice A3 r.tests.length c3, .int .u32 r.word] 51) := by rw [hW1, ← hsz]; exact blk_al (blk_new _ _) _
  have hS1 : W1.heap[n + 1]? = some (.cells #[.slice B0 s.archs.length d0, .int .u32 s.lo, .int .u32 s.hi, .slice B3 s.tests.length d3, .int .u32 s.word] 51) := by
    rw [hW1, ← hsz]
    have h := blk_new (w.alloc (.cells #[.slice A0 r.archs.length c0, .int .u32 r.lo, .int .u32 r.hi, .slice A3 r.tests.length c3, .int .u32 r.word] 51)) (.cells #[.slice B0 s.archs.length d0, .int .u32 s.lo, .int .u32 s.hi, .slice B3 s.tests.length d3, .int .u32 s.word] 51)
    rwa [World.size_alloc] at h
  have HC : Hid (∀ W, Below W1.heap.size W1 W → W.cell? ⟨n, 0, none⟩ = some (.slice A0 r.archs.length c0) ∧ W.cell? ⟨n, 1, none⟩ = some (.int .u32 r.lo) ∧ W.cell? ⟨n, 2, none⟩ = some (.int .u32 r.hi) ∧ W.cell? ⟨n, 3, none⟩ = some (.slice A3 r.tests.length c3) ∧ W.cell? ⟨n + 1, 0, none⟩ = some (.slice B0 s.archs.length d0) ∧ W.cell? ⟨n + 1, 1, none⟩ = some (.int .u32 s.lo) ∧ W.cell? ⟨n + 1, 2, none⟩ = some (.int .u32 s.hi)) := fun W h => ⟨blk_cell (blk_bel h hR1) 0, blk_cell (blk_bel h hR1) 1, blk_cell (blk_bel h hR1) 2, blk_cell (blk_bel h hR1) 3, blk_cell (blk_bel h hS1) 0, blk_cell (blk_bel h hS1) 1, blk_cell (blk_bel h hS1) 2⟩
  have HM : Hid (Calls Try.prog 67 #[.slice B0 s.archs.length d0, .func (.func 66) #[] #[.pointer (some ⟨n, 0, none⟩)]] W1 fun e w' => e = .returned (.bool (missR r s)) ∧ Below W1.heap.size W1 w') :=
    c_containsU32 B0 s.archs _ d0 _ _ _ ok' W1 (q0.bel hB1) rfl eg_miss (fun x _ W hW _ => c_miss A0 r.archs c0 x n ok W (r0.bel (hB1.trans (hW.mono hB1.size))) (HC.out W hW).1)
  have HB1 := Lib.hid hB1
  have hdef : shadR r s = ((r.tests.length == 0) && ((r.archs.length == 0) || (decide (0 < s.archs.length) && !(missR r s))) && decide (r.lo ≤ s.lo) && decide (s.hi ≤ r.hi)) := rfl
  rw [hdef]
  clear hdef hR1 hS1 hB1 r0 r3 q0 q3 l0 m0 l3 m3 k0 n0 k3 n3 g1 g2 g4 f1 f2 f4 hK hL
  generalize missR r s = ms at *
  obtain ⟨archs, lo, hi, tests, word⟩ := r
  obtain ⟨archs', lo', hi', tests', word'⟩ := s
  simp only at *
  rw [hW1] at HC HM HB1
  clear hW1
  obtain ⟨i0, i1, i2, i3, j0, j1, j2⟩ := HC.out _ (Below.refl _ _)
  go_enter Try.func47, Try.ntmps47
  simp only [hsz]
  go_wp2_with (go_at_call 67; refine HM.out.mono ?_; rintro e w2 ⟨rfl, hB2⟩; obtain ⟨i0, i1, i2, i3, j0, j1, j2⟩ := HC.out _ hB2)
  all_goals
    go_ret
    refine ⟨ret_b ?_, ?_⟩
  all_goals first
    | exact (by rw [← hsz]; exact below_al (below_al (Below.refl _ _) _) _)
    | exact (by rw [← hsz]; exact below_tr (below_al (below_al (Below.refl _ _) _) _) hB2)
    | (clear HB1 HM HC i0 i1 i2 i3 j0 j1 j2; grind)
theorem c_shadowed1 (r s : Rule) (ok ok' : Nat → Prop) (cs ds : List Value) (b : Nat) (w : World) (hK : kRule.K w ok r cs) (hL : kRule.K w ok' s ds) (hb : w.heap[b]? = some (.cells ds.toArray 51)) :
    Calls Try.prog 46 #[.agg cs.toArray, .pointer (some ⟨b, 0, none⟩)] w fun e w' => e = .returned (.bool (shadR r s)) ∧ Below w.heap.size w w' := by
  have h := c_shadows r s ok ok' cs ds (w.alloc (.cells cs.toArray 51)) (kRule.al hK _) (kRule.al hL _)
  obtain ⟨A0, c0, A3, c3, rfl, ⟨l0, m0, r0⟩, g1, g2, ⟨l3, m3, r3⟩, g4⟩ := kRule.opn hK
  obtain ⟨B0, d0, B3, d3, rfl, ⟨k0, n0, q0⟩, f1, f2, ⟨k3, n3, q3⟩, f4⟩ := kRule.opn hL
  have hn0 := r0.1
  have hn3 := r3.1
  have hp0 := q0.1
  have hp3 := q3.1
  have e0 : (w.alloc (.cells #[.slice A0 r.archs.length c0, .int .u32 r.lo, .int .u32 r.hi, .slice A3 r.tests.length c3, .int .u32 r.word] 51)).cell? ⟨b, 0, none⟩ = some (.slice B0 s.archs.length d0) := cell_al (blk_cell hb 0) (.cells #[.slice A0 r.archs.length c0, .int .u32 r.lo, .int .u32 r.hi, .slice A3 r.tests.length c3, .int .u32 r.word] 51)
  have e1 : (w.alloc (.cells #[.slice A0 r.archs.length c0, .int .u32 r.lo, .int .u32 r.hi, .slice A3 r.tests.length c3, .int .u32 r.word] 51)).cell? ⟨b, 1, none⟩ = some (.int .u32 s.lo) := cell_al (blk_cell hb 1) (.cells #[.slice A0 r.archs.length c0, .int .u32 r.lo, .int .u32 r.hi, .slice A3 r.tests.length c3, .int .u32 r.word] 51)
  have e2 : (w.alloc (.cells #[.slice A0 r.archs.length c0, .int .u32 r.lo, .int .u32 r.hi, .slice A3 r.tests.length c3, .int .u32 r.word] 51)).cell? ⟨b, 2, none⟩ = some (.int .u32 s.hi) := cell_al (blk_cell hb 2) (.cells #[.slice A0 r.archs.length c0, .int .u32 r.lo, .int .u32 r.hi, .slice A3 r.tests.length c3, .int .u32 r.word] 51)
  have e3 : (w.alloc (.cells #[.slice A0 r.archs.length c0, .int .u32 r.lo, .int .u32 r.hi, .slice A3 r.tests.length c3, .int .u32 r.word] 51)).cell? ⟨b, 3, none⟩ = some (.slice B3 s.tests.length d3) := cell_al (blk_cell hb 3) (.cells #[.slice A0 r.archs.length c0, .int .u32 r.lo, .int .u32 r.hi, .slice A3 r.tests.length c3, .int .u32 r.word] 51)
  have e4 : (w.alloc (.cells #[.slice A0 r.archs.length c0, .int .u32 r.lo, .int .u32 r.hi, .slice A3 r.tests.length c3, .int .u32 r.word] 51)).cell? ⟨b, 4, none⟩ = some (.int .u32 s.word) := cell_al (blk_cell hb 4) (.cells #[.slice A0 r.archs.length c0, .int .u32 r.lo, .int .u32 r.hi, .slice A3 r.tests.length c3, .int .u32 r.word] 51)
  clear hK hL hb r0 r3 q0 q3 l0 m0 l3 m3 k0 n0 k3 n3 g1 g2 g4 f1 f2 f4
  generalize shadR r s = sh at *
  obtain ⟨archs, lo, hi, tests, word⟩ := r
  obtain ⟨archs', lo', hi', tests', word'⟩ := s
  simp only at *
  go_enter Try.func46, Try.ntmps46
  go_wp2_with (go_at_call 47; refine h.mono ?_; rintro e w2 ⟨rfl, hB2⟩)
  go_ret
  exact ⟨rfl, below_tr (below_al (Below.refl _ _) _) hB2⟩
theorem eg_shadowed1 : ∀ args w, (callFunc 46 args).run Try.prog w = .ok (.enter 46 args) w := fun args w => by
  exact (enters_of Try.func46 (by kernel_rfl) rfl) args w
end Go.Proofs.Ytiepnnjodmkolaa
