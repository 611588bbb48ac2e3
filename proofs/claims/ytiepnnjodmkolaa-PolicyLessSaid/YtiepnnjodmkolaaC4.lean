/- The walk of a rule's block of instructions. -/
import Derived.Test.YtiepnnjodmkolaaC3
import Derived.Deep.RegionHeld3
namespace Go.Proofs.Ytiepnnjodmkolaa
open Go.RowKit Go.Shelf
set_option linter.unusedVariables false
set_option linter.unusedSimpArgs false

theorem Row_lt {α : Type} {d : Kd α} {w w1 : World} {ok : Nat → Prop} {A : Option Addr} {xs : List α} {b : Nat} (h : d.Row w ok A xs) (hb : w.heap.size ≤ b) (hB : Below w.heap.size w w1) : d.Row w1 (fun k => k < b) A xs :=
  Kd.Row.mono (fun k hk => by omega) (Kd.Row.move h.bound (fun k hk _ => hB.block k hk.2))

theorem testBad_of {tests : List Test} (h : tests.any testBad = false) {k : Nat} (hk : k < tests.length) : 0 ≤ tests[k].arg ∧ tests[k].arg < 6 := by
  rw [List.any_eq_false] at h
  have := h _ (List.getElem_mem hk)
  simp only [testBad, Bool.or_eq_true, decide_eq_true_eq, not_or, Int.not_lt, ge_iff_le, Int.not_le] at this
  exact this
theorem wf3 {t : Test} (h0 : 0 ≤ t.arg) (h6 : t.arg < 6) (h2 : Kd.rng .u32 t.mask) (h3 : Kd.rng .u32 t.value) : ∀ y ∈ [insn 32 (offs t), insn 84 t.mask, insn 21 t.value], y.wf := by
  intro y hy
  simp only [List.mem_cons, List.not_mem_nil, or_false] at hy
  rcases hy with rfl | rfl | rfl
  · exact insn_wf (by decide) (by unfold offs; split <;> omega)
  · exact insn_wf (by decide) h2
  · exact insn_wf (by decide) h3
theorem archBlk_len (l : List Int) : (archBlk l).length ≤ l.length + 2 := by unfold archBlk; split <;> simp [archIns]
theorem tests3_length (l : List Test) : (tests3 l).length = 3 * l.length := by
  induction l with
  | nil => rfl
  | cons t l ih => simp only [tests3, List.flatMap_cons, List.length_append, List.length_cons, List.length_nil] at *; omega
theorem tests3_take (l : List Test) (k : Nat) (hk : k < l.length) : tests3 (l.take (k + 1)) = tests3 (l.take k) ++ [insn 32 (offs l[k]), insn 84 l[k].mask, insn 21 l[k].value] := by
  rw [List.take_succ_eq_append_getElem hk]
  simp only [tests3, List.flatMap_append, List.flatMap_cons, List.flatMap_nil, List.append_nil]
theorem tests3_len {archs : List Int} {tests : List Test} {lo hi : Int} {k : Nat} (ha : archs.length ≤ 2) (ht : tests.length ≤ 3) : (archBlk archs ++ [insn 32 0, insn 53 lo, insn 37 hi] ++ tests3 (tests.take k)).length + 3 ≤ 1000000 := by
  have h1 := archBlk_len archs
  have h2 := tests3_length (tests.take k)
  have h3 : (tests.take k).length ≤ tests.length := List.length_take_le' _ _
  simp only [List.length_append, List.length_cons, List.length_nil]
  omega
def patched (f n : Nat) (bs : List Insn) (k : Nat) : List Insn := bs.mapIdx fun i x => if i < k then patch f n i x else x
theorem patched_length (f n : Nat) (bs : List Insn) (k : Nat) : (patched f n bs k).length = bs.length := by simp [patched]
theorem patched_zero (f n : Nat) (bs : List Insn) : patched f n bs 0 = bs := by
  unfold patched
  apply List.ext_getElem <;> simp
theorem patched_get (f n : Nat) (bs : List Insn) (k : Nat) (hk : k < bs.length) : (patched f n bs k)[k]'(by rw [patched_length]; exact hk) = bs[k] := by simp [patched]
theorem patched_succ (f n : Nat) (bs : List Insn) (k : Nat) (hk : k < bs.length) : patched f n bs (k + 1) = (patched f n bs k).set k (patch f n k bs[k]) := by
  unfold patched
  apply List.ext_getElem
  · simp
  · intro i h1 h2
    simp only [List.getElem_mapIdx, List.getElem_set]
    by_cases h : k = i
    · subst h; simp
    · rw [if_neg h]
      by_cases h' : i < k
      · rw [if_pos (by omega), if_pos h']
      · rw [if_neg (by omega), if_neg h']
theorem patched_stay {f n : Nat} {bs : List Insn} {k : Nat} (hk : k < bs.length) (h : patch f n k bs[k] = bs[k]) : patched f n bs (k + 1) = patched f n bs k := by
  rw [patched_succ f n bs k hk, h]
  conv => lhs; rw [← patched_get f n bs k hk]
  exact List.set_getElem_self _
/-- A store into the k-th instruction's field, as the patch says. -/
theorem patched_store {w : World} {e : TypeId} {base g n c f : Nat} {ok : Nat → Prop} {bs : List Insn} {k : Nat} (hk : k < bs.length) (h : kInsn.Own e w base ok (.slice (some ⟨g, 0, none⟩) n c) (patched f bs.length bs k)) (j : Nat) (hj : j < 4) (u : Value)
    (hc : (patch f bs.length k bs[k]).cells = bs[k].cells.set j u) (hw : (patch f bs.length k bs[k]).wf) : kInsn.Own e (w.setCell ⟨g, k * 4 + j, none⟩ u) base ok (.slice (some ⟨g, 0, none⟩) n c) (patched f bs.length bs (k + 1)) := by
  rw [patched_succ f _ bs k hk]
  refine h.store (i := k) (f := j) (by rw [patched_length]; exact hk) hj u _ (fun cs hK => ?_)
  rw [patched_get f _ bs k hk] at hK
  obtain ⟨rfl, _⟩ := hK
  exact ⟨hc.symm, hw⟩
theorem patched_all (f n : Nat) (bs : List Insn) : patched f n bs bs.length = bs.mapIdx fun i x => patch f n i x := by
  unfold patched
  apply List.ext_getElem
  · simp
  · intro i h1 h2
    simp only [List.getElem_mapIdx]
    rw [if_pos (by simpa using h1)]
theorem rng8 (n : Int) : Kd.rng .u8 (n % 256) := ⟨Int.emod_nonneg _ (by decide), Int.emod_lt_of_pos _ (by decide)⟩
set_option maxHeartbeats 2000000 in
set_option maxRecDepth 100000 in
theorem c_of (x : Rule) (ok : Nat → Prop) (cs : List Value) (w : World) (hK : kRule.K w ok x cs) (hbad : ruleBad x = false) :
    Calls Try.prog 50 #[.agg cs.toArray] w fun e w' => ∃ v, e = .returned v ∧ kInsn.slice.K w' (fun k => w.heap.size ≤ k) (ofR x) [v] ∧ Below w.heap.size w w' := by
  obtain ⟨A0, c0, A3, c3, rfl, ⟨l0, m0, r0⟩, g1, g2, ⟨l3, m3, r3⟩, g4⟩ := kRule.opn hK
  obtain ⟨archs, lo, hi, tests, word⟩ := x
  simp only [ruleBad, Bool.or_eq_false_iff, decide_eq_false_iff_not, Nat.not_lt] at hbad
  obtain ⟨⟨⟨ha, hlo⟩, ht⟩, htb⟩ := hbad
  simp only at *
  have HT := Lib.hid htb
  clear htb
  go_enter Try.func50, Try.ntmps50
  go_wp2_with fail
  generalize hW1 : ((w.alloc (.cells #[.slice A0 archs.length c0, .int .u32 lo, .int .u32 hi, .slice A3 tests.length c3, .int .u32 word] 51)).alloc (.cells #[.slice none 0 0] 115)) = W1
  have hBW1 : Below w.heap.size w W1 := by rw [← hW1]; exact below_al (below_al (Below.refl _ _) _) _
  have hsW1 : W1.heap.size = w.heap.size + 2 := by rw [← hW1]; simp
  have hR1 : W1.heap[w.heap.size]? = some (.cells #[.slice A0 archs.length c0, .int .u32 lo, .int .u32 hi, .slice A3 tests.length c3, .int .u32 word] 51) := by rw [← hW1]; exact blk_al (blk_new _ _) _
  have hb1 : Blk W1 (w.heap.size + 1) okAny [] := ⟨.slice none 0 0, by rw [← hW1]; have := blk_new (w.alloc (.cells #[.slice A0 archs.length c0, .int .u32 lo, .int .u32 hi, .slice A3 tests.length c3, .int .u32 word] 51)) (.cells #[.slice none 0 0] 115); rwa [World.size_alloc] at this, Kd.Own.nil _ _ _ _ _⟩
  clear hW1
  refine (c_arches (w.heap.size + 1) A0 c0 archs W1 hb1 (Row_lt r0 (by omega) hBW1) (by omega)).mono ?_
  rintro e w2 ⟨rfl, hb2, hB2, hs2⟩
  have hR2 := (hB2.block w.heap.size (by omega)).trans hR1
  have hBW2 : Below w.heap.size w w2 := hBW1.trans (hB2.mono (by omega))
  have k0 := blk_cell hR2 0
  have k1 := blk_cell hR2 1
  have k2 := blk_cell hR2 2
  have k3 := blk_cell hR2 3
  have k4 := blk_cell hR2 4
  simp only [List.getElem?_toArray, List.getElem?_cons_zero, List.getElem?_cons_succ] at k0 k1 k2 k3 k4
  go_wp2_with fail
  refine (c_put (w.heap.size + 1) okAny _ 3 3 [insn 32 0, insn 53 lo, insn 37 hi] _ _ _ (hb2.bel (below_al (Below.refl _ _) _)) (lit_row [insn 32 0, insn 53 lo, insn 37 hi] _ rfl (by
    intro y hy
    simp only [List.mem_cons, List.not_mem_nil, or_false] at hy
    rcases hy with rfl | rfl | rfl
    · exact insn_wf (by decide) (by decide)
    · exact insn_wf (by decide) g1
    · exact insn_wf (by decide) g2) (by simp)) rfl (by simp [archBlk]; split <;> simp [archIns] <;> omega) (fun _ _ => trivial)).mono ?_
  rintro e w3 ⟨rfl, hb3, hB3, hs3, _⟩
  have hB3' : Below (w.heap.size + 1) w2 w3 := ((Below.refl _ w2).alloc (by omega) _).trans hB3
  have hs3' := hB3'.size
  have hR3 := (hB3'.block w.heap.size (by omega)).trans hR2
  have hBW3 : Below w.heap.size w w3 := hBW2.trans (hB3'.mono (by omega))
  clear hB3 hs3 hb2 hb1 k0 k1 k2 k3 k4
  have k0 := blk_cell hR3 0
  have k1 := blk_cell hR3 1
  have k2 := blk_cell hR3 2
  have k3 := blk_cell hR3 3
  have k4 := blk_cell hR3 4
  simp only [List.getElem?_toArray, List.getElem?_cons_zero, List.getElem?_cons_succ] at k0 k1 k2 k3 k4
  go_wp2_with fail
  clear k0 k1 k2 k3 k4
  go_loopw [5, 29] (fun _ i wr => ∃ k : Nat, k ≤ tests.length ∧ i = .int .i64 k ∧ Below w.heap.size w wr ∧ w.heap.size + 2 ≤ wr.heap.size ∧ wr.heap[w.heap.size]? = some (.cells #[.slice A0 archs.length c0, .int .u32 lo, .int .u32 hi, .slice A3 tests.length c3, .int .u32 word] 51) ∧ Blk wr (w.heap.size + 1) okAny (archBlk archs ++ [insn 32 0, insn 53 lo, insn 37 hi] ++ tests3 (tests.take k))) (fun _ i _ => tests.length - (intOf i).toNat)
  case atStart => exact ⟨0, Nat.zero_le _, rfl, hBW3, by omega, hR3, by simpa [tests3] using hb3⟩
  case round =>
    obtain ⟨k, hk, rfl, hB, hs, hR, hb⟩ := hrel
    by_cases hlt : k < tests.length
    · obtain ⟨ad, rfl, hok, hwf, e0, e1, e2, e3⟩ := kTest.at_ (r3.bel hB) hlt
      obtain ⟨ha0, ha6⟩ := testBad_of HT.out hlt
      have hg2 : Kd.rng .u32 tests[k].mask := hwf.2.1
      have hg3 : Kd.rng .u32 tests[k].value := hwf.2.2
      go_wp2_with fail
      generalize hW5 : wr.alloc (.cells #[.int .i64 tests[k].arg, .bool tests[k].high, .int .u32 tests[k].mask, .int .u32 tests[k].value] 69) = W5
      have hB5 : Below wr.heap.size wr W5 := by rw [← hW5]; exact below_al (Below.refl _ _) _
      have hs5 : W5.heap.size = wr.heap.size + 1 := by rw [← hW5]; simp
      have hL5 : W5.heap[wr.heap.size]? = some (.cells #[.int .i64 tests[k].arg, .bool tests[k].high, .int .u32 tests[k].mask, .int .u32 tests[k].value] 69) := by rw [← hW5]; exact blk_new _ _
      have hb5 := (hb.mono (ok' := fun q => q ≠ wr.heap.size) (fun q hq _ => by omega)).bel hB5
      have hbw : w.heap.size + 1 ≠ wr.heap.size := by have := hb.lt; omega
      have m0 := blk_cell hL5 0
      have m1 := blk_cell hL5 1
      have m2 := blk_cell hL5 2
      have m3 := blk_cell hL5 3
      simp only [List.getElem?_toArray, List.getElem?_cons_zero, List.getElem?_cons_succ] at m0 m1 m2 m3
      have hBw5 : Below w.heap.size w W5 := hB.trans (hB5.mono (by omega))
      have hR5 := (hB5.block w.heap.size (by omega)).trans hR
      have HR5 := Lib.hid hR5
      have HL5 := Lib.hid hL5
      have HS5 := Lib.hid hs5
      clear hW5 hR5 hL5 e0 e1 e2 e3 hs5
      go_region_held3 (fun w' => w'.cell? ⟨wr.heap.size, 0, none⟩ = some (.int .i64 tests[k].arg) ∧ w'.cell? ⟨wr.heap.size, 1, none⟩ = some (.bool tests[k].high) ∧ w'.cell? ⟨wr.heap.size, 2, none⟩ = some (.int .u32 tests[k].mask) ∧ w'.cell? ⟨wr.heap.size, 3, none⟩ = some (.int .u32 tests[k].value))
        (first | exact ⟨m0, m1, m2, m3⟩ | exact ⟨p0, p1, p2, p3⟩ | exact ⟨cell_al p0 _, cell_al p1 _, cell_al p2 _, cell_al p3 _⟩ | exact ⟨q0, q1, q2, q3⟩)
        (first
        | (go_at_call 54; refine (c_offset tests[k] _ ha0 ha6).mono ?_; rintro e w6 ⟨rfl, hB6'⟩; have hB6 : Below W5.heap.size W5 w6 := undrew hB6'; clear hB6'; have p0 := cell_bel hB6 m0; have p1 := cell_bel hB6 m1; have p2 := cell_bel hB6 m2; have p3 := cell_bel hB6 m3; have hb6 := hb5.bel hB6; have z6 : wr.heap.size < w6.heap.size := Nat.lt_of_lt_of_le (by rw [HS5.out]; omega) hB6.size)
        | (go_at_call 71; refine (c_put (w.heap.size + 1) (fun q => q ≠ wr.heap.size) _ 3 3 [insn 32 (offs tests[k]), insn 84 tests[k].mask, insn 21 tests[k].value] _ _ _ (hb6.bel (below_al (Below.refl _ _) _)) (lit_row [insn 32 (offs tests[k]), insn 84 tests[k].mask, insn 21 tests[k].value] _ rfl (wf3 ha0 ha6 hg2 hg3) (by simp)) rfl (tests3_len ha ht) (fun q hq => by rw [World.size_alloc] at hq; omega)).mono ?_; rintro e w7 ⟨rfl, hb7, hB7, hs7, hk7⟩; have hk8 := Lib.hid (hk7.out wr.heap.size (by rw [World.size_alloc]; omega) (fun e => hbw e.symm) (fun h => h rfl)); clear hk7; have q0 := (World.cell?_of_block (a := ⟨wr.heap.size, 0, none⟩) hk8.out).trans (cell_al p0 _); have q1 := (World.cell?_of_block (a := ⟨wr.heap.size, 1, none⟩) hk8.out).trans (cell_al p1 _); have q2 := (World.cell?_of_block (a := ⟨wr.heap.size, 2, none⟩) hk8.out).trans (cell_al p2 _); have q3 := (World.cell?_of_block (a := ⟨wr.heap.size, 3, none⟩) hk8.out).trans (cell_al p3 _)))
      have hB57 : Below (w.heap.size + 1) W5 w7 := (((hB6.mono (by rw [HS5.out]; omega)).alloc (by omega) _).trans hB7)
      have hBw7 : Below w.heap.size w w7 := hBw5.trans (hB57.mono (by omega))
      have hR7 := (hB57.block w.heap.size (by omega)).trans HR5.out
      have hs8 : w.heap.size + 2 ≤ w7.heap.size := by have := hB57.size; rw [HS5.out] at this; omega
      have hb8 := hb7.mono (ok' := okAny) (fun _ _ _ => trivial)
      rw [List.append_assoc, ← tests3_take tests k hlt] at hb8
      have HR7 := Lib.hid hR7
      clear hR7 hk8 q0 q1 q2 q3 p0 p1 p2 p3 m0 m1 m2 m3 hb7 hB7 hs7 hb6 hB6 z6 HL5 HR5
      go_wp2_with fail
      go_roundw
      case rel => exact ⟨k + 1, by omega, by go_num, hBw7, hs8, HR7.out, hb8⟩
      case measure => simp [intOf]; omega
    · obtain rfl : k = tests.length := by omega
      rw [List.take_length] at hb
      have k0 := blk_cell hR 0
      have k1 := blk_cell hR 1
      have k2 := blk_cell hR 2
      have k3 := blk_cell hR 3
      have k4 := blk_cell hR 4
      simp only [List.getElem?_toArray, List.getElem?_cons_zero, List.getElem?_cons_succ] at k0 k1 k2 k3 k4
      have hlen := tests3_length tests
      have hal := archBlk_len archs
      go_wp2_with fail
      refine (c_put (w.heap.size + 1) okAny _ 1 1 [insn 6 word] _ _ _ (hb.bel (below_al (Below.refl _ _) _)) (lit_row [insn 6 word] _ rfl (wf1 (insn_wf (by decide) g4)) (by simp)) rfl (by simp only [List.length_append, List.length_cons, List.length_nil]; omega) (fun _ _ => trivial)).mono ?_
      rintro e w8 ⟨rfl, hb8, hB8, hs8, _⟩
      have hB8' : Below (w.heap.size + 1) wr w8 := ((Below.refl _ wr).alloc (by omega) _).trans hB8
      have hR8 := (hB8'.block w.heap.size (by omega)).trans hR
      have hBw8 : Below w.heap.size w w8 := hB.trans (hB8'.mono (by omega))
      have hs8' := hB8'.size
      clear hB8 hs8 hb k0 k1 k2 k3 k4 hB8'
      have k0 := blk_cell hR8 0
      simp only [List.getElem?_toArray, List.getElem?_cons_zero, List.getElem?_cons_succ] at k0
      obtain ⟨v8, hblk8, hO8⟩ := hb8
      have hbe : archBlk archs ++ [insn 32 0, insn 53 lo, insn 37 hi] ++ tests3 tests ++ [insn 6 word] = baseOf ⟨archs, lo, hi, tests, word⟩ := rfl
      rw [hbe] at hO8
      have hbl : 0 < (baseOf ⟨archs, lo, hi, tests, word⟩).length ∧ (baseOf ⟨archs, lo, hi, tests, word⟩).length ≤ 100 := by
        simp only [baseOf, List.length_append, List.length_cons, List.length_nil]; omega
      generalize hbs : baseOf ⟨archs, lo, hi, tests, word⟩ = bs at hO8 hbl hbe
      obtain ⟨g, cg, rfl, hg1, hg2, hg3, hg4⟩ := hO8.at_ hbl.1
      have hblk8' := Lib.hid hblk8
      have kb := blk_cell hblk8 0
      simp only [List.getElem?_toArray, List.getElem?_cons_zero, List.getElem?_cons_succ] at kb
      have hpa : ∀ k, (patched archs.length bs.length bs k).length = bs.length := patched_length _ _ _
      have HPA := Lib.hid hpa
      have HBS := Lib.hid hbs
      have HBE := Lib.hid hbe
      clear hpa hbs hbe hblk8 hlen hal
      go_wp2_with fail
      clear kb k0 hR8 hs8' hR hs hR3 hBW3 hs3' hB3' hR2 hBW2 hB2 hs2 hR1 hsW1 hBW1 hk hlt hB
      go_loopw [7, 8, 9, 60] (fun _ _ _ i wr => ∃ k : Nat, k ≤ bs.length ∧ i = .int .i64 k ∧ Below w.heap.size w wr ∧ wr.heap[w.heap.size + 1]? = some (.cells #[.slice (some ⟨g, 0, none⟩) bs.length cg] 115 (0, 0)) ∧ kInsn.Own 39 wr (w.heap.size + 1 + 1) (fun k => w.heap.size + 1 < k ∧ okAny k) (.slice (some ⟨g, 0, none⟩) bs.length cg) (patched archs.length bs.length bs k)) (fun _ _ _ i _ => bs.length - (intOf i).toNat)
      case atStart => exact ⟨0, Nat.zero_le _, rfl, hBw8, hblk8'.out, by rw [patched_zero]; exact hO8⟩
      case round =>
        obtain ⟨k, hk, rfl, hB, hblk, hO⟩ := hrel
        have kb := blk_cell hblk 0
        simp only [List.getElem?_toArray, List.getElem?_cons_zero, List.getElem?_cons_succ] at kb
        by_cases hlt : k < bs.length
        · have hlt' : k < (patched archs.length bs.length bs k).length := by rw [HPA.out]; exact hlt
          go_wp2_with fail
          go_quiet (fail)
          obtain ⟨hwf, e0, e1, e2, e3, hfz⟩ := own_insn hO hlt'
          rw [patched_get _ _ bs k hlt] at hwf e0 e1 e2 e3
          have hO' := hO.bel (below_dN (Below.refl _ _) nq)
          have hfz' := hfz (k * 4)
          have hfz1 := hfz (k * 4 + 1)
          have hfz2 := hfz (k * 4 + 2)
          have hfz3 := hfz (k * 4 + 3)
          have HF := Lib.hid hfz
          clear hfz
          go_wp2_with fail
          · have h5 : bs[k].code = 5 := by
              have h : (bs[k].code == 5) = true := by assumption
              simpa using h
            have hp : patch archs.length bs.length k bs[k] = { bs[k] with k := (bs.length : Int) - 1 - k } := by unfold patch; rw [if_pos h5]
            have hO9 := patched_store hlt hO' 3 (by decide) (.int .u32 ((bs.length : Int) - 1 - k)) (by rw [hp]; rfl) (by rw [hp]; exact ⟨hwf.1, hwf.2.1, hwf.2.2.1, (by show (0 : Int) ≤ (bs.length : Int) - 1 - k ∧ (bs.length : Int) - 1 - k < 4294967296; omega)⟩)
            have hB9 := (below_dN hB nq).setCell (p := ⟨g, k * 4 + 3, none⟩) (by show w.heap.size ≤ g; omega) (.int .u32 ((bs.length : Int) - 1 - k))
            have hblk9 := blk_far (blk_dN hblk nq) (p := ⟨g, k * 4 + 3, none⟩) (by show w.heap.size + 1 ≠ g; omega) (.int .u32 ((bs.length : Int) - 1 - k))
            go_roundw
            case rel => exact ⟨k + 1, by omega, by go_num, hB9, hblk9, hO9⟩
            case measure => simp [intOf]; omega
          · have h5 : ¬ bs[k].code = 5 := by
              have h : (bs[k].code == 5) = false := by assumption
              simpa using h
            have h37 : bs[k].code = 37 := by
              have h : (bs[k].code == 37) = true := by assumption
              simpa using h
            have hp : patch archs.length bs.length k bs[k] = { bs[k] with jt := (bs.length : Int) - 1 - k } := by unfold patch; rw [if_neg h5, if_pos h37]
            have hO9 := patched_store hlt hO' 1 (by decide) (.int .u8 ((bs.length : Int) - 1 - k)) (by rw [hp]; rfl) (by rw [hp]; exact ⟨hwf.1, (by show (0 : Int) ≤ (bs.length : Int) - 1 - k ∧ (bs.length : Int) - 1 - k < 256; omega), hwf.2.2.1, hwf.2.2.2⟩)
            have hB9 := (below_dN hB nq).setCell (p := ⟨g, k * 4 + 1, none⟩) (by show w.heap.size ≤ g; omega) (.int .u8 ((bs.length : Int) - 1 - k))
            have hblk9 := blk_far (blk_dN hblk nq) (p := ⟨g, k * 4 + 1, none⟩) (by show w.heap.size + 1 ≠ g; omega) (.int .u8 ((bs.length : Int) - 1 - k))
            go_roundw
            case rel => exact ⟨k + 1, by omega, by go_num, hB9, hblk9, hO9⟩
            case measure => simp [intOf]; omega
          · have h5 : ¬ bs[k].code = 5 := by
              have h : (bs[k].code == 5) = false := by assumption
              simpa using h
            have h37 : ¬ bs[k].code = 37 := by
              have h : (bs[k].code == 37) = false := by assumption
              simpa using h
            have h53 : bs[k].code = 53 := by assumption
            have hp : patch archs.length bs.length k bs[k] = { bs[k] with jf := (bs.length : Int) - 1 - k } := by unfold patch; rw [if_neg h5, if_neg h37, if_pos (Or.inl h53)]
            have hO9 := patched_store hlt hO' 2 (by decide) (.int .u8 ((bs.length : Int) - 1 - k)) (by rw [hp]; rfl) (by rw [hp]; exact ⟨hwf.1, hwf.2.1, (by show (0 : Int) ≤ (bs.length : Int) - 1 - k ∧ (bs.length : Int) - 1 - k < 256; omega), hwf.2.2.2⟩)
            have hB9 := (below_dN hB nq).setCell (p := ⟨g, k * 4 + 2, none⟩) (by show w.heap.size ≤ g; omega) (.int .u8 ((bs.length : Int) - 1 - k))
            have hblk9 := blk_far (blk_dN hblk nq) (p := ⟨g, k * 4 + 2, none⟩) (by show w.heap.size + 1 ≠ g; omega) (.int .u8 ((bs.length : Int) - 1 - k))
            go_roundw
            case rel => exact ⟨k + 1, by omega, by go_num, hB9, hblk9, hO9⟩
            case measure => simp [intOf]; omega
          · have h5 : ¬ bs[k].code = 5 := by
              have h : (bs[k].code == 5) = false := by assumption
              simpa using h
            have h37 : ¬ bs[k].code = 37 := by
              have h : (bs[k].code == 37) = false := by assumption
              simpa using h
            have h21 : bs[k].code = 21 := by assumption
            have hak : archs.length < k := by assumption
            have hp : patch archs.length bs.length k bs[k] = { bs[k] with jf := (bs.length : Int) - 1 - k } := by unfold patch; rw [if_neg h5, if_neg h37, if_pos (Or.inr ⟨h21, hak⟩)]
            have hO9 := patched_store hlt hO' 2 (by decide) (.int .u8 ((bs.length : Int) - 1 - k)) (by rw [hp]; rfl) (by rw [hp]; exact ⟨hwf.1, hwf.2.1, (by show (0 : Int) ≤ (bs.length : Int) - 1 - k ∧ (bs.length : Int) - 1 - k < 256; omega), hwf.2.2.2⟩)
            have hB9 := (below_dN hB nq).setCell (p := ⟨g, k * 4 + 2, none⟩) (by show w.heap.size ≤ g; omega) (.int .u8 ((bs.length : Int) - 1 - k))
            have hblk9 := blk_far (blk_dN hblk nq) (p := ⟨g, k * 4 + 2, none⟩) (by show w.heap.size + 1 ≠ g; omega) (.int .u8 ((bs.length : Int) - 1 - k))
            go_roundw
            case rel => exact ⟨k + 1, by omega, by go_num, hB9, hblk9, hO9⟩
            case measure => simp [intOf]; omega
          · have h5 : ¬ bs[k].code = 5 := by
              have h : (bs[k].code == 5) = false := by assumption
              simpa using h
            have h37 : ¬ bs[k].code = 37 := by
              have h : (bs[k].code == 37) = false := by assumption
              simpa using h
            have h53 : ¬ bs[k].code = 53 := by assumption
            have hak : ¬ archs.length < k := by assumption
            have hp : patch archs.length bs.length k bs[k] = bs[k] := by unfold patch; rw [if_neg h5, if_neg h37, if_neg (by rintro (h | h); exact h53 h; exact hak h.2)]
            have hO9 := hO'
            rw [← patched_stay hlt hp] at hO9
            have hB9 := below_dN hB nq
            have hblk9 := blk_dN hblk nq
            go_roundw
            case rel => exact ⟨k + 1, by omega, by go_num, hB9, hblk9, hO9⟩
            case measure => simp [intOf]; omega
          · have h5 : ¬ bs[k].code = 5 := by
              have h : (bs[k].code == 5) = false := by assumption
              simpa using h
            have h37 : ¬ bs[k].code = 37 := by
              have h : (bs[k].code == 37) = false := by assumption
              simpa using h
            have h53 : ¬ bs[k].code = 53 := by assumption
            have h21 : ¬ bs[k].code = 21 := by assumption
            have hp : patch archs.length bs.length k bs[k] = bs[k] := by unfold patch; rw [if_neg h5, if_neg h37, if_neg (by rintro (h | h); exact h53 h; exact h21 h.1)]
            have hO9 := hO'
            rw [← patched_stay hlt hp] at hO9
            have hB9 := below_dN hB nq
            have hblk9 := blk_dN hblk nq
            go_roundw
            case rel => exact ⟨k + 1, by omega, by go_num, hB9, hblk9, hO9⟩
            case measure => simp [intOf]; omega
        · obtain rfl : k = bs.length := by omega
          go_wp2_with fail
          go_ret
          have hfin : patched archs.length bs.length bs bs.length = ofR ⟨archs, lo, hi, tests, word⟩ := by
            unfold ofR
            rw [HBS.out]
            exact patched_all _ _ _
          rw [hfin] at hO
          exact ⟨_, rfl, kInsn.slice.mono (fun q hq => by omega) hO.K, hB⟩
end Go.Proofs.Ytiepnnjodmkolaa
