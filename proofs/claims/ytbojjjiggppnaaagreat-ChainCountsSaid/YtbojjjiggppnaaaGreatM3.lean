/- The walk of chain.right. -/
import Derived.Test.YtbojjjiggppnaaaGreatM2
namespace Go.Proofs.YtbojjjiggppnaaaGreat
open Go.RowKit Go.Shelf
set_option linter.unusedVariables false
set_option linter.unusedSimpArgs false

/-- The filter of a number. -/
def findN (xs : List Node) (t : Int) : Option Node := xs.find? (fun x => x.id == t)
theorem find_at {xs : List Node} {t : Int} {i : Nat} (hR : Rising xs) (hi : i < xs.length) (h : xs[i].id = t) : findN xs t = some xs[i] := by
  unfold findN
  rw [List.find?_eq_some_iff_getElem]
  exact ⟨by simp [h], i, hi, rfl, fun j hj => by have := hR j i (by omega) hi hj; simp; omega⟩
theorem at_found {xs : List Node} {t : Int} {i : Nat} (hR : Rising xs) (hP : Parts xs t i i) (hi : i ≤ xs.length) :
    (isAt xs t i = true ∧ ∃ h : i < xs.length, findN xs t = some xs[i]) ∨ (isAt xs t i = false ∧ findN xs t = none) := by
  obtain ⟨h1, h2⟩ := hP hR
  by_cases hlt : i < xs.length
  · by_cases he : xs[i].id = t
    · exact .inl ⟨by simp [isAt, hlt, he], hlt, find_at hR hlt he⟩
    · refine .inr ⟨by simp [isAt, hlt, he], ?_⟩
      unfold findN
      rw [List.find?_eq_none]
      intro x hx
      obtain ⟨k, hk, rfl⟩ := List.getElem_of_mem hx
      rcases Nat.lt_trichotomy k i with h | h | h
      · have := h1 k hk h; simp; omega
      · subst h; simpa using he
      · have a := hR i k hlt hk h
        have b := h2 i hlt (Nat.le_refl _)
        simp; omega
  · refine .inr ⟨by simp [isAt, hlt], ?_⟩
    unfold findN
    rw [List.find?_eq_none]
    intro x hx
    obtain ⟨k, hk, rfl⟩ := List.getElem_of_mem hx
    have := h1 k hk (by omega)
    simp; omega
/-- May a filter be, among these? -/
def rightN (xs : List Node) (n : Node) : Bool :=
  decide ((checkL n.program).2 = 0) && (if n.parent = 0 then decide (n.size = n.program.length + 4) else
    match findN xs n.parent with
    | none => false
    | some m => decide (0 ≤ m.size) && decide (m.size ≤ 256) && decide (n.size = n.program.length + 4 + m.size) && decide ((n.program.length : Int) + 4 + m.size ≤ 256))
theorem checkL_len {l : List Insn} (h : (checkL l).2 = 0) : l.length ≤ 64 := by
  unfold checkL at h
  split at h
  · simp at h
  · omega
set_option maxRecDepth 100000 in
set_option maxHeartbeats 4000000 in
theorem c_rightN (xs : List Node) (c : Nat) (A : Option Addr) (x : Node) (ok ok' : Nat → Prop) (cs : List Value) (w : World) (hC : kNode.Row w ok A xs) (hl : xs.length ≤ 1000000) (hR : Rising xs) (hK : kNode.K w ok' x cs) :
    Calls Tryz.prog 102 #[.agg #[.slice A xs.length c], .agg cs.toArray] w fun e w' => e = .returned (.bool (rightN xs x)) ∧ Below w.heap.size w w' := by
  obtain ⟨A2, c2, rfl, g0, g1, ⟨l2, m2, r2⟩, g3, g4, g5, g6⟩ := kNode.opn hK
  have hn2 := r2.1
  obtain ⟨n, hsz⟩ : ∃ n, w.heap.size = n := ⟨_, rfl⟩
  obtain ⟨W1, hW1⟩ : ∃ W, W = ((w.alloc (.cells #[.slice A xs.length c] 31)).alloc (.cells #[.int .i64 x.id, .int .i64 x.parent, .slice A2 x.program.length c2, .int .i64 x.size, .int .i64 x.count, .int .u64 x.one, .int .u64 x.two] 65)) := ⟨_, rfl⟩
  have hB1 : Below w.heap.size w W1 := by rw [hW1]; exact below_al (below_al (Below.refl _ _) _) _
  have hP1 : W1.heap[n]? = some (.cells #[.slice A xs.length c] 31) := by rw [hW1, ← hsz]; exact blk_al (blk_new _ _) _
  have hN1 : W1.heap[n + 1]? = some (.cells #[.int .i64 x.id, .int .i64 x.parent, .slice A2 x.program.length c2, .int .i64 x.size, .int .i64 x.count, .int .u64 x.one, .int .u64 x.two] 65) := by
    rw [hW1, ← hsz]
    have h := blk_new (w.alloc (.cells #[.slice A xs.length c] 31)) (.cells #[.int .i64 x.id, .int .i64 x.parent, .slice A2 x.program.length c2, .int .i64 x.size, .int .i64 x.count, .int .u64 x.one, .int .u64 x.two] 65)
    rwa [World.size_alloc] at h
  have HCC : Hid (∀ W, Below W1.heap.size W1 W → W.cell? ⟨n, 0, none⟩ = some (.slice A xs.length c) ∧ W.cell? ⟨n + 1, 1, none⟩ = some (.int .i64 x.parent) ∧ W.cell? ⟨n + 1, 2, none⟩ = some (.slice A2 x.program.length c2) ∧ W.cell? ⟨n + 1, 3, none⟩ = some (.int .i64 x.size)) := fun W h => ⟨blk_cell (blk_bel h hP1) 0, blk_cell (blk_bel h hN1) 1, blk_cell (blk_bel h hN1) 2, blk_cell (blk_bel h hN1) 3⟩
  have HFIN : Hid (∀ W, Below W1.heap.size W1 W → Below w.heap.size w W) := fun W h => hB1.trans (h.mono hB1.size)
  have HCH := Lib.hid (c_checkL A2 x.program c2 ok' W1 (r2.bel hB1))
  have HROW := Lib.hid (hC.bel hB1)
  have HPL := Lib.hid (fun (W : World) (h : Below W1.heap.size W1 W) => c_place xs _ c A x.parent ok W ((hC.bel hB1).bel h) rfl hl)
  have HRI := Lib.hid hR
  have hxn := hC.1
  have hck : checkT x.program = .tuple #[.int .i64 (checkL x.program).1, .int .i64 (checkL x.program).2] := rfl
  rw [hck] at HCH
  have HLEN := Lib.hid (checkL_len (l := x.program))
  have hdef : rightN xs x = (decide ((checkL x.program).2 = 0) && (if x.parent = 0 then decide (x.size = x.program.length + 4) else match findN xs x.parent with | none => false | some m => decide (0 ≤ m.size) && decide (m.size ≤ 256) && decide (x.size = x.program.length + 4 + m.size) && decide ((x.program.length : Int) + 4 + m.size ≤ 256))) := rfl
  obtain ⟨res, hres⟩ : ∃ r, r = rightN xs x := ⟨_, rfl⟩
  rw [← hres]
  rw [← hres] at hdef
  have HRES := Lib.hid hdef
  clear hres hdef hck hB1 hP1 hN1 l2 m2 r2 hC hR hK g0 g1 g3 g4 g5 g6
  obtain ⟨id, parent, program, size, count, one, two⟩ := x
  simp only at *
  generalize (checkL program).1 = k1 at *
  generalize (checkL program).2 = k2 at *
  rw [hW1] at HCC HFIN HCH HROW HPL
  clear hW1 W1
  obtain ⟨i0, i1, i2, i3⟩ := HCC.out _ (Below.refl _ _)
  go_enter Tryz.func102, Tryz.ntmps102
  go_wp2_with fail
  refine HCH.out.mono ?_
  rintro e w2 ⟨rfl, hB2⟩
  have HB2 := Lib.hid hB2
  clear hB2 i0 i1 i2 i3
  obtain ⟨i0, i1, i2, i3⟩ := HCC.out _ HB2.out
  by_cases hk : k2 = 0
  · subst hk
    have hpl := HLEN.out (by first | exact trivial | rfl)
    by_cases hp : parent = 0
    · subst hp
      go_wp2_with fail
      all_goals
        go_ret
        refine ⟨ret_b (Eq.symm (HRES.out.trans ?_)), by have h := HFIN.out _ HB2.out; first | exact h | (rw [hsz] at h; exact h)⟩
        clear HCC HFIN HCH HROW HPL HRI HB2 i0 i1 i2 i3
        grind
    · go_wp2_with fail
      refine (HPL.out w2 HB2.out).mono ?_
      rintro e w3 ⟨i, rfl, hi, hP, hB3⟩
      have HB3 := Lib.hid (below_tr HB2.out hB3)
      have HAF := at_found HRI.out hP hi
      have HROW3 := Lib.hid (HROW.out.bel HB3.out)
      clear hB3 hP i0 i1 i2 i3
      obtain ⟨i0, i1, i2, i3⟩ := HCC.out _ HB3.out
      rcases HAF with ⟨ha, hlt, hf⟩ | ⟨ha, hf⟩
      · obtain ⟨ad, A9, c9, rfl, hok, ⟨g0, g1, g2, g3, g4, g5, g6⟩, e0, e1, e2, e3, e4, e5, e6⟩ := kNode.at_ HROW3.out hlt
        have HF := Lib.hid hf
        have hi0 : (0 : Int) ≤ (i : Int) := by omega
        have hi1 : (i : Int) < (xs.length : Int) := by omega
        rw [ha]
        clear hf ha hi
        generalize xs[i] = y at *
        simp only [Kd.rng] at g3
        clear g0 g1 g2 g4 g5 g6 e0 e1 e2 e4 e5 e6 hok
        obtain ⟨yid, yparent, yprogram, ysize, ycount, yone, ytwo⟩ := y
        simp only at *
        by_cases h1 : ysize < 0
        · go_wp2_with fail
          go_ret
          exact ⟨ret_b (Eq.symm (HRES.out.trans (by rw [HF.out]; simp [hp]; omega))), by have h := HFIN.out _ HB3.out; first | exact h | (rw [hsz] at h; exact h)⟩
        · by_cases h2 : 256 < ysize
          · go_wp2_with fail
            go_ret
            exact ⟨ret_b (Eq.symm (HRES.out.trans (by rw [HF.out]; simp [hp]; omega))), by have h := HFIN.out _ HB3.out; first | exact h | (rw [hsz] at h; exact h)⟩
          · by_cases h3 : size = (program.length : Int) + 4 + ysize
            all_goals
              go_wp2_with fail
              go_ret
              refine ⟨ret_b (Eq.symm (HRES.out.trans ?_)), by have h := HFIN.out _ HB3.out; first | exact h | (rw [hsz] at h; exact h)⟩
              rw [HF.out]
              simp [hp, h3]
              try omega
      · rw [ha]
        have HF := Lib.hid hf
        clear hf ha
        go_wp2_with fail
        go_ret
        exact ⟨ret_b (Eq.symm (HRES.out.trans (by rw [HF.out]; simp [hp]))), by have h := HFIN.out _ HB3.out; first | exact h | (rw [hsz] at h; exact h)⟩
  · go_wp2_with fail
    go_ret
    exact ⟨ret_b (Eq.symm (HRES.out.trans (by simp [hk]))), by have h := HFIN.out _ HB2.out; first | exact h | (rw [hsz] at h; exact h)⟩
end Go.Proofs.YtbojjjiggppnaaaGreat
