/- The walk of chain.Give. -/
import Derived.Test.YtbojjjiggppnaaaGreatO2
import Derived.Test.YtbojjjiggppnaaaGreatO3
namespace Go.Proofs.YtbojjjiggppnaaaGreat
open Go.RowKit Go.Shelf
set_option linter.unusedVariables false
set_option linter.unusedSimpArgs false

/-- The pool in which one fewer refers to a filter; those that are gone; the error. -/
noncomputable def giveF (xs : List Node) (t : Int) : List Node × List Int × Int := if poolE xs = 0 then (if giveE xs t = 0 then ((giveG xs t).1, (giveG xs t).2, 0) else ([], [], giveE xs t)) else ([], [], 190)
theorem eg_give1 : ∀ args w, (callFunc 99 args).run Tryz.prog w = .ok (.enter 99 args) w := fun args w => by
  exact (enters_of Tryz.func99 (by kernel_rfl) rfl) args w
/-- What the change leaves. -/
def GaveD (xs : List Node) (t : Int) (n : Nat) (ok : Nat → Prop) (err : Int) (v : Value) (W : World) : Prop :=
  err = giveE xs t ∧ W.heap[n + 2]? = some (.cells #[.slice none 0 0] 31) ∧ ∃ vg, W.heap[n + 3]? = some (.cells #[vg] 58) ∧ (Kd.int .i64).slice.K W (fun q => n + 6 ≤ q) (giveF xs t).2.1 [vg] ∧ (err = 0 → kPool.K W (fun q => ((ok q ∧ q < n) ∨ n ≤ q) ∧ q ≠ n + 5 ∧ q ≠ n + 2) ⟨(giveF xs t).1⟩ [v])
set_option maxRecDepth 100000 in
set_option maxHeartbeats 4000000 in
theorem c_Give (xs : List Node) (c : Nat) (A : Option Addr) (t : Int) (ht : Kd.rng .i64 t) (ok : Nat → Prop) (w : World) (hC : kNode.Row w ok A xs) (hl : xs.length ≤ 1000) :
    Calls Tryz.prog 36 #[.agg #[.slice A xs.length c], .int .i64 t] w fun e w' => ∃ v vg, e = .returned (.tuple #[.agg #[v], vg, .int .i64 (giveF xs t).2.2]) ∧ kPool.K w' (fun q => ok q ∨ w.heap.size ≤ q) ⟨(giveF xs t).1⟩ [v] ∧ (Kd.int .i64).slice.K w' (fun q => w.heap.size ≤ q) (giveF xs t).2.1 [vg] ∧ Below w.heap.size w w' := by
  obtain ⟨n, hn⟩ : ∃ n, w.heap.size = n := ⟨_, rfl⟩
  have hxn := hC.1
  obtain ⟨W1, hW1⟩ : ∃ W, W = ((((w.alloc (.cells #[.slice A xs.length c] 31)).alloc (.cells #[.int .i64 t] 3)).alloc (.cells #[.slice none 0 0] 31)).alloc (.cells #[.slice none 0 0] 58)) := ⟨_, rfl⟩
  have hB1 : Below w.heap.size w W1 := by rw [hW1]; exact below_al (below_al (below_al (below_al (Below.refl _ _) _) _) _) _
  have hs1 : W1.heap.size = n + 4 := by rw [hW1]; simp [hn]
  have f1 : W1.heap[n]? = some (.cells #[.slice A xs.length c] 31) := by rw [hW1, ← hn]; exact blk_al (blk_al (blk_al (blk_new _ _) _) _) _
  have f2 : W1.heap[n + 1]? = some (.cells #[.int .i64 t] 3) := by
    have h := blk_new (w.alloc (.cells #[.slice A xs.length c] 31)) (.cells #[.int .i64 t] 3)
    rw [World.size_alloc, hn] at h
    rw [hW1]
    exact blk_al (blk_al h _) _
  have f3 : W1.heap[n + 2]? = some (.cells #[.slice none 0 0] 31) := by
    have h := blk_new ((w.alloc (.cells #[.slice A xs.length c] 31)).alloc (.cells #[.int .i64 t] 3)) (.cells #[.slice none 0 0] 31)
    rw [World.size_alloc, World.size_alloc, hn] at h
    rw [hW1]
    exact blk_al h _
  have f4 : W1.heap[n + 3]? = some (.cells #[.slice none 0 0] 58) := by
    have h := blk_new (((w.alloc (.cells #[.slice A xs.length c] 31)).alloc (.cells #[.int .i64 t] 3)).alloc (.cells #[.slice none 0 0] 31)) (.cells #[.slice none 0 0] 58)
    rw [World.size_alloc, World.size_alloc, World.size_alloc, hn] at h
    rw [hW1]
    exact h
  have hRow := hC.bound.bel hB1
  rw [hn] at hRow
  have hturn := c_turn xs c A _ W1 hRow (by omega) 99 #[.pointer (some ⟨n + 1, 0, none⟩), .pointer (some ⟨n + 3, 0, none⟩)] eg_give1 n (by omega)
    (GaveD xs t n ok)
    (fun e v W W' h hk hsz => by
      rw [hs1] at hk
      obtain ⟨h1, h2, vg, h3, h4, h5⟩ := h
      exact ⟨h1, (hk _ (by omega)).trans h2, vg, (hk _ (by omega)).trans h3, Kd.move (d := (Kd.int .i64).slice) h4 (fun k hk' _ => hk k (by omega)), fun h0 => Kd.move (d := kPool) (h5 h0) (fun k hk' _ => hk k (by have := hk'.2; omega))⟩)
    (fun hp W m A1 c1 hB hm hbox hO => by
      rw [hs1] at hm hO
      have hmW := blk_lt hbox
      have hb : W.heap[n + 1]? = some (.cells #[.int .i64 t] 3) := blk_bel hB f2
      have hg : W.heap[n + 3]? = some (.cells #[.slice none 0 0] 58) := blk_bel hB f4
      have hr3 := blk_bel hB f3
      have hO' : kNode.Own 65 W (n + 4 + 2) (fun q => (ok q ∧ q < n) ∨ (n + 4 + 1 < q ∧ q ≠ m)) (.slice A1 xs.length c1) xs := Kd.Own.mono (fun q hq => by
        rcases hq with h | h
        · exact .inl h.1
        · exact .inr h) hO
      have hown := hO'.le
      refine (c_give1 xs _ c1 A1 t m (n + 1) (n + 3) (n + 4 + 2) n _ W hO' rfl hl ht hbox hb hg hp (fun q hq => by
        rcases hq with h | h <;> omega) (by omega) (by omega) (by omega) (by omega) (by omega) (by omega) (by omega)).mono ?_
      rintro e W' ⟨err, v, vg, rfl, hG⟩
      have hfarb : ∀ k, k < n + 6 → k ≠ n + 1 → k ≠ n + 3 → W'.heap[k]? = W.heap[k]? := fun k hk k1 k2 => hG.far k (by omega) (by omega) k1 k2 (fun e => by have := hown k e.symm; omega)
      refine ⟨err, v, rfl, hG.pool, hG.one, ⟨hG.err_, (hfarb _ (by omega) (by omega) (by omega)).trans hr3, vg, hG.gone, ?_, fun h0 => ?_⟩, by rw [hs1]; exact hfarb _ (by omega) (by omega) (by omega), hG.bel⟩
      · by_cases h0 : err = 0
        · have hO2 := (hG.good h0).2
          have he : (giveF xs t).2.1 = (giveG xs t).2 := by
            unfold giveF
            rw [if_pos hp, if_pos (by rw [← hG.err_]; exact h0)]
          rw [he]
          exact (Kd.int .i64).slice.mono (fun q hq => by omega) hO2.K
        · have he : (giveF xs t).2.1 = [] := by
            unfold giveF
            rw [if_pos hp, if_neg (by rw [← hG.err_]; exact h0)]
          rw [he, hG.bad h0]
          exact ⟨none, 0, rfl, by simp, by unfold maxLen; omega, Kd.Row.nil _ _ _ _⟩
      · have hO2 := (hG.good h0).1
        have he : (giveF xs t).1 = (giveG xs t).1 := by
          unfold giveF
          rw [if_pos hp, if_pos (by rw [← hG.err_]; exact h0)]
        rw [he]
        refine kPool.mono (fun q hq => ?_) hO2.K
        rcases hq with h | h
        · exact ⟨.inl h, by omega, by omega⟩
        · exact ⟨.inr (by omega), by omega, by omega⟩)
  have HT := Lib.hid hturn
  have HS1 := Lib.hid hs1
  have HB1 := Lib.hid hB1
  have F4 := Lib.hid f4
  have F3 := Lib.hid f3
  have F1 := Lib.hid f1
  have HN := Lib.hid hn
  have HTN : Hid (poolE xs = 190 → giveF xs t = ([], [], 190)) := fun h => by
    unfold giveF
    rw [if_neg (by rw [h]; decide)]
  have HTF : Hid (poolE xs = 0 → (giveF xs t).2.2 = giveE xs t ∧ (giveE xs t ≠ 0 → (giveF xs t).1 = [])) := fun h => by
    unfold giveF
    rw [if_pos h]
    split
    · rename_i h0; exact ⟨h0.symm, fun h => absurd h0 h⟩
    · exact ⟨rfl, fun _ => rfl⟩
  clear hC hturn hRow f1 f2 f3 f4 hs1 hB1
  rw [hW1] at HT HS1 HB1 F3 F1 F4
  clear hW1 W1
  go_enter Tryz.func36, Tryz.ntmps36
  go_upto_region 2 with fail
  generalize ((((w.alloc (.cells #[.slice A xs.length c] 31)).alloc (.cells #[.int .i64 t] 3)).alloc (.cells #[.slice none 0 0] 31)).alloc (.cells #[.slice none 0 0] 58)) = W1 at *
  clear hn
  have p0 : W1.cell? ⟨n, 0, none⟩ = some (.slice A xs.length c) := blk_cell F1.out 0
  have mixed : (Tryz.prog).follows Departure.mixedOrders = true := by kernel_rfl
  go_wp2_with fail
  refine HT.out.mono ?_
  rintro e w5 (⟨hp, rfl, hB5⟩ | ⟨hp, err, v, he, hd, hB5⟩)
  · have HF5 := Lib.hid (blk_bel hB5 F3.out)
    have HG5 := Lib.hid (blk_bel hB5 F4.out)
    have HB5 := Lib.hid (HB1.out.trans (hB5.mono HB1.out.size))
    have HE := Lib.hid (HTN.out hp)
    clear hB5 hp HT HTN HTF
    obtain ⟨m, hm⟩ : ∃ m, w5.heap.size = m := ⟨_, rfl⟩
    have f8 : (w5.alloc (.cells #[.slice none 0 0] 31)).heap[m]? = some (.cells #[.slice none 0 0] 31) := by rw [← hm]; exact blk_new _ _
    have F8 := Lib.hid f8
    have G8 := Lib.hid (blk_al HG5.out (.cells #[.slice none 0 0] 31))
    have R8 := Lib.hid (blk_al HF5.out (.cells #[.slice none 0 0] 31))
    have B8 := Lib.hid (below_al (Below.refl w5.heap.size w5) (.cells #[.slice none 0 0] 31))
    clear f8
    go_upto_region 3 with fail
    clear hm
    generalize (w5.alloc (.cells #[.slice none 0 0] 31)) = W6 at *
    have c8 : W6.cell? ⟨m, 0, none⟩ = some (.slice none 0 0) := blk_cell F8.out 0
    have c7 : W6.cell? ⟨n + 1 + 1 + 1, 0, none⟩ = some (.slice none 0 0) := blk_cell G8.out 0
    have c6 : W6.cell? ⟨n + 1 + 1, 0, none⟩ = some (.slice none 0 0) := blk_cell R8.out 0
    have f6 : W6.frozen? ⟨n + 1 + 1, 0, none⟩ = false := blk_free R8.out 0
    have h68 : Hid (W6.heap[n + 1 + 1]? = some (.cells #[.slice none 0 0] 31)) := R8.out
    go_region
    all_goals
      go_wp2_with fail
      refine bodyPost_ret (results_ctt rfl _ _ (n + 1 + 1) _ #[.slice none 0 0] _ _ rfl (blk_set (j := 0) h68.out _) Tryz.underlying31 rfl (by kernel_rfl)) rfl ?_
      refine ⟨.slice none 0 0, .slice none 0 0, by rw [HE.out]; rfl, ?_, ?_, (HB5.out.trans (B8.out.mono HB5.out.size)).trans (undrew ((Below.refl _ _).setCell (p := ⟨n + 1 + 1, 0, none⟩) (by rw [HN.out]; simp; omega) _))⟩
      · rw [HE.out]
        exact kPool.mk (x := ⟨[]⟩) (A0 := none) (c0 := 0) ⟨by simp, by unfold maxLen; omega, Kd.Row.nil _ _ _ _⟩
      · rw [HE.out]
        exact ⟨none, 0, rfl, by simp, by unfold maxLen; omega, Kd.Row.nil _ _ _ _⟩
  · obtain ⟨h1, h2⟩ := HTF.out hp
    obtain ⟨d1, d2, vg, d3, d4, d5⟩ := hd
    have HF5 := Lib.hid d2
    have HG5 := Lib.hid d3
    have HVG := Lib.hid d4
    have HER := Lib.hid d1
    have HB5 : Hid (Below w.heap.size w w5) := by rw [← HN.out] at hB5; exact HB1.out.trans hB5
    have HE1 := Lib.hid h1
    have hvg1 : vg.oneCell' = true := (Kd.int .i64).slice.one d4 vg (by simp)
    clear hB5 hp HT HTN HTF d1 d2 d3 d4 h1
    rcases he with ⟨h0, rfl⟩ | ⟨h0, rfl⟩
    · have HK := Lib.hid (d5 h0)
      have H0 := Lib.hid h0
      have hvf : ∃ Av lv cv, v = .slice Av lv cv := by
        obtain ⟨Av, cv, hv, -, -, -⟩ := HK.out
        simp only [List.cons.injEq, and_true] at hv
        exact ⟨_, _, _, hv⟩
      obtain ⟨Av, lv, cv, hvf⟩ := hvf
      subst hvf
      clear d5 h2 h0
      obtain ⟨m, hm⟩ : ∃ m, w5.heap.size = m := ⟨_, rfl⟩
      have f8 : (w5.alloc (.cells #[.slice Av lv cv] 31)).heap[m]? = some (.cells #[.slice Av lv cv] 31) := by rw [← hm]; exact blk_new _ _
      have F8 := Lib.hid f8
      have G8 := Lib.hid (blk_al HG5.out (.cells #[.slice Av lv cv] 31))
      have R8 := Lib.hid (blk_al HF5.out (.cells #[.slice Av lv cv] 31))
      have B8 := Lib.hid (below_al (Below.refl w5.heap.size w5) (.cells #[.slice Av lv cv] 31))
      clear f8
      go_upto_region 3 with fail
      clear hm
      generalize (w5.alloc (.cells #[.slice Av lv cv] 31)) = W6 at *
      have c8 : W6.cell? ⟨m, 0, none⟩ = some (.slice Av lv cv) := blk_cell F8.out 0
      have c7 : W6.cell? ⟨n + 1 + 1 + 1, 0, none⟩ = some (vg) := blk_cell G8.out 0
      have c6 : W6.cell? ⟨n + 1 + 1, 0, none⟩ = some (.slice none 0 0) := blk_cell R8.out 0
      have f6 : W6.frozen? ⟨n + 1 + 1, 0, none⟩ = false := blk_free R8.out 0
      have h68 : Hid (W6.heap[n + 1 + 1]? = some (.cells #[.slice none 0 0] 31)) := R8.out
      go_region
      all_goals
        go_wp2_with fail
        refine bodyPost_ret (results_ctt rfl _ _ (n + 1 + 1) _ #[.slice Av lv cv] _ _ rfl (blk_set (j := 0) h68.out _) Tryz.underlying31 rfl (by kernel_rfl)) rfl ?_
        refine ⟨.slice Av lv cv, vg, by rw [HE1.out, ← HER.out, H0.out]; rfl, ?_, ?_, (HB5.out.trans (B8.out.mono HB5.out.size)).trans (undrew ((Below.refl _ _).setCell (p := ⟨n + 1 + 1, 0, none⟩) (by rw [HN.out]; simp; omega) _))⟩
        · refine kPool.mono (fun q hq => ?_) (kPool.bel (Kd.far (d := kPool) (kPool.bel HK.out B8.out) (p := ⟨n + 1 + 1, 0, none⟩) (fun k hk e => by simp only at e; omega) _) (below_d1 (Below.refl _ _)))
          rcases hq.1 with h | h
          · exact .inl h.1
          · exact .inr (by rw [HN.out]; exact h)
        · exact (Kd.int .i64).slice.mono (fun q hq => by rw [HN.out]; omega) ((Kd.int .i64).slice.bel (Kd.far (d := (Kd.int .i64).slice) (((Kd.int .i64).slice.bel HVG.out B8.out)) (p := ⟨n + 1 + 1, 0, none⟩) (fun k hk e => by simp only at e; omega) _) (below_d1 (Below.refl _ _)))
    · have HE3 := Lib.hid (h2 (by rw [← HER.out]; exact h0))
      clear d5 h2 h0
      obtain ⟨m, hm⟩ : ∃ m, w5.heap.size = m := ⟨_, rfl⟩
      have f8 : (w5.alloc (.cells #[.slice none 0 0] 31)).heap[m]? = some (.cells #[.slice none 0 0] 31) := by rw [← hm]; exact blk_new _ _
      have F8 := Lib.hid f8
      have G8 := Lib.hid (blk_al HG5.out (.cells #[.slice none 0 0] 31))
      have R8 := Lib.hid (blk_al HF5.out (.cells #[.slice none 0 0] 31))
      have B8 := Lib.hid (below_al (Below.refl w5.heap.size w5) (.cells #[.slice none 0 0] 31))
      clear f8
      go_upto_region 3 with fail
      clear hm
      generalize (w5.alloc (.cells #[.slice none 0 0] 31)) = W6 at *
      have c8 : W6.cell? ⟨m, 0, none⟩ = some (.slice none 0 0) := blk_cell F8.out 0
      have c7 : W6.cell? ⟨n + 1 + 1 + 1, 0, none⟩ = some (vg) := blk_cell G8.out 0
      have c6 : W6.cell? ⟨n + 1 + 1, 0, none⟩ = some (.slice none 0 0) := blk_cell R8.out 0
      have f6 : W6.frozen? ⟨n + 1 + 1, 0, none⟩ = false := blk_free R8.out 0
      have h68 : Hid (W6.heap[n + 1 + 1]? = some (.cells #[.slice none 0 0] 31)) := R8.out
      go_region
      all_goals
        go_wp2_with fail
        refine bodyPost_ret (results_ctt rfl _ _ (n + 1 + 1) _ #[.slice none 0 0] _ _ rfl (blk_set (j := 0) h68.out _) Tryz.underlying31 rfl (by kernel_rfl)) rfl ?_
        refine ⟨.slice none 0 0, vg, by rw [HE1.out, ← HER.out]; rfl, ?_, ?_, (HB5.out.trans (B8.out.mono HB5.out.size)).trans (undrew ((Below.refl _ _).setCell (p := ⟨n + 1 + 1, 0, none⟩) (by rw [HN.out]; simp; omega) _))⟩
        · rw [HE3.out]
          exact kPool.mk (x := ⟨[]⟩) (A0 := none) (c0 := 0) ⟨by simp, by unfold maxLen; omega, Kd.Row.nil _ _ _ _⟩
        · exact (Kd.int .i64).slice.mono (fun q hq => by rw [HN.out]; omega) ((Kd.int .i64).slice.bel (Kd.far (d := (Kd.int .i64).slice) (((Kd.int .i64).slice.bel HVG.out B8.out)) (p := ⟨n + 1 + 1, 0, none⟩) (fun k hk e => by simp only at e; omega) _) (below_d1 (Below.refl _ _)))
end Go.Proofs.YtbojjjiggppnaaaGreat
