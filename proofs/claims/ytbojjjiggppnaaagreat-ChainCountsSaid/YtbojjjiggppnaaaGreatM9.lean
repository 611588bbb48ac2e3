/- The walk of chain.turn: a pool behind a change, whatever the change. -/
import Derived.Test.YtbojjjiggppnaaaGreatM8
namespace Go.Proofs.YtbojjjiggppnaaaGreat
open Go.RowKit Go.Shelf
set_option linter.unusedVariables false
set_option linter.unusedSimpArgs false

theorem own_base {α : Type} {d : Kd α} {e : TypeId} {w : World} {b b' : Nat} {ok : Nat → Prop} {v : Value} {xs : List α} (h : d.Own e w b ok v xs) (hb : b' ≤ b) : d.Own e w b' ok v xs := by
  obtain ⟨cells, ho, hr, hk⟩ := h
  refine ⟨cells, ⟨ho.1, ?_⟩, hr, hk⟩
  rcases ho.2 with h | ⟨g, cap, cur, h1, h2, h3⟩
  · exact .inl h
  · exact .inr ⟨g, cap, cur, h1, Nat.le_trans hb h2, h3⟩
set_option maxRecDepth 100000 in
set_option maxHeartbeats 4000000 in
theorem c_turn (xs : List Node) (c : Nat) (A : Option Addr) (ok : Nat → Prop) (w : World) (hC : kNode.Row w ok A xs) (hl : xs.length ≤ 100000) (gf : Nat) (lb : Array Value) (heg : ∀ args w, (callFunc gf args).run Tryz.prog w = .ok (.enter gf args) w) (B0 : Nat) (hB0 : B0 ≤ w.heap.size)
    (D : Int → Value → World → Prop) (hD : ∀ e v W W', D e v W → (∀ k, k ≠ w.heap.size + 1 → W'.heap[k]? = W.heap[k]?) → W'.heap.size = W.heap.size → D e v W')
    (hdoes : poolE xs = 0 → ∀ (W : World) (n : Nat) (A1 : Option Addr) (c1 : Nat), Below w.heap.size w W → w.heap.size + 1 < n → W.heap[n]? = some (.cells #[.slice A1 xs.length c1] 31) →
      kNode.Own 65 W (w.heap.size + 2) (fun q => (ok q ∧ q < w.heap.size) ∨ (w.heap.size + 1 < q ∧ q ≠ n)) (.slice A1 xs.length c1) xs →
      Calls Tryz.prog gf (#[.pointer (some ⟨n, 0, none⟩)] ++ lb) W fun e W' => ∃ (err : Int) (v : Value), e = .returned (.int .i64 err) ∧ W'.heap[n]? = some (.cells #[v] 31) ∧ v.oneCell' = true ∧ D err v W' ∧ W'.heap[w.heap.size + 1]? = W.heap[w.heap.size + 1]? ∧ Below B0 W W') :
    Calls Tryz.prog 90 #[.agg #[.slice A xs.length c], .func (.func gf) #[] lb] w fun e w' =>
      (poolE xs = 190 ∧ e = .returned (.tuple #[.agg #[.slice none 0 0], .int .i64 190]) ∧ Below w.heap.size w w') ∨
      (poolE xs = 0 ∧ ∃ (err : Int) (v : Value), ((err = 0 ∧ e = .returned (.tuple #[.agg #[v], .int .i64 0])) ∨ (err ≠ 0 ∧ e = .returned (.tuple #[.agg #[.slice none 0 0], .int .i64 err]))) ∧ D err v w' ∧ Below B0 w w') := by
  obtain ⟨n, hn⟩ : ∃ n, w.heap.size = n := ⟨_, rfl⟩
  have hxn := hC.1
  have hB1 : Below w.heap.size w ((w.alloc (.cells #[.slice A xs.length c] 31)).alloc (.cells #[.slice none 0 0] 31)) := below_al (below_al (Below.refl _ _) _) _
  have f1 : ((w.alloc (.cells #[.slice A xs.length c] 31)).alloc (.cells #[.slice none 0 0] 31)).heap[n]? = some (.cells #[.slice A xs.length c] 31) := by rw [← hn]; exact blk_al (blk_new _ _) _
  have f2 : ((w.alloc (.cells #[.slice A xs.length c] 31)).alloc (.cells #[.slice none 0 0] 31)).heap[n + 1]? = some (.cells #[.slice none 0 0] 31) := by
    have h := blk_new (w.alloc (.cells #[.slice A xs.length c] 31)) (.cells #[.slice none 0 0] 31)
    rwa [World.size_alloc, hn] at h
  have HCK := Lib.hid (c_checkPool xs c A _ _ (hC.bel hB1) (by omega))
  have HR := Lib.hid (hC.bound.bel hB1)
  have HB1 := Lib.hid hB1
  have F1 := Lib.hid f1
  have F2 := Lib.hid f2
  have HS1 : Hid (((w.alloc (.cells #[.slice A xs.length c] 31)).alloc (.cells #[.slice none 0 0] 31)).heap.size = n + 1 + 1) := by simp [Hid, hn]
  have HN := Lib.hid hn
  have HD := Lib.hid hD
  have HDO := Lib.hid hdoes
  rw [hn] at HDO HD
  have hpe : poolE xs = 0 ∨ poolE xs = 190 := by unfold poolE; split <;> simp
  have HPE := Lib.hid hpe
  clear hC hB1 f1 f2 hD hdoes hpe
  generalize poolE xs = pe at *
  go_enter Tryz.func90, Tryz.ntmps90
  go_upto_region 1 with fail
  generalize ((w.alloc (.cells #[.slice A xs.length c] 31)).alloc (.cells #[.slice none 0 0] 31)) = W1 at *
  clear hn
  have p0 : W1.cell? ⟨n, 0, none⟩ = some (.slice A xs.length c) := blk_cell F1.out 0
  go_wp2_with fail
  refine HCK.out.mono ?_
  rintro e w2 ⟨rfl, hB2⟩
  have HB2 := Lib.hid hB2
  have F12 := Lib.hid (blk_bel hB2 F1.out)
  have F22 := Lib.hid (blk_bel hB2 F2.out)
  clear hB2 p0
  rcases HPE.out with h | h
  · have h' := h.symm
    subst h'
    have q0 : w2.cell? ⟨n, 0, none⟩ = some (.slice A xs.length c) := blk_cell F12.out 0
    have HCL := Lib.hid (c_cloneNode A xs c _ w2 (HR.out.bel HB2.out) hl)
    go_wp2_with fail
    refine HCL.out.mono ?_
    rintro e w3 ⟨v, rfl, hO3, hB3⟩
    obtain ⟨A1, c1, rfl, -, -⟩ := hO3.form
    have HB3 := Lib.hid (below_tr HB2.out hB3)
    have hs3 : n + 1 < w3.heap.size := by have := HB3.out.size; rw [HS1.out] at this; omega
    have hsz2 : n + 2 ≤ w2.heap.size := by have := HB2.out.size; rw [HS1.out] at this; omega
    have hW4 : Below W1.heap.size W1 (w3.alloc (.cells #[.slice A1 xs.length c1] 31)) := below_al HB3.out _
    have hO4 := (own_base (b' := n + 2) hO3 hsz2).bound.al (.cells #[.slice A1 xs.length c1] 31)
    obtain ⟨m, hm⟩ : ∃ m, w3.heap.size = m := ⟨_, rfl⟩
    have f4 : (w3.alloc (.cells #[.slice A1 xs.length c1] 31)).heap[m]? = some (.cells #[.slice A1 xs.length c1] 31) := by rw [← hm]; exact blk_new _ _
    have HDC := Lib.hid (HDO.out (by first | exact trivial | rfl) (w3.alloc (.cells #[.slice A1 xs.length c1] 31)) m A1 c1 (by rw [← HN.out]; exact HB1.out.trans (hW4.mono (by rw [HN.out, HS1.out]; omega))) (by omega) f4
      (Kd.Own.mono (fun q hq => by
        rcases hq.1 with h | h
        · exact .inl ⟨h.1.1, by have := h.1.2; rw [HN.out] at this; exact this⟩
        · exact .inr ⟨by omega, by have := hq.2; omega⟩) hO4))
    have HF4 := Lib.hid (blk_al (blk_bel hB3 F22.out) (.cells #[.slice A1 xs.length c1] 31))
    have HS4 : Hid ((w3.alloc (.cells #[.slice A1 xs.length c1] 31)).heap.size = m + 1) := by simp [Hid, hm]
    have HW4 : Hid (Below B0 w (w3.alloc (.cells #[.slice A1 xs.length c1] 31))) := (HB1.out.mono hB0).trans (hW4.mono (by rw [HS1.out, ← HN.out] ; omega))
    clear hB3 hO3 hO4 hW4 f4 q0 HDO HCL HCK
    go_upto_region 5 with fail
    generalize (w3.alloc (.cells #[.slice A1 xs.length c1] 31)) = W4 at *
    go_wp2_with fail
    refine HDC.out.mono ?_
    rintro e w5 ⟨err, v, rfl, hv5, hv1, hd5, hk5, hB5⟩
    have hF5 := hk5.trans HF4.out
    have HD5 := Lib.hid hd5
    have HV5 := Lib.hid hv5
    have HF5 := Lib.hid hF5
    have HB5 := Lib.hid (HW4.out.trans hB5)
    clear hd5 hv5 hF5 hB5 hk5 HDC
    by_cases h0 : err = 0
    · subst h0
      go_upto_region 8 with fail
      have v5 := blk_cell HV5.out 0
      simp only [List.getElem?_toArray, List.getElem?_cons_zero] at v5
      go_wp2_with (first | (refine wpList_store_row (w := w5) rfl _ _ _ rfl (n + 1) #[v] rfl rfl _ _ HF5.out (by kernel_rfl) (by rfl) (by simpa using hv1) ?_; intro W6 hW6))
      refine bodyPost_ret (results_ct rfl _ _ (n + 1) _ #[v] _ _ rfl hW6.here Tryz.underlying31 rfl (by kernel_rfl)) rfl ?_
      exact ⟨0, v, .inl ⟨rfl, rfl⟩, HD.out _ _ _ _ HD5.out hW6.far hW6.size, HB5.out.trans (hW6.bel.mono (by rw [HN.out] at hB0; omega))⟩
    · go_upto_region 7 with fail
      go_wp2_with (first | (refine wpList_store_row (w := w5) rfl _ _ _ rfl (n + 1) #[.slice none 0 0] rfl rfl _ _ HF5.out (by kernel_rfl) (by rfl) (by kernel_rfl) ?_; intro W6 hW6))
      refine bodyPost_ret (results_ct rfl _ _ (n + 1) _ #[.slice none 0 0] _ _ rfl hW6.here Tryz.underlying31 rfl (by kernel_rfl)) rfl ?_
      exact ⟨err, v, .inr ⟨h0, rfl⟩, HD.out _ _ _ _ HD5.out hW6.far hW6.size, HB5.out.trans (hW6.bel.mono (by rw [HN.out] at hB0; omega))⟩
  · have h' := h.symm
    subst h'
    go_upto_region 3 with fail
    go_wp2_with (first | (refine wpList_store_row (w := w2) rfl _ _ _ rfl (n + 1) #[.slice none 0 0] rfl rfl _ _ F22.out (by kernel_rfl) (by rfl) (by kernel_rfl) ?_; intro W6 hW6))
    refine bodyPost_ret (results_ct rfl _ _ (n + 1) _ #[.slice none 0 0] _ _ rfl hW6.here Tryz.underlying31 rfl (by kernel_rfl)) rfl ?_
    exact ⟨rfl, (HB1.out.trans (HB2.out.mono HB1.out.size)).trans (hW6.bel.mono (by rw [HN.out]; omega))⟩
end Go.Proofs.YtbojjjiggppnaaaGreat
