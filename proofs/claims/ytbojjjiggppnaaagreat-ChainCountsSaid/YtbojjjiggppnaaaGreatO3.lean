/- The walk of chain.Take. -/
import Derived.Test.YtbojjjiggppnaaaGreatM9
import Derived.Test.YtbojjjiggppnaaaGreatN4
namespace Go.Proofs.YtbojjjiggppnaaaGreat
open Go.RowKit Go.Shelf
set_option linter.unusedVariables false
set_option linter.unusedSimpArgs false

/-- One more refers to it. -/
def more1 (x : Node) : Node := { x with count := x.count + 1 }
/-- The pool in which one more refers to a filter; the error. -/
noncomputable def takeF (xs : List Node) (t : Int) : List Node × Int := if poolE xs = 0 then (match findN xs t with
  | none => ([], 4)
  | some x => (putN xs (more1 x), 0)) else ([], 190)
theorem put_more {xs : List Node} (hR : Rising xs) {i : Nat} (hi : i < xs.length) (h : 0 ≤ xs[i].count) : putN xs (more1 xs[i]) = xs.set i (more1 xs[i]) := by
  unfold putN
  have : (more1 xs[i]).count ≠ 0 := by simp [more1]; omega
  rw [beq_false_of_ne this]
  exact putF_set hR hi rfl
theorem eg_take1 : ∀ args w, (callFunc 98 args).run Tryz.prog w = .ok (.enter 98 args) w := fun args w => by
  exact (enters_of Tryz.func98 (by kernel_rfl) rfl) args w
set_option maxRecDepth 100000 in
set_option maxHeartbeats 4000000 in
theorem c_Take (xs : List Node) (c : Nat) (A : Option Addr) (t : Int) (ht : Kd.rng .i64 t) (ok : Nat → Prop) (w : World) (hC : kNode.Row w ok A xs) (hl : xs.length ≤ 1000) (hcnt : ∀ x ∈ xs, x.count ≤ 1099511627776) :
    Calls Tryz.prog 34 #[.agg #[.slice A xs.length c], .int .i64 t] w fun e w' => ∃ v, e = .returned (.tuple #[.agg #[v], .int .i64 (takeF xs t).2]) ∧ kPool.K w' (fun q => ok q ∨ w.heap.size ≤ q) ⟨(takeF xs t).1⟩ [v] ∧ Below w.heap.size w w' := by
  obtain ⟨n, hn⟩ : ∃ n, w.heap.size = n := ⟨_, rfl⟩
  have hxn := hC.1
  obtain ⟨W1, hW1⟩ : ∃ W, W = (((w.alloc (.cells #[.slice A xs.length c] 31)).alloc (.cells #[.int .i64 t] 3)).alloc (.cells #[.slice none 0 0] 31)) := ⟨_, rfl⟩
  have hB1 : Below w.heap.size w W1 := by rw [hW1]; exact below_al (below_al (below_al (Below.refl _ _) _) _) _
  have hs1 : W1.heap.size = n + 3 := by rw [hW1]; simp [hn]
  have f1 : W1.heap[n]? = some (.cells #[.slice A xs.length c] 31) := by rw [hW1, ← hn]; exact blk_al (blk_al (blk_new _ _) _) _
  have f2 : W1.heap[n + 1]? = some (.cells #[.int .i64 t] 3) := by
    have h := blk_new (w.alloc (.cells #[.slice A xs.length c] 31)) (.cells #[.int .i64 t] 3)
    rw [World.size_alloc, hn] at h
    rw [hW1]
    exact blk_al h _
  have f3 : W1.heap[n + 2]? = some (.cells #[.slice none 0 0] 31) := by
    have h := blk_new ((w.alloc (.cells #[.slice A xs.length c] 31)).alloc (.cells #[.int .i64 t] 3)) (.cells #[.slice none 0 0] 31)
    rw [World.size_alloc, World.size_alloc, hn] at h
    rw [hW1]
    exact h
  have hRow := hC.bound.bel hB1
  rw [hn] at hRow
  have hturn := c_turn xs c A _ W1 hRow (by omega) 98 #[.pointer (some ⟨n + 1, 0, none⟩)] eg_take1 W1.heap.size (Nat.le_refl _)
    (fun err v W => (err = 4 ∧ findN xs t = none) ∨ (err = 0 ∧ ∃ x, findN xs t = some x ∧ kPool.K W (fun q => ((ok q ∧ q < n) ∨ n ≤ q) ∧ q ≠ n + 4 ∧ q ≠ n + 2) ⟨putN xs (more1 x)⟩ [v]))
    (fun e v W W' h hk hsz => by
      rcases h with h | ⟨h1, x, h2, h3⟩
      · exact .inl h
      · refine .inr ⟨h1, x, h2, Kd.move (d := kPool) h3 (fun k hk' _ => hk k (by rw [hs1]; exact hk'.2.1))⟩)
    (fun hp W m A1 c1 hB hm hbox hO => by
      rw [hs1] at hm hO
      have hmW := blk_lt hbox
      have hb : W.heap[n + 1]? = some (.cells #[.int .i64 t] 3) := blk_bel hB f2
      have hR := (poolE_inv hp).1.rising
      have hO' : kNode.Own 65 W (n + 3 + 2) (fun q => (ok q ∧ q < n) ∨ (n + 3 + 1 < q ∧ q ≠ m)) (.slice A1 xs.length c1) xs := Kd.Own.mono (fun q hq => by
        rcases hq with h | h
        · exact .inl h.1
        · exact .inr h) hO
      refine (c_take1 xs _ c1 A1 t m (n + 1) (n + 3 + 2) _ W hO' rfl (by omega) hbox hb hcnt (fun q hq e => by
        subst e
        have h1 := hO'.le _ hq
        rcases hO'.ok_ _ hq with h | h
        · omega
        · exact h.2 rfl)).mono ?_
      rintro e W' ⟨i, hi, hP, h⟩
      rcases h with ⟨ha, rfl, hB'⟩ | ⟨ha, hlt, rfl, hO2, hb2, hB'⟩
      · have hf : findN xs t = none := by
          rcases at_found hR hP hi with ⟨h, _⟩ | ⟨_, h⟩
          · rw [ha] at h; cases h
          · exact h
        have hW1s := hB.size
        exact ⟨4, _, rfl, blk_bel hB' hbox, rfl, .inl ⟨rfl, hf⟩, hB'.block _ (by omega), hB'.mono hW1s⟩
      · have hf : findN xs t = some xs[i] := by
          rcases at_found hR hP hi with ⟨_, _, h⟩ | ⟨h, _⟩
          · exact h
          · rw [ha] at h; cases h
        have hc1 : 0 ≤ xs[i].count := by
          have := ((poolE_inv hp).2 _ (List.getElem_mem hlt)).1
          omega
        refine ⟨0, _, rfl, hb2, rfl, .inr ⟨rfl, xs[i], hf, ?_⟩, hB'.block _ (by omega), hB'.mono (by omega)⟩
        rw [put_more hR hlt hc1]
        have hset : (xs.set i { xs[i] with count := xs[i].count + 1 }).length = xs.length := List.length_set ..
        have h1 := hO2.K
        refine kPool.mono (fun q hq => ?_) h1
        rcases hq with h | h
        · exact ⟨.inl h, by omega, by omega⟩
        · exact ⟨.inr (by omega), by omega, by omega⟩)
  have HT := Lib.hid hturn
  have HS1 := Lib.hid hs1
  have HB1 := Lib.hid hB1
  have F3 := Lib.hid f3
  have F1 := Lib.hid f1
  have HN := Lib.hid hn
  have HTF : Hid (∀ err v W, ((err = 4 ∧ findN xs t = none) ∨ (err = 0 ∧ ∃ x, findN xs t = some x ∧ kPool.K W (fun q => ((ok q ∧ q < n) ∨ n ≤ q) ∧ q ≠ n + 4 ∧ q ≠ n + 2) ⟨putN xs (more1 x)⟩ [v])) → poolE xs = 0 → (takeF xs t).2 = err ∧ (err = 0 → kPool.K W (fun q => ((ok q ∧ q < n) ∨ n ≤ q) ∧ q ≠ n + 4 ∧ q ≠ n + 2) ⟨(takeF xs t).1⟩ [v]) ∧ (err ≠ 0 → (takeF xs t).1 = [])) := fun err v W h hp => by
    unfold takeF
    rw [if_pos hp]
    rcases h with ⟨rfl, h⟩ | ⟨rfl, x, h, hK⟩
    · rw [h]; exact ⟨rfl, fun h => absurd h (by decide), fun _ => rfl⟩
    · rw [h]; exact ⟨rfl, fun _ => hK, fun h => absurd rfl h⟩
  have HTN : Hid (poolE xs = 190 → takeF xs t = ([], 190)) := fun h => by
    unfold takeF
    rw [if_neg (by rw [h]; decide)]
  clear hC hturn hRow f1 f2 f3 hs1 hB1
  rw [hW1] at HT HS1 HB1 F3 F1
  clear hW1 W1
  go_enter Tryz.func34, Tryz.ntmps34
  go_upto_region 1 with fail
  generalize (((w.alloc (.cells #[.slice A xs.length c] 31)).alloc (.cells #[.int .i64 t] 3)).alloc (.cells #[.slice none 0 0] 31)) = W1 at *
  clear hn
  have p0 : W1.cell? ⟨n, 0, none⟩ = some (.slice A xs.length c) := blk_cell F1.out 0
  go_wp2_with fail
  refine HT.out.mono ?_
  rintro e w5 (⟨hp, rfl, hB5⟩ | ⟨hp, err, v, he, hd, hB5⟩)
  · have HF5 := Lib.hid (blk_bel hB5 F3.out)
    have HB5 := Lib.hid (HB1.out.trans (hB5.mono HB1.out.size))
    have HE := Lib.hid (HTN.out hp)
    clear hB5 hp HT HTN HTF
    go_wp2_with (first | (refine wpList_store_row (w := w5) rfl _ _ _ rfl (n + 2) #[.slice none 0 0] rfl rfl _ _ HF5.out (by kernel_rfl) (by rfl) (by kernel_rfl) ?_; intro W6 hW6))
    refine bodyPost_ret (results_ct rfl _ _ (n + 2) _ #[.slice none 0 0] _ _ rfl hW6.here Tryz.underlying31 rfl (by kernel_rfl)) rfl ?_
    refine ⟨.slice none 0 0, by rw [HE.out]; rfl, ?_, HB5.out.trans (hW6.bel.mono (by rw [HN.out]; omega))⟩
    rw [HE.out]
    exact kPool.mk (x := ⟨[]⟩) (A0 := none) (c0 := 0) ⟨by simp, by unfold maxLen; omega, Kd.Row.nil _ _ _ _⟩
  · obtain ⟨h1, h2, h3⟩ := HTF.out err v w5 hd hp
    have HF5 := Lib.hid (blk_bel hB5 F3.out)
    have HB5 := Lib.hid (HB1.out.trans (hB5.mono HB1.out.size))
    have HE1 := Lib.hid h1
    have HE2 := Lib.hid h2
    have HE3 := Lib.hid h3
    clear hB5 hp HT HTN HTF hd h1 h2 h3
    rcases he with ⟨h0, rfl⟩ | ⟨h0, rfl⟩
    · have HK := Lib.hid (HE2.out h0)
      have H0 := Lib.hid h0
      clear HE2 HE3 h0
      have hv1 : v.oneCell' = true := kPool.one HK.out v (by simp)
      go_wp2_with (first | (refine wpList_store_row (w := w5) rfl _ _ _ rfl (n + 2) #[v] rfl rfl _ _ HF5.out (by kernel_rfl) (by rfl) (by simpa using hv1) ?_; intro W6 hW6))
      refine bodyPost_ret (results_ct rfl _ _ (n + 2) _ #[v] _ _ rfl hW6.here Tryz.underlying31 rfl (by kernel_rfl)) rfl ?_
      refine ⟨v, by rw [HE1.out, H0.out]; rfl, ?_, HB5.out.trans (hW6.bel.mono (by rw [HN.out]; omega))⟩
      refine kPool.mono (fun q hq => ?_) (Kd.move (d := kPool) HK.out (fun k hk _ => hW6.far k hk.2.2))
      rcases hq.1 with h | h
      · exact .inl h.1
      · exact .inr (by rw [HN.out]; exact h)
    · have HE := Lib.hid (HE3.out h0)
      clear HE2 HE3 h0
      go_wp2_with (first | (refine wpList_store_row (w := w5) rfl _ _ _ rfl (n + 2) #[.slice none 0 0] rfl rfl _ _ HF5.out (by kernel_rfl) (by rfl) (by kernel_rfl) ?_; intro W6 hW6))
      refine bodyPost_ret (results_ct rfl _ _ (n + 2) _ #[.slice none 0 0] _ _ rfl hW6.here Tryz.underlying31 rfl (by kernel_rfl)) rfl ?_
      refine ⟨.slice none 0 0, by rw [HE1.out]; rfl, ?_, HB5.out.trans (hW6.bel.mono (by rw [HN.out]; omega))⟩
      rw [HE.out]
      exact kPool.mk (x := ⟨[]⟩) (A0 := none) (c0 := 0) ⟨by simp, by unfold maxLen; omega, Kd.Row.nil _ _ _ _⟩
end Go.Proofs.YtbojjjiggppnaaaGreat
