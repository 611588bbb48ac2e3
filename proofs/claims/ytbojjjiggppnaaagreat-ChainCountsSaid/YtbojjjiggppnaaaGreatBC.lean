/- An element taken out of a row of the call's own: append onto the head, clear behind it. No program in sight. -/
import Derived.Test.YtbojjjiggppnaaaGreatBA
namespace Go.Proofs.YtbojjjiggppnaaaGreat
open Go.RowKit
set_option linter.unusedVariables false
set_option linter.unusedSimpArgs false

namespace Kd
theorem Reps.cut {α : Type} {R : α → List Value → Prop} {n : Nat} (hR : ∀ x c, R x c → c.length = n) {xs : List α} {cs : List Value} (h : Reps R xs cs) (i : Nat) (hi : i ≤ xs.length) : Reps R (xs.take i) (cs.take (i * n)) ∧ Reps R (xs.drop i) (cs.drop (i * n)) := by
  induction xs generalizing cs i with
  | nil =>
    have h' : cs = [] := h
    subst h'
    simp [Reps]
  | cons x xs ih =>
    cases i with
    | zero => simpa [Reps] using h
    | succ i =>
      obtain ⟨c, rest, rfl, h0, h1⟩ := h
      have hl := hR _ _ h0
      obtain ⟨k0, k1⟩ := ih h1 i (by simpa using hi)
      have e : (i + 1) * n = c.length + i * n := by rw [Nat.succ_mul, hl]; omega
      rw [e, List.take_length_add_append, List.drop_length_add_append]
      exact ⟨⟨c, rest.take (i * n), rfl, h0, k0⟩, k1⟩
section
variable {α : Type} {d : Kd α} {w : World} {base : Nat} {ok : Nat → Prop} {xs : List α} {e : TypeId} {P : Program}
/-- Out of a row of the call's own. -/
theorem Own.del {g n c : Nat} (h : d.Own e w base ok (.slice (some ⟨g, 0, none⟩) n c) xs) {i : Nat} (hi : i < xs.length)
    (t : TypeId) (z : Value) (bytes : Nat) (ht : P.underlying t = some (.slice e)) (hinfo : (P.info? e).map (fun i => (i.zero, i.size, i.bytes)) = some (some z, d.sz, bytes)) (hz : z.cells.size = d.sz) (hz1 : ∀ u ∈ z.cells.toList, u.oneCell' = true) (hzv : ∀ w, (zeroValue e).run P w = .ok z w) :
    ∃ cur0 cur1 cur2 : Array Value, w.heap[g]? = some (.cells cur0 e (0, 0)) ∧
      (∀ (w' : World) (ad : Addr) (ty : TypeId) (c' : Nat), w'.heap[g]? = some (.cells cur0 e (0, 0)) → (i + 1 < n → ad = ⟨g, (i + 1) * d.sz, none⟩) → (Builtin.append_ #[t, t] ty #[.slice (some ⟨g, 0, none⟩) i c, .slice (some ad) (n - (i + 1)) c']).run P w' = .ok (.slice (some ⟨g, 0, none⟩) (n - 1) c) (w'.setRow g cur1)) ∧
      (∀ (w' : World), w'.heap[g]? = some (.cells cur0 e (0, 0)) → (w'.setRow g cur1).heap[g]? = some (.cells cur1 e (0, 0))) ∧
      (∀ (w' : World) (ty : TypeId) (c' : Nat), w'.heap[g]? = some (.cells cur1 e (0, 0)) → (Builtin.clear_ #[t] ty #[.slice (some ⟨g, (n - 1) * d.sz, none⟩) 1 c']).run P w' = .ok (.tuple #[]) (w'.setRow g cur2)) ∧
      (∀ (w' : World), w'.heap[g]? = some (.cells cur1 e (0, 0)) → (w'.setRow g cur2).heap[g]? = some (.cells cur2 e (0, 0))) ∧
      (∀ w2 : World, w2.heap[g]? = some (.cells cur2 e (0, 0)) → (∀ k, k ≠ g → k < w.heap.size → w2.heap[k]? = w.heap[k]?) → d.Own e w2 base ok (.slice (some ⟨g, 0, none⟩) (n - 1) c) (xs.eraseIdx i)) := by
  obtain ⟨i0, hi0, hzz⟩ := Option.map_eq_some_iff.1 hinfo
  simp only [Prod.mk.injEq] at hzz
  obtain ⟨hz0, hzs, hz2⟩ := hzz
  obtain ⟨cells, ho, hr, hk⟩ := h
  rcases ho.2 with ⟨he, _⟩ | ⟨g', cap, cur, he, hb, hg, hnc, hcm, hcs, htake⟩
  · cases he
  · simp only [Value.slice.injEq, Option.some.injEq, Addr.mk.injEq, and_true] at he
    obtain ⟨rfl, rfl, rfl⟩ := he
    have hcl : cells.length = xs.length * d.sz := ho.1
    have hcurl : cur.toList.length = c * d.sz := by simpa using hcs
    have hle : xs.length * d.sz ≤ c * d.sz := Nat.mul_le_mul_right _ hnc
    have hi1 : (i + 1) * d.sz ≤ xs.length * d.sz := Nat.mul_le_mul_right _ (by omega)
    have hin : i * d.sz + d.sz = (i + 1) * d.sz := by rw [Nat.succ_mul]
    obtain ⟨m, hm⟩ : ∃ m, xs.length = i + 1 + m := ⟨xs.length - (i + 1), by omega⟩
    have hmz : xs.length * d.sz = (i + 1) * d.sz + m * d.sz := by rw [hm, Nat.add_mul]
    have hnm : xs.length - (i + 1) = m := by omega
    have hn1 : xs.length - 1 = i + m := by omega
    have hn1z : (xs.length - 1) * d.sz = i * d.sz + m * d.sz := by rw [hn1, Nat.add_mul]
    obtain ⟨news, hnews⟩ : ∃ news, news = cells.drop ((i + 1) * d.sz) := ⟨_, rfl⟩
    have hnl : news.length = m * d.sz := by rw [hnews, List.length_drop, hcl]; omega
    have hone : ∀ u ∈ cells, u.oneCell' = true := Reps.all (p := fun u => u.oneCell' = true) (fun _ _ => d.one) hr
    have hn1c : ∀ u ∈ news, u.oneCell' = true := fun u hu => hone u (by rw [hnews] at hu; exact List.mem_of_mem_drop hu)
    have hget : ∀ (j : Nat) (u : Value), news[j]? = some u → cur[(i + 1) * d.sz + j]? = some u := fun j u hu => by
      rw [hnews, List.getElem?_drop, ← htake] at hu
      have hlt := (List.getElem?_eq_some_iff.1 hu).1
      rw [List.getElem?_take, if_pos (by rw [List.length_take] at hlt; omega)] at hu
      simpa using hu
    obtain ⟨L1, hL1⟩ : ∃ L1, L1 = cur.toList.take (i * d.sz) ++ news ++ cur.toList.drop (i * d.sz + news.length) := ⟨_, rfl⟩
    have hL1l : L1.length = c * d.sz := by rw [hL1]; simp only [List.length_append, List.length_take, List.length_drop]; omega
    obtain ⟨zs, hzs'⟩ : ∃ zs, zs = (Builtin.zeroCells z.cells 1).toList := ⟨_, rfl⟩
    have hzl : zs.length = d.sz := by rw [hzs']; simp [Builtin.zeroCells, hz]
    have hzone : ∀ u ∈ zs, u.oneCell' = true := fun u hu => by
      refine hz1 u ?_
      rw [hzs'] at hu
      simp only [Builtin.zeroCells, Array.toList_map, List.mem_map] at hu
      obtain ⟨j, _, rfl⟩ := hu
      have hj : j % z.cells.size < z.cells.size := Nat.mod_lt _ (by rw [hz]; exact d.pos)
      rw [getElem!_pos z.cells _ hj]
      exact Array.mem_toList_iff.2 (Array.getElem_mem hj)
    refine ⟨cur, L1.toArray, (L1.take ((xs.length - 1) * d.sz) ++ zs ++ L1.drop ((xs.length - 1) * d.sz + zs.length)).toArray, hg, fun w' ad ty c' hg' had => ?_, fun w' hg' => setRow_heap w' g cur _ e _ hg', fun w' ty c' hg' => ?_, fun w' hg' => setRow_heap w' g _ _ e _ hg', fun w2 hg2 hk2 => ?_⟩
    · rw [hnm]
      have hr := run_append_room (P := P) w' t ty e i0 ht hi0 g i c cur hg' ad m c' news (by rw [hzs]; exact hnl) (fun j u hu => by
        have hlt := (List.getElem?_eq_some_iff.1 hu).1
        have hm0 : 0 < m := by
          rcases Nat.eq_zero_or_pos m with h0 | h0
          · rw [hnl, h0] at hlt; simp at hlt
          · exact h0
        rw [had (by omega), Addr.add_lit]
        rw [blk_cell hg']
        exact hget j u hu) hn1c (by omega) (by rw [hzs, hnl]; simp only [← Array.length_toList]; omega)
      rw [hr, hzs, ← hL1, hn1]
    · have hst := run_storeCells_at P g ((xs.length - 1) * d.sz) e zs 0 L1.toArray w' hg' (by simp only [List.size_toArray]; omega) hzone
      simp only [Nat.add_zero] at hst
      rw [hzs'] at hst
      simp [Builtin.clear_, run_underlying ht, hzv, hst, hzs']
    · have hel : (xs.eraseIdx i).length = xs.length - 1 := by rw [List.length_eraseIdx, if_pos hi]
      have hown : w2.ownsRow base e d.sz (.slice (some ⟨g, 0, none⟩) (xs.length - 1) c) (xs.length - 1) (cells.take (i * d.sz) ++ news) := by
        refine ⟨?_, .inr ⟨g, c, _, rfl, hb, hg2, by omega, hcm, ?_, ?_⟩⟩
        · rw [List.length_append, List.length_take, hnl, hcl]
          omega
        · simp only [List.size_toArray, List.length_append, List.length_take, List.length_drop]
          omega
        · simp only []
          rw [List.append_assoc, List.take_append_of_le_length (by rw [List.length_take]; omega), List.take_take, Nat.min_self, hL1]
          have e1 : cur.toList.take (i * d.sz) = cells.take (i * d.sz) := by
            rw [← htake, List.take_take, Nat.min_eq_left (by omega)]
          rw [e1, List.take_append_of_le_length (by rw [List.length_append, List.length_take, hnl]; omega)]
          exact List.take_of_length_le (by rw [List.length_append, List.length_take, hnl]; omega)
      refine ⟨cells.take (i * d.sz) ++ news, by rw [hel]; exact hown, ?_, hk⟩
      · have h1 := (Reps.cut (fun _ _ => d.len) hr i (by omega)).1
        have h2 := (Reps.cut (fun _ _ => d.len) hr (i + 1) (by omega)).2
        rw [← hnews] at h2
        rw [List.eraseIdx_eq_take_drop_succ]
        refine (h1.append h2).imp (fun x cs hK => ?_)
        exact d.mono (fun k hk => hk.1) (d.step hK (fun k hk hlt => hk2 k (fun e => hk.2 (by simp [Value.ownBlock, e])) hlt))
end
end Kd
end Go.Proofs.YtbojjjiggppnaaaGreat
