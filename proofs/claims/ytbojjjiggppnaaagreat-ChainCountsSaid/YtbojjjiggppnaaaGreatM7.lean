/- The walks of slices.Clone at filters, and of the law's over. -/
import Derived.Test.YtbojjjiggppnaaaGreatM6
import Derived.Test.YtbojjjiggppnaaaGreatBA
namespace Go.Proofs.YtbojjjiggppnaaaGreat
open Go.RowKit Go.Shelf
set_option linter.unusedVariables false
set_option linter.unusedSimpArgs false

theorem infoNode : (Tryz.prog.info? 65).map (fun i => (i.zero, i.size, i.bytes)) = some (some (.agg #[.int .i64 0, .int .i64 0, .slice none 0 0, .int .i64 0, .int .i64 0, .int .u64 0, .int .u64 0]), 7, 72) := by kernel_rfl
set_option maxRecDepth 100000 in
set_option maxHeartbeats 1000000 in
/-- A row of its own, whose elements lead where they led. -/
theorem c_cloneNode (A : Option Addr) (xs : List Node) (c : Nat) (ok : Nat → Prop) (w : World) (hC : kNode.Row w ok A xs) (hl : xs.length ≤ 100000) :
    Calls Tryz.prog 152 #[.slice A xs.length c] w fun e w' => ∃ v, e = .returned v ∧ kNode.Own 65 w' w.heap.size (fun q => (ok q ∧ q < w.heap.size) ∨ w.heap.size ≤ q) v xs ∧ Below w.heap.size w w' := by
  have hnil := fun (w : World) (a : Option Addr) (n c : Nat) => Lib.run_eql_slice_nil (P := Tryz.prog) w 29 65 a n c 0 0 Tryz.underlying29
  cases A with
  | none =>
    have h0 : xs = [] := by
      cases xs with
      | nil => rfl
      | cons y ys => obtain ⟨ad, cs, e, _⟩ := hC.2 0 y rfl; cases e
    subst h0
    go_enter Tryz.func152, Tryz.ntmps152
    go_wp2_with fail
    go_ret
    exact ⟨_, rfl, Kd.Own.nil _ _ _ _ _, Below.refl _ _⟩
  | some ad =>
    have hO : kNode.Own 65 (w.alloc (.cells #[] 65)) w.heap.size (fun q => (ok q ∧ q < w.heap.size) ∨ w.heap.size ≤ q) (.slice (some ⟨w.heap.size, 0, none⟩) 0 0) [] := Kd.Own.lit (d := kNode) (cells := []) rfl rfl (Nat.le_refl _) (by simp) (.inr (Nat.le_refl _))
    have hC' := hC.bound.bel (below_al (Below.refl _ _) (.cells #[] 65))
    have hne : ∀ (x : Node) (cs : List Value), kNode.K (w.alloc (.cells #[] 65)) (fun q => ok q ∧ q < w.heap.size) x cs → kNode.K (w.alloc (.cells #[] 65)) (fun q => ((ok q ∧ q < w.heap.size) ∨ w.heap.size ≤ q) ∧ some q ≠ (Value.slice (some ⟨w.heap.size, 0, none⟩) 0 0).ownBlock) x cs := fun x cs h => kNode.mono (fun q hq => ⟨.inl hq, fun e => by simp only [Value.ownBlock, Option.some.injEq] at e; have := hq.2; omega⟩) h
    go_enter Tryz.func152, Tryz.ntmps152
    go_wp2_with (at_builtin; refine wp_append_kd rfl _ _ 29 65 _ 72 rfl Tryz.underlying29 infoNode rfl (.slice (some ⟨w.heap.size, 0, none⟩) 0 0) [] (some ad) xs.length c xs rfl rfl hO rfl hC' hne (by unfold maxLen; simp; omega) (by simp; omega) (by simp) (fun q hq => .inr (by simp at hq; omega)) ?_; intro v1 w1 hO1 hg1 hat1)
    go_ret
    exact ⟨_, rfl, by simpa using hO1, ((Below.refl _ w).alloc (Nat.le_refl _) _).grown hg1 (by simp) (fun q hq => by have := hO.le q hq; omega)⟩

def nodeOver (x : Node) : Bool := decide (100 < x.program.length ∨ 1099511627776 < x.count)
def overL (xs : List Node) : Bool := decide (60 < xs.length) || xs.any nodeOver
theorem over_step {l : List Node} {k : Nat} (hk : k < l.length) (h : nodeOver l[k] = false) (h0 : (l.take k).any nodeOver = false) : (l.take (k + 1)).any nodeOver = false := by
  rw [List.take_succ_eq_append_getElem hk, List.any_append, h0]
  simp [h]
theorem over_at {l : List Node} {k : Nat} (hk : k < l.length) (h : nodeOver l[k] = true) : l.any nodeOver = true := List.any_eq_true.2 ⟨_, List.getElem_mem hk, h⟩
set_option maxRecDepth 100000 in
set_option maxHeartbeats 4000000 in
theorem c_overL (xs : List Node) (c : Nat) (A : Option Addr) (ok : Nat → Prop) (w : World) (hC : kNode.Row w ok A xs) :
    Calls Tryz.prog 29 #[.agg #[.slice A xs.length c]] w fun e w' => e = .returned (.bool (overL xs)) ∧ Below w.heap.size w w' := by
  by_cases hb : 60 < xs.length
  · have ho : overL xs = true := by simp [overL, hb]
    rw [ho]
    clear ho
    have hb' : (60 : Int) < (xs.length : Int) := by omega
    have hn := hC.1
    go_enter Tryz.func29, Tryz.ntmps29
    go_wp2_with fail
    go_ret
    exact ⟨rfl, below_al (Below.refl _ _) _⟩
  · have ho : overL xs = xs.any nodeOver := by simp [overL, hb]
    rw [ho]
    clear ho
    have hn : xs.length ≤ 60 := by omega
    clear hb
    go_enter Tryz.func29, Tryz.ntmps29
    go_wp2_with fail
    go_loopw [4, 12] (fun _ i wr => ∃ (k : Nat), k ≤ xs.length ∧ i = .int .i64 k ∧ Hid ((xs.take k).any nodeOver = false) ∧ Below w.heap.size w wr) (fun _ i _ => xs.length - (intOf i).toNat)
    case atStart => exact ⟨0, Nat.zero_le _, rfl, rfl, below_al (Below.refl _ _) _⟩
    case round =>
      obtain ⟨k, hk, rfl, hany, hB⟩ := hrel
      by_cases hlt : k < xs.length
      · obtain ⟨ad, A2, c2, rfl, hok, ⟨g0, g1, g2, g3, g4, g5, g6⟩, e0, e1, e2, e3, e4, e5, e6⟩ := kNode.at_ (hC.bel hB) hlt
        have HT : Hid (nodeOver xs[k] = true → xs.any nodeOver = true) := fun h => over_at hlt h
        have HF : Hid (nodeOver xs[k] = false → (xs.take (k + 1)).any nodeOver = false) := fun h => over_step hlt h hany.out
        have HU := Lib.hid (show nodeOver xs[k] = decide (100 < xs[k].program.length ∨ 1099511627776 < xs[k].count) from rfl)
        have q2 := g2.2.2.1
        generalize xs[k] = x at *
        clear g0 g1 g2 g3 g4 g5 g6
        go_wp2_with fail
        all_goals first
          | (go_ret; exact ⟨ret_b (HT.out (by rw [HU.out]; exact decide_eq_true (by omega))).symm, below_al hB _⟩)
          | exact ⟨⟨k + 1, by omega, by go_num, HF.out (by rw [HU.out]; exact decide_eq_false (by omega)), below_al hB _⟩, by simp [intOf]; omega⟩
      · obtain rfl : k = xs.length := by omega
        have h := hany.out
        rw [List.take_length] at h
        have HH := Lib.hid h
        clear h hany
        go_wp2_with fail
        go_ret
        exact ⟨ret_b HH.out.symm, hB⟩
end Go.Proofs.YtbojjjiggppnaaaGreat
