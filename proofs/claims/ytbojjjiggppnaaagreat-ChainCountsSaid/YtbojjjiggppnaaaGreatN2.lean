/- The walk of the reference's sized. -/
import Derived.Test.YtbojjjiggppnaaaGreatM6
import Derived.Deep.Cut
namespace Go.Proofs.YtbojjjiggppnaaaGreat
open Go.RowKit Go.Shelf
set_option linter.unusedVariables false
set_option linter.unusedSimpArgs false

/-- A chain's size, at most so many filters on. -/
def sizedF (xs : List Node) : Nat → Int → Int
  | 0, _ => 0
  | m + 1, t => match findN xs t with
    | none => 0
    | some x => if x.parent = 0 then x.program.length + 4 else if sizedF xs m x.parent = 0 then 0 else sizedF xs m x.parent + x.program.length + 4
theorem find_mem {xs : List Node} {t : Int} {x : Node} (h : findN xs t = some x) : x ∈ xs := List.mem_of_find?_eq_some h
theorem sizedF_le {xs : List Node} (hx : ∀ x ∈ xs, x.program.length ≤ 1000) (m : Nat) (t : Int) : 0 ≤ sizedF xs m t ∧ sizedF xs m t ≤ 1004 * m := by
  induction m generalizing t with
  | zero => simp [sizedF]
  | succ m ih =>
    unfold sizedF
    cases h : findN xs t with
    | none => simp only; omega
    | some x =>
      have hl := hx x (find_mem h)
      have := ih x.parent
      simp only
      split
      · omega
      · split <;> omega
set_option maxRecDepth 100000 in
set_option maxHeartbeats 4000000 in
theorem c_sized (xs : List Node) (c : Nat) (A : Option Addr) (ok : Nat → Prop) (hx : ∀ x ∈ xs, x.program.length ≤ 1000) (m : Nat) (hm : m ≤ 1000) : ∀ (t : Int) (w : World) (hC : kNode.Row w ok A xs),
    Calls Tryz.prog 112 #[.agg #[.slice A xs.length c], .int .i64 t, .int .i64 m] w fun e w' => e = .returned (.int .i64 (sizedF xs m t)) ∧ Below w.heap.size w w' := by
  induction m with
  | zero =>
    intro t w hC
    obtain ⟨n, hn⟩ : ∃ n, w.heap.size = n := ⟨_, rfl⟩
    have hB1 : Below w.heap.size w (w.alloc (.cells #[.slice A xs.length c] 31)) := below_al (Below.refl _ _) _
    have HF := Lib.hid (c_refFind xs c A t ok _ (hC.bel hB1))
    have HB1 := Lib.hid hB1
    clear hC hB1
    cases hf : findN xs t
    all_goals
      rw [hf] at HF
      clear hf
      go_enter Tryz.func112, Tryz.ntmps112
      go_wp2_with fail
      refine HF.out.mono ?_
      rintro e w2 ⟨ds, rfl, hds, hB2⟩
      have HE := Lib.hid (HB1.out.trans (hB2.mono HB1.out.size))
      obtain ⟨A9, c9, rfl, -, -, ⟨-, -, g2⟩, -⟩ := kNode.opn hds
      have q2 := g2.1
      clear hB2 hds g2
      go_wp2_with fail
      go_ret
      exact ⟨rfl, by have h := below_al HE.out (.cells #[] 65); first | exact below_al HE.out _ | (have h2 := below_al HE.out; rw [hn] at h2; exact h2 _)⟩
  | succ m ih =>
    intro t w hC
    obtain ⟨n, hn⟩ : ∃ n, w.heap.size = n := ⟨_, rfl⟩
    have hB1 : Below w.heap.size w (w.alloc (.cells #[.slice A xs.length c] 31)) := below_al (Below.refl _ _) _
    have hp1 : (w.alloc (.cells #[.slice A xs.length c] 31)).heap[n]? = some (.cells #[.slice A xs.length c] 31) := by rw [← hn]; exact blk_new _ _
    have HF := Lib.hid (c_refFind xs c A t ok _ (hC.bel hB1))
    have HB1 := Lib.hid hB1
    have HP1 := Lib.hid hp1
    have HROW := Lib.hid hC
    have HIH := Lib.hid (ih (by omega))
    have hxn := hC.1
    have HLE := Lib.hid (fun t => sizedF_le hx m t)
    obtain ⟨res, hres⟩ : ∃ r, r = sizedF xs (m + 1) t := ⟨_, rfl⟩
    rw [← hres]
    have hun : sizedF xs (m + 1) t = (match findN xs t with | none => 0 | some x => if x.parent = 0 then x.program.length + 4 else if sizedF xs m x.parent = 0 then 0 else sizedF xs m x.parent + x.program.length + 4) := rfl
    rw [← hres] at hun
    clear hres hC hB1 hp1 ih
    cases hf : findN xs t with
    | none =>
      rw [hf] at HF hun
      simp only at hun
      subst hun
      clear hf
      go_enter Tryz.func112, Tryz.ntmps112
      go_wp2_with fail
      refine HF.out.mono ?_
      rintro e w2 ⟨ds, rfl, hds, hB2⟩
      have HE := Lib.hid (HB1.out.trans (hB2.mono HB1.out.size))
      obtain ⟨A9, c9, rfl, -, -, ⟨-, -, g2⟩, -⟩ := kNode.opn hds
      have q2 := g2.1
      clear hB2 hds g2
      go_wp2_with fail
      go_ret
      exact ⟨rfl, by first | exact below_al HE.out _ | (have h2 := below_al HE.out; rw [hn] at h2; exact h2 _)⟩
    | some x =>
      have hxl := hx x (find_mem hf)
      rw [hf] at HF hun
      have HUN := Lib.hid hun
      clear hf hun
      go_enter Tryz.func112, Tryz.ntmps112
      go_wp2_with fail
      refine HF.out.mono ?_
      rintro e w2 ⟨ds, rfl, hds, hB2⟩
      have HE := Lib.hid (HB1.out.trans (hB2.mono HB1.out.size))
      have hp2 := blk_bel hB2 HP1.out
      obtain ⟨A9, c9, rfl, -, -, ⟨-, -, g2⟩, -⟩ := kNode.opn (x := x) hds
      have q2 := g2.1
      obtain ⟨q, hq⟩ : ∃ q, w2.heap.size = q := ⟨_, rfl⟩
      have f1 : (w2.alloc (.cells #[.int .i64 x.id, .int .i64 x.parent, .slice A9 x.program.length c9, .int .i64 x.size, .int .i64 x.count, .int .u64 x.one, .int .u64 x.two] 65)).heap[q]? = some (.cells #[.int .i64 x.id, .int .i64 x.parent, .slice A9 x.program.length c9, .int .i64 x.size, .int .i64 x.count, .int .u64 x.one, .int .u64 x.two] 65) := by rw [← hq]; exact blk_new _ _
      have f2 := blk_al hp2 (.cells #[.int .i64 x.id, .int .i64 x.parent, .slice A9 x.program.length c9, .int .i64 x.size, .int .i64 x.count, .int .u64 x.one, .int .u64 x.two] 65)
      have f3 : Below w.heap.size w (w2.alloc (.cells #[.int .i64 x.id, .int .i64 x.parent, .slice A9 x.program.length c9, .int .i64 x.size, .int .i64 x.count, .int .u64 x.one, .int .u64 x.two] 65)) := below_al HE.out _
      have F1 := Lib.hid f1
      have F2 := Lib.hid f2
      have F3 := Lib.hid f3
      clear hB2 hds g2 f1 f2 f3 hp2
      go_upto_region 2 with fail
      generalize (w2.alloc (.cells #[.int .i64 x.id, .int .i64 x.parent, .slice A9 x.program.length c9, .int .i64 x.size, .int .i64 x.count, .int .u64 x.one, .int .u64 x.two] 65)) = W3 at *
      clear hn
      have z1 : W3.cell? ⟨q, 1, none⟩ = some (.int .i64 x.parent) := blk_cell F1.out 1
      have z2 : W3.cell? ⟨q, 2, none⟩ = some (.slice A9 x.program.length c9) := blk_cell F1.out 2
      have p0 : W3.cell? ⟨n, 0, none⟩ = some (.slice A xs.length c) := blk_cell F2.out 0
      clear hq
      by_cases hp : x.parent = 0
      · have hp' : (x.parent == 0) = true := by rw [beq_iff_eq]; exact hp
        go_wp2_with fail
        go_ret
        exact ⟨ret_i (HUN.out.trans (by simp [hp])).symm, F3.out⟩
      · have hp' : (x.parent == 0) = false := by rw [beq_eq_false_iff_ne]; exact hp
        have HCALL := Lib.hid (HIH.out x.parent W3 (HROW.out.bel F3.out))
        have hle := HLE.out x.parent
        have hun2 := HUN.out
        simp only [if_neg hp] at hun2
        generalize sizedF xs m x.parent = up at *
        have HUN2 := Lib.hid hun2
        clear hun2 HUN
        go_wp2_with fail
        refine HCALL.out.mono ?_
        rintro e w5 ⟨rfl, hB5⟩
        have z2' := cell_bel hB5 z2
        have HE5 := Lib.hid (F3.out.trans (hB5.mono F3.out.size))
        clear hB5 z1 z2 p0
        by_cases hu : up = 0
        · go_wp2_with fail
          go_ret
          exact ⟨ret_i (HUN2.out.trans (by simp [hu])).symm, HE5.out⟩
        · go_wp2_with fail
          go_ret
          exact ⟨ret_i (HUN2.out.trans (by simp [hu])).symm, HE5.out⟩
end Go.Proofs.YtbojjjiggppnaaaGreat
