/- The walks of vm.runs and vm.Run. -/
import Derived.Test.YtbojjjiggppnaaaGreatE3
namespace Go.Proofs.YtbojjjiggppnaaaGreat
open Go.RowKit Go.Shelf
set_option linter.unusedVariables false
set_option linter.unusedSimpArgs false

attribute [local go_sem] Oper.semAt_some
set_option maxRecDepth 100000 in
theorem c_runs (A : Option Addr) (n c : Nat) (d : Data) (w : World) : Calls Tryz.prog 165 #[.slice A n c, d.agg] w fun e w' => e = .returned (.func (.func 192) #[] #[.pointer (some ⟨w.heap.size, 0, none⟩), .pointer (some ⟨w.heap.size + 1, 0, none⟩)]) ∧ w'.heap[w.heap.size]? = some (.cells #[.slice A n c] 38) ∧ w'.heap[w.heap.size + 1]? = some (.cells d.cells.toArray 27) ∧ Below w.heap.size w w' := by
  obtain ⟨nr, arch, ip, a0, a1, a2, a3, a4, a5⟩ := d
  unfold Data.agg Data.cells
  simp only
  go_enter Tryz.func165, Tryz.ntmps165
  go_wp2_with fail
  go_ret
  have h := blk_new (w.alloc (.cells #[.slice A n c] 38)) (.cells #[.int .u32 nr, .int .u32 arch, .int .u64 ip, .int .u64 a0, .int .u64 a1, .int .u64 a2, .int .u64 a3, .int .u64 a4, .int .u64 a5] 27)
  rw [World.size_alloc] at h
  exact ⟨rfl, blk_al (blk_new _ _) _, h, below_al (below_al (Below.refl _ _) _) _⟩

/-- The last word that the iterator yields. -/
def lastW (l : List (Int × Int × Int)) : Int := match l.getLast? with
  | some p => p.2.2
  | none => 0
theorem lastW_snoc (l : List (Int × Int × Int)) (x : Int × Int × Int) : lastW (l ++ [x]) = x.2.2 := by simp [lastW]
def runP (l : List Insn) (d : Data) : Int := lastW (trace l (encB d) l.length 0 0)
set_option maxRecDepth 100000 in
set_option maxHeartbeats 4000000 in
theorem c_run (l : List Insn) (d : Data) (hd : d.wf) (A : Option Addr) (c : Nat) (ok : Nat → Prop) (w : World) (hrow : kInsn.Row w ok A l) (hchk : (checkL l).2 = 0) (hruns : Runs l (encB d) l.length 0 0) (hl : l.length ≤ 4096) :
    Calls Tryz.prog 107 #[.slice A l.length c, d.agg] w fun e w' => e = .returned (.tuple #[.int .u32 (runP l d), .int .i64 0]) ∧ Below w.heap.size w w' := by
  have hc := fun w ok => c_checkL A l c ok w
  have hT : checkT l = .tuple #[.int .i64 (checkL l).1, .int .i64 0] := by unfold checkT; rw [hchk]
  rw [hT] at hc
  have hrs := fun w => c_runs A l.length c d w
  obtain ⟨nr, arch, ip, a0, a1, a2, a3, a4, a5⟩ := d
  unfold Data.agg at *
  simp only at *
  refine (callsIn_wide (n := 3)).1 ?_
  have hro : Fence.wide.round = none := rfl
  refine callsIn_of_wp_marks Tryz.func107 rfl trivial ?_ hro
  simp only [Tryz.ntmps107, List.size_toArray, List.length_cons, List.length_nil, Nat.reduceAdd, Nat.reduceSub, Array.replicate_succ, Array.replicate_zero, List.push_toArray, List.append_toArray, List.nil_append, List.cons_append]
  have HRS := Lib.hid hrs
  have HC := Lib.hid hc
  have HRUNS := Lib.hid hruns
  have HCHK := Lib.hid hchk
  clear hrs hc hT hruns hchk
  gi_wp2_with fail
  refine ⟨trivial, ?_⟩
  refine (callsIn_wide.2 (HC.out _ _ (hrow.bel (below_al (Below.refl _ _) _)))).mono ?_
  rintro e w1 ⟨rfl, hB1⟩
  have hD1 := blk_bel hB1 (blk_new _ _)
  have k0 : w1.cell? ⟨w.heap.size, 0, none⟩ = some (.int .u32 nr) := blk_cell hD1 0
  have k1 : w1.cell? ⟨w.heap.size, 1, none⟩ = some (.int .u32 arch) := blk_cell hD1 1
  have k2 : w1.cell? ⟨w.heap.size, 2, none⟩ = some (.int .u64 ip) := blk_cell hD1 2
  have k3 : w1.cell? ⟨w.heap.size, 3, none⟩ = some (.int .u64 a0) := blk_cell hD1 3
  have k4 : w1.cell? ⟨w.heap.size, 4, none⟩ = some (.int .u64 a1) := blk_cell hD1 4
  have k5 : w1.cell? ⟨w.heap.size, 5, none⟩ = some (.int .u64 a2) := blk_cell hD1 5
  have k6 : w1.cell? ⟨w.heap.size, 6, none⟩ = some (.int .u64 a3) := blk_cell hD1 6
  have k7 : w1.cell? ⟨w.heap.size, 7, none⟩ = some (.int .u64 a4) := blk_cell hD1 7
  have k8 : w1.cell? ⟨w.heap.size, 8, none⟩ = some (.int .u64 a5) := blk_cell hD1 8
  have q0 := cell_al k0 (.cells #[.int .u32 0] 23)
  have q1 := cell_al k1 (.cells #[.int .u32 0] 23)
  have q2 := cell_al k2 (.cells #[.int .u32 0] 23)
  have q3 := cell_al k3 (.cells #[.int .u32 0] 23)
  have q4 := cell_al k4 (.cells #[.int .u32 0] 23)
  have q5 := cell_al k5 (.cells #[.int .u32 0] 23)
  have q6 := cell_al k6 (.cells #[.int .u32 0] 23)
  have q7 := cell_al k7 (.cells #[.int .u32 0] 23)
  have q8 := cell_al k8 (.cells #[.int .u32 0] 23)
  have HB1 := Lib.hid hB1
  clear hB1 hD1
  gi_wp2_with fail
  refine ⟨trivial, ?_⟩
  refine (callsIn_wide.2 (HRS.out _)).mono ?_
  rintro e w2 ⟨rfl, hp2, hd2, hB2⟩
  gi_wp2_with fail
  clear q0 q1 q2 q3 q4 q5 q6 q7 q8 k0 k1 k2 k3 k4 k5 k6 k7 k8
  rw [World.size_alloc] at hp2 hd2
  have hs2 := hB2.size
  rw [World.size_alloc] at hs2
  have hs1 := HB1.out.size
  rw [World.size_alloc] at hs1
  have hBw2 : Below w.heap.size w w2 := ((below_al (Below.refl _ _) _).trans (HB1.out.mono (by simp))).trans (((Below.refl _ _).alloc (by omega) _).trans (hB2.mono (by simp; omega)))
  have h8 : w2.heap[w1.heap.size]? = some (.cells #[.int .u32 0] 23) := blk_bel hB2 (blk_new _ _)
  refine wpIn_range_wide (α := Int × Int × Int) (by omega) (gf := 192) (lb := #[.pointer (some ⟨w1.heap.size + 1, 0, none⟩), .pointer (some ⟨w1.heap.size + 1 + 1, 0, none⟩)]) rfl (enters_of Tryz.func192 (by kernel_rfl) rfl)
    (encs := fun x => #[.agg (mc x.1 x.2.1), .int .u32 x.2.2]) (fun _ => rfl) w1.heap.size (by omega) (trace l (encB ⟨nr, arch, ip, a0, a1, a2, a3, a4, a5⟩) l.length 0 0)
    (fun l' J W hW hb8 hJ hY h0 => runs1_in 2 (by omega) l' l hl ⟨nr, arch, ip, a0, a1, a2, a3, a4, a5⟩ hd A c (w1.heap.size + 1) (w1.heap.size + 1 + 1) w1.heap.size J W hb8 (by omega) (by omega) (blk_bel hW hp2) (blk_bel hW hd2) ?row HRUNS.out hJ hY h0)
    (fun pre W => W.heap[w1.heap.size]? = some (.cells #[.int .u32 (lastW pre)] 23) ∧ Below w.heap.size w W)
    (fun s A' B' hs hB => ⟨(hB.block _ (by omega)).trans hs.1, hs.2.trans (hB.mono (by omega))⟩)
    ⟨h8, hBw2⟩
    (fun x => { tmps := #[.slice A l.length c, .agg #[.int .u32 nr, .int .u32 arch, .int .u64 ip, .int .u64 a0, .int .u64 a1, .int .u64 a2, .int .u64 a3, .int .u64 a4, .int .u64 a5], undef, .pointer (some ⟨w.heap.size, 0, none⟩), .int .u32 0, .int .i64 0, .int .i64 (checkL l).1, .int .i64 0, .pointer (some ⟨w1.heap.size, 0, none⟩), undef, .int .u32 x.2.2, .tuple #[.int .i64 (checkL l).1, .int .i64 0], .slice A l.length c, .tuple #[.int .i64 (checkL l).1, .int .i64 0], .int .i64 (checkL l).1, .int .i64 0, .int .i64 0, .bool false, undef, .slice A l.length c, .agg #[.int .u32 nr, .int .u32 arch, .int .u64 ip, .int .u64 a0, .int .u64 a1, .int .u64 a2, .int .u64 a3, .int .u64 a4, .int .u64 a5], .func (.func 192) #[] #[.pointer (some ⟨w1.heap.size + 1, 0, none⟩), .pointer (some ⟨w1.heap.size + 1 + 1, 0, none⟩)], .agg (mc x.1 x.2.1), .int .u32 x.2.2, undef, undef], defers := [] }) ?assign ?body ?done
  case row => exact (Kd.Row.mono (fun k hk => by have := hk.2; omega) (Kd.Row.bound hrow)).bel (hBw2.trans (hW.mono (by omega)))
  case assign =>
    intro l x W K hK
    gi_wp2
    exact hK
  case body =>
    rintro l' pre x W ⟨hc8, hB⟩
    have c8 := blk_cell hc8 0
    have f8 := blk_free hc8 0
    simp only [List.getElem?_toArray, List.getElem?_cons_zero] at c8
    gi_wp2
    refine ⟨KeepsOthers.setCell _ _ _, ⟨Nat.le_of_eq (World.size_setCell ..).symm, fun k cs t f hk h => blk_far h hk _⟩, ?_, hB.setCell (p := ⟨w1.heap.size, 0, none⟩) (by simp; omega) _⟩
    refine (blk_set (j := 0) hc8 _).trans ?_
    rw [lastW_snoc]
    rfl
  case done =>
    rintro D W hD ⟨hc8, hB⟩ hK
    have c8 := blk_cell hc8 0
    simp only [List.getElem?_toArray, List.getElem?_cons_zero] at c8
    gi_wp2
    refine ⟨by simp, .inl ⟨_, _, rfl, run_takeDeferred hK, ?_⟩⟩
    exact ⟨_, results_tmp2 rfl _ _ _, rfl, hB.trans (below_putE _ _ _ (by omega) hK)⟩
end Go.Proofs.YtbojjjiggppnaaaGreat
