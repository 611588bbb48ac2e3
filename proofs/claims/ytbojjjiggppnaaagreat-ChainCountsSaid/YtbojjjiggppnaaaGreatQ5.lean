/- The walk of the law's copied: a pool in memory of its own. -/
import Derived.Test.YtbojjjiggppnaaaGreatQ1
namespace Go.Proofs.YtbojjjiggppnaaaGreat
open Go.RowKit Go.Shelf
set_option linter.unusedVariables false
set_option linter.unusedSimpArgs false

/-- The copy that grows, in its box. -/
structure CopSt (b : Nat) (W1 w : World) (v : Value) (zs : List Node) : Prop where
  box : w.heap[b]? = some (.cells #[v] 31)
  own : kNode.Own 65 w (b + 1) (fun q => b + 1 ≤ q) v zs
  bel : Below b W1 w
theorem CopSt.on {b : Nat} {W1 w W : World} {v : Value} {zs : List Node} (h : CopSt b W1 w v zs) (hb : Below w.heap.size w W) : CopSt b W1 W v zs :=
  ⟨blk_bel hb h.box, h.own.bel hb, h.bel.trans (hb.mono (by have := blk_lt h.box; omega))⟩
theorem CopSt.push {b : Nat} {W1 w W w3 : World} {v v1 : Value} {zs zs' : List Node} (h : CopSt b W1 w v zs) (hW : Below w.heap.size w W) (hg : W.grownBy w3 v.ownBlock) (hO : kNode.Own 65 w3 (b + 1) (fun q => b + 1 ≤ q) v1 zs') :
    (w3.heap[b]? = some (.cells #[v] 31)) ∧ CopSt b W1 (w3.setCell ⟨b, 0, none⟩ v1) v1 zs' ∧ Below b W1 w3 := by
  have hlt := blk_lt h.box
  have hb : Below (b + 1) w w3 := (hW.mono (by omega)).grown hg (by have := hW.size; omega) (fun k hk => h.own.le k hk)
  have hbox := (hb.block b (by omega)).trans h.box
  have hB3 : Below b W1 w3 := h.bel.trans (hb.mono (by omega))
  exact ⟨hbox, ⟨blk_set (j := 0) hbox v1, hO.far (p := ⟨b, 0, none⟩) (fun k hk e => by simp only at e; omega) v1, hB3.setCell (p := ⟨b, 0, none⟩) (Nat.le_refl _) _⟩, hB3⟩
theorem infoInsnC : (Tryz.prog.info? 141).map (fun i => (i.zero, i.size, i.bytes)) = some (some (.agg #[.int .u16 0, .int .u8 0, .int .u8 0, .int .u32 0]), 4, 8) := by kernel_rfl
set_option maxRecDepth 100000 in
set_option maxHeartbeats 8000000 in
theorem c_copied (xs : List Node) (c : Nat) (A : Option Addr) (ok : Nat → Prop) (w : World) (hC : kNode.Row w ok A xs) (hl : xs.length ≤ 60) (hpr : ∀ x ∈ xs, x.program.length ≤ 100) :
    Calls Tryz.prog 30 #[.agg #[.slice A xs.length c]] w fun e w' => ∃ v, e = .returned (.agg #[v]) ∧ kPool.K w' (fun q => w.heap.size ≤ q) ⟨xs⟩ [v] ∧ Below w.heap.size w w' := by
  obtain ⟨n, hn⟩ : ∃ n, w.heap.size = n := ⟨_, rfl⟩
  have hxn := hC.1
  obtain ⟨W1, hW1⟩ : ∃ W, W = (((w.alloc (.cells #[.slice A xs.length c] 31)).alloc (.cells #[.slice none 0 0] 31)).alloc (.cells #[.slice none 0 0] 31)) := ⟨_, rfl⟩
  have hB1 : Below w.heap.size w W1 := by rw [hW1]; exact below_al (below_al (below_al (Below.refl _ _) _) _) _
  have f1 : W1.heap[n]? = some (.cells #[.slice A xs.length c] 31) := by rw [hW1, ← hn]; exact blk_al (blk_al (blk_new _ _) _) _
  have f2 : W1.heap[n + 1]? = some (.cells #[.slice none 0 0] 31) := by
    have h := blk_new (w.alloc (.cells #[.slice A xs.length c] 31)) (.cells #[.slice none 0 0] 31)
    rw [World.size_alloc, hn] at h
    rw [hW1]
    exact blk_al h _
  have f3 : W1.heap[n + 1 + 1]? = some (.cells #[.slice none 0 0] 31) := by
    have h := blk_new ((w.alloc (.cells #[.slice A xs.length c] 31)).alloc (.cells #[.slice none 0 0] 31)) (.cells #[.slice none 0 0] 31)
    rw [World.size_alloc, World.size_alloc, hn] at h
    rw [hW1]
    exact h
  have hRow := hC.bound.bel hB1
  rw [hn] at hRow
  have HB1 := Lib.hid hB1
  have F3 := Lib.hid f3
  have F2 := Lib.hid f2
  have F1 := Lib.hid f1
  have HN := Lib.hid hn
  have HROW := Lib.hid hRow
  have HPR := Lib.hid hpr
  clear hC hRow f1 f2 f3 hB1 hpr
  rw [hW1] at HB1 F3 F1 F2 HROW
  clear hW1 W1
  go_enter Tryz.func30, Tryz.ntmps30
  go_upto_region 2 with fail
  generalize (((w.alloc (.cells #[.slice A xs.length c] 31)).alloc (.cells #[.slice none 0 0] 31)).alloc (.cells #[.slice none 0 0] 31)) = W1 at *
  clear hn
  have p0 : W1.cell? ⟨n, 0, none⟩ = some (.slice A xs.length c) := blk_cell F1.out 0
  go_wp2_with fail
  clear p0
  have HST : Hid (CopSt (n + 1 + 1) W1 W1 (.slice none 0 0) []) := ⟨F3.out, Kd.Own.nil _ _ _ _ _, Below.refl _ _⟩
  go_loopw [5, 9] (fun _ i wr => ∃ (k : Nat) (zs : List Node) (v : Value), k ≤ xs.length ∧ i = .int .i64 k ∧ Hid (zs = xs.take k) ∧ zs.length ≤ k ∧ Hid (CopSt (n + 1 + 1) W1 wr v zs)) (fun _ i _ => xs.length - (intOf i).toNat)
  case atStart => exact ⟨0, [], .slice none 0 0, Nat.zero_le _, rfl, rfl, by simp, HST.out⟩
  case round =>
    obtain ⟨k, zs, v, hk, rfl, hzs, hzl, hS⟩ := hrel
    obtain ⟨Av, cv, hvf, hvl, hvc⟩ := hS.out.own.form
    subst hvf
    by_cases hlt : k < xs.length
    · obtain ⟨ad, A2, c2, rfl, hok, ⟨g0, g1, g2, g3, g4, g5, g6⟩, e0', e1', e2', e3', e4', e5', e6'⟩ := kNode.at_ HROW.out hlt
      have hk0 : (0 : Int) ≤ (k : Int) := by omega
      have hk1 : (k : Int) < (xs.length : Int) := by omega
      have HZ2 : Hid (zs ++ [xs[k]] = xs.take (k + 1)) := by rw [hzs.out, ← List.take_append_getElem hlt]; exact rfl
      have hprk := HPR.out _ (List.getElem_mem hlt)
      have hx := hS.out.bel.block (ad.add (k * 7)).block (by rw [Kd.add_block]; have := hok.2; omega)
      have hc : ∀ (o : Nat) v, W1.cell? ⟨(ad.add (k * 7)).block, o, none⟩ = some v → wr.cell? ⟨(ad.add (k * 7)).block, o, none⟩ = some v := fun o v hv => (World.cell?_of_block (a := ⟨(ad.add (k * 7)).block, o, none⟩) hx).trans hv
      have e0 := (World.cell?_of_block hx).trans e0'
      have e1 := hc _ _ e1'
      have e2 := hc _ _ e2'
      have e3 := hc _ _ e3'
      have e4 := hc _ _ e4'
      have e5 := hc _ _ e5'
      have e6 := hc _ _ e6'
      have HPROG : Hid (kInsn.Row wr (fun q => ok q ∧ q < n) A2 xs[k].program) := Kd.Row.move g2.2.2 (fun q hq _ => hS.out.bel.block q (by omega))
      have hq2 := g2.2.2.1
      clear e0' e1' e2' e3' e4' e5' e6' hc hx g2 hzs
      generalize xs[k] = x at *
      obtain ⟨m, hm⟩ : ∃ m, wr.heap.size = m := ⟨_, rfl⟩
      have F4 : Hid ((wr.alloc (.cells #[.int .i64 x.id, .int .i64 x.parent, .slice A2 x.program.length c2, .int .i64 x.size, .int .i64 x.count, .int .u64 x.one, .int .u64 x.two] 65)).heap[m]? = some (.cells #[.int .i64 x.id, .int .i64 x.parent, .slice A2 x.program.length c2, .int .i64 x.size, .int .i64 x.count, .int .u64 x.one, .int .u64 x.two] 65)) := by rw [← hm]; exact blk_new _ _
      have HS3 : Hid (CopSt (n + 1 + 1) W1 (wr.alloc (.cells #[.int .i64 x.id, .int .i64 x.parent, .slice A2 x.program.length c2, .int .i64 x.size, .int .i64 x.count, .int .u64 x.one, .int .u64 x.two] 65)) (.slice Av zs.length cv) zs) := hS.out.on (below_al (Below.refl _ _) _)
      have HP3 := Lib.hid (HPROG.out.bel (below_al (Below.refl _ _) (.cells #[.int .i64 x.id, .int .i64 x.parent, .slice A2 x.program.length c2, .int .i64 x.size, .int .i64 x.count, .int .u64 x.one, .int .u64 x.two] 65)))
      have HZ3 : Hid ((wr.alloc (.cells #[.int .i64 x.id, .int .i64 x.parent, .slice A2 x.program.length c2, .int .i64 x.size, .int .i64 x.count, .int .u64 x.one, .int .u64 x.two] 65)).heap.size = m + 1) := by simp [Hid, hm]
      have HGL : Hid (∀ q, (Value.slice Av zs.length cv).ownBlock = some q → q < m) := fun q hq => by have := hS.out.own.lt_ q hq; omega
      have hob := hS.out.own.bound
      rw [hm] at hob
      have HOB := Lib.hid (hob.al (.cells #[.int .i64 x.id, .int .i64 x.parent, .slice A2 x.program.length c2, .int .i64 x.size, .int .i64 x.count, .int .u64 x.one, .int .u64 x.two] 65))
      clear hob
      have hbm : n + 1 + 1 < m := by have := blk_lt hS.out.box; omega
      go_upto_region 5 with fail
      generalize (wr.alloc (.cells #[.int .i64 x.id, .int .i64 x.parent, .slice A2 x.program.length c2, .int .i64 x.size, .int .i64 x.count, .int .u64 x.one, .int .u64 x.two] 65)) = W3 at *
      clear hm e0 e1 e2 e3 e4 e5 e6 hS HPROG
      have z2 : W3.cell? ⟨m, 2, none⟩ = some (.slice A2 x.program.length c2) := blk_cell F4.out 2
      have hE0 : kInsn.Own 141 (W3.alloc (.cells #[] 141)) (m + 1) (fun q => m + 1 ≤ q) (.slice (some ⟨m + 1, 0, none⟩) 0 0) [] := own_empty kInsn 141 W3 (m + 1) (fun q => m + 1 ≤ q) (m + 1) HZ3.out (Nat.le_refl _) (Nat.le_refl _)
      have hRP := HP3.out.bel (below_al (Below.refl _ _) (.cells #[] 141))
      have hne0 : ∀ (y : Insn) (ds : List Value), kInsn.K (W3.alloc (.cells #[] 141)) (fun q => ok q ∧ q < n) y ds → kInsn.K (W3.alloc (.cells #[] 141)) (fun q => m + 1 ≤ q ∧ some q ≠ (Value.slice (some ⟨m + 1, 0, none⟩) 0 0).ownBlock) y ds := fun _ _ h => h
      have hz3 := HZ3.out
      go_upto_region 6 with (first | (at_builtin; refine wp_append_kd (d := kInsn) (base := m + 1) rfl _ _ 38 141 _ 8 rfl Tryz.underlying38 infoInsnC rfl (.slice (some ⟨m + 1, 0, none⟩) 0 0) [] A2 x.program.length c2 x.program rfl rfl hE0 rfl hRP hne0 (by unfold maxLen; simp; omega) (by simp; omega) (by rw [World.size_alloc]; omega) (fun q hq => by rw [World.size_alloc] at hq; omega) ?_; intro v1 w5 hO5 hg5 hat5; rw [List.nil_append] at hO5; obtain ⟨A5, c5, hv5, hl5, hm5⟩ := hO5.form; subst hv5; have hB5 : Below (m + 1) W3 w5 := ((below_al (Below.refl W3.heap.size W3) (.cells #[] 141)).mono (by omega)).grown hg5 (by rw [World.size_alloc]; omega) (fun q hq => by simp only [Value.ownBlock, Option.some.injEq] at hq; omega); have b5 := (hB5.block m (by omega)).trans F4.out; have q5 : w5.cell? ⟨m, 2, none⟩ = some (.slice A2 x.program.length c2) := blk_cell b5 2; have f5 : w5.frozen? ⟨m, 2, none⟩ = false := blk_free b5 2))
      have HX6 : Hid ((w5.setCell ⟨m, 2, none⟩ (.slice A5 x.program.length c5)).heap[m]? = some (.cells #[.int .i64 x.id, .int .i64 x.parent, .slice A5 x.program.length c5, .int .i64 x.size, .int .i64 x.count, .int .u64 x.one, .int .u64 x.two] 65)) := blk_set (j := 2) b5 _
      have HS6 : Hid (CopSt (n + 1 + 1) W1 (w5.setCell ⟨m, 2, none⟩ (.slice A5 x.program.length c5)) (.slice Av zs.length cv) zs) := by
        refine ⟨blk_far ((hB5.block _ (by omega)).trans HS3.out.box) (by simp only; omega) _, ?_, (HS3.out.bel.trans (hB5.mono (by omega))).setCell (p := ⟨m, 2, none⟩) (by simp only; omega) _⟩
        exact Kd.Own.mono (fun q hq => hq.1) ((Kd.Own.move HOB.out (fun q hq _ => hB5.block q (by omega))).far (p := ⟨m, 2, none⟩) (fun q hq e => by simp only at e; omega) _)
      have HK6 : Hid (kNode.K (w5.setCell ⟨m, 2, none⟩ (.slice A5 x.program.length c5)) (fun q => m + 1 ≤ q) x [.int .i64 x.id, .int .i64 x.parent, .slice A5 x.program.length c5, .int .i64 x.size, .int .i64 x.count, .int .u64 x.one, .int .u64 x.two]) := by
        have hk5 := hO5.K
        obtain ⟨A', c', e1, l1, l2, r1⟩ := hk5
        simp only [List.cons.injEq, Value.slice.injEq, true_and, and_true] at e1
        obtain ⟨rfl, rfl⟩ := e1
        exact kNode.mk g0 g1 ⟨l1, l2, Kd.Row.move r1 (fun q hq _ => Below.heap_setCell _ _ _ q (by simp only; omega))⟩ g3 g4 g5 g6
      have HZ6 : Hid (m + 1 ≤ (w5.setCell ⟨m, 2, none⟩ (.slice A5 x.program.length c5)).heap.size) := by have h := blk_lt HX6.out; exact h
      clear hB5 b5 q5 f5 hO5 hg5 hat5 hl5 hm5 hE0 hRP hne0 z2 HS3 HP3 F4 HZ3 hz3
      generalize (w5.setCell ⟨m, 2, none⟩ (.slice A5 x.program.length c5)) = W6 at *
      have b0 : W6.cell? ⟨n + 1 + 1, 0, none⟩ = some (.slice Av zs.length cv) := blk_cell HS6.out.box 0
      have y0 : W6.cell? ⟨m, 0, none⟩ = some (.int .i64 x.id) := blk_cell HX6.out 0
      have y1 : W6.cell? ⟨m, 1, none⟩ = some (.int .i64 x.parent) := blk_cell HX6.out 1
      have y2 : W6.cell? ⟨m, 2, none⟩ = some (.slice A5 x.program.length c5) := blk_cell HX6.out 2
      have y3 : W6.cell? ⟨m, 3, none⟩ = some (.int .i64 x.size) := blk_cell HX6.out 3
      have y4 : W6.cell? ⟨m, 4, none⟩ = some (.int .i64 x.count) := blk_cell HX6.out 4
      have y5 : W6.cell? ⟨m, 5, none⟩ = some (.int .u64 x.one) := blk_cell HX6.out 5
      have y6 : W6.cell? ⟨m, 6, none⟩ = some (.int .u64 x.two) := blk_cell HX6.out 6
      obtain ⟨s1, hs1⟩ : ∃ s, W6.heap.size = s := ⟨_, rfl⟩
      have hms : m + 1 ≤ s1 := by have := HZ6.out; omega
      have hlit := lit_node hs1 (Kd.bound (d := kNode) HK6.out) (fun q hq => by have := hq.2; omega)
      have hne : ∀ (y : Node) (ds : List Value), kNode.K (W6.alloc (.cells #[.int .i64 x.id, .int .i64 x.parent, .slice A5 x.program.length c5, .int .i64 x.size, .int .i64 x.count, .int .u64 x.one, .int .u64 x.two] 65)) (fun q => (m + 1 ≤ q ∧ q < W6.heap.size) ∨ q = s1) y ds → kNode.K (W6.alloc (.cells #[.int .i64 x.id, .int .i64 x.parent, .slice A5 x.program.length c5, .int .i64 x.size, .int .i64 x.count, .int .u64 x.one, .int .u64 x.two] 65)) (fun q => n + 1 + 1 + 1 ≤ q ∧ some q ≠ (Value.slice Av zs.length cv).ownBlock) y ds := fun y ds hy => by
        refine kNode.mono (fun q hq => ?_) hy
        rcases hq with hq | hq
        · exact ⟨by omega, fun e => by have := HGL.out q e.symm; omega⟩
        · exact ⟨by omega, fun e => by have := HGL.out q e.symm; omega⟩
      have hO' := HS6.out.own.al (.cells #[.int .i64 x.id, .int .i64 x.parent, .slice A5 x.program.length c5, .int .i64 x.size, .int .i64 x.count, .int .u64 x.one, .int .u64 x.two] 65)
      have hle1 : (zs ++ [x]).length = zs.length + 1 := by simp
      have hsz6 : (W6.alloc (.cells #[.int .i64 x.id, .int .i64 x.parent, .slice A5 x.program.length c5, .int .i64 x.size, .int .i64 x.count, .int .u64 x.one, .int .u64 x.two] 65)).heap.size = s1 + 1 := by rw [World.size_alloc, hs1]
      clear g0 g1 g3 g4 g5 g6
      go_upto_region 7 with (first | (at_builtin; refine wp_append_kd (d := kNode) (base := n + 1 + 1 + 1) rfl _ _ 29 65 _ 72 rfl Tryz.underlying29 infoNode rfl (.slice Av zs.length cv) zs (some ⟨s1, 0, none⟩) 1 1 [x] rfl rfl hO' rfl hlit hne (by unfold maxLen; omega) (by omega) (by rw [hsz6]; omega) (fun q hq => by rw [hsz6] at hq; omega) ?_; intro v1 w7 hO7 hg7 hat7; obtain ⟨A7, c7, hv7, hl7, hm7⟩ := hO7.form; rw [hle1] at hv7; subst hv7; have hP := HS6.out.push (below_al (Below.refl _ _) _) hg7 hO7; have q7 : w7.cell? ⟨n + 1 + 1, 0, none⟩ = some (.slice Av zs.length cv) := blk_cell hP.1 0; have f7 : w7.frozen? ⟨n + 1 + 1, 0, none⟩ = false := blk_free hP.1 0))
      have HS8 := Lib.hid hP.2.1
      clear hP q7 f7 hO7 hg7 hat7 hlit hne hO' b0 y0 y1 y2 y3 y4 y5 y6 hs1 hms hsz6
      go_wp2_with fail
      go_roundw
      case rel => exact ⟨k + 1, zs ++ [x], _, by omega, by go_num, HZ2.out, by omega, HS8.out⟩
      case measure => simp [intOf]; omega
    · obtain rfl : k = xs.length := by omega
      have hz := hzs.out
      rw [List.take_length] at hz
      subst hz
      have b0 : wr.cell? ⟨n + 1 + 1, 0, none⟩ = some (.slice Av zs.length cv) := blk_cell hS.out.box 0
      have HR3 : Hid (wr.heap[n + 1]? = some (.cells #[.slice none 0 0] 31)) := (hS.out.bel.block (n + 1) (by omega)).trans F2.out
      have HBW : Hid (Below w.heap.size w wr) := by rw [HN.out]; have h1 := HB1.out; rw [HN.out] at h1; exact h1.trans (hS.out.bel.mono (by omega))
      go_upto_region 8 with fail
      go_wp2_with (first | (refine wpList_store_row (w := wr) rfl _ _ _ rfl (n + 1) #[.slice Av zs.length cv] rfl rfl _ _ HR3.out (by kernel_rfl) (by rfl) (by kernel_rfl) ?_; intro W6 hW6))
      refine bodyPost_ret (results_cell_row rfl _ _ (n + 1) _ #[.slice Av zs.length cv] _ _ rfl hW6.here Tryz.underlying31 rfl (by kernel_rfl)) rfl ?_
      refine ⟨_, rfl, ?_, HBW.out.trans (hW6.bel.mono (by rw [HN.out]; omega))⟩
      exact kPool.mono (fun q hq => by rw [HN.out]; omega) (Kd.move (d := kPool) (w := wr) (ok := fun q => n + 1 + 1 + 1 ≤ q) (x := ⟨zs⟩) (hS.out.own.K) (fun k hk _ => hW6.far k (by omega)))
end Go.Proofs.YtbojjjiggppnaaaGreat
