/- The walk of the reference's put. -/
import Derived.Test.YtbojjjiggppnaaaGreatO3
import Derived.Test.YtbojjjiggppnaaaGreatH0
import Derived.Deep.RegionLaw
import Derived.Shelf.RegionOpenPlain
import Derived.Deep.Cut
namespace Go.Proofs.YtbojjjiggppnaaaGreat
open Go.RowKit Go.Shelf
set_option linter.unusedVariables false
set_option linter.unusedSimpArgs false

/-- The cells of a filter, in a block of its own. -/
theorem lit_node {w : World} {s : Nat} (hs : w.heap.size = s) {ok : Nat → Prop} {x : Node} {cs : List Value} (hK : kNode.K w ok x cs) (hb : ∀ q, ok q → q < s) : kNode.Row (w.alloc (.cells cs.toArray 65)) (fun q => ok q ∨ q = s) (some ⟨s, 0, none⟩) [x] := by
  subst hs
  exact (own_row (Kd.Own.lit (d := kNode) (w := w) (e := 65) (base := 0) (ok := fun q => ok q ∨ q = w.heap.size) (n := 1) (xs := [x]) (cells := cs) rfl (Kd.Reps.single (kNode.mono (fun q hq => .inl hq) hK)) (Nat.zero_le _) (by unfold maxLen; simp) (.inr rfl))).2.2
/-- The pool that grows, in its box. -/
structure PutSt (n : Nat) (ok : Nat → Prop) (W1 w : World) (v : Value) (zs : List Node) : Prop where
  box : w.heap[n + 3]? = some (.cells #[v] 31)
  own : kNode.Own 65 w (n + 4) (fun q => (ok q ∧ q < n) ∨ n + 4 ≤ q) v zs
  bel : Below (n + 3) W1 w
theorem PutSt.on {n : Nat} {ok : Nat → Prop} {W1 w W : World} {v : Value} {zs : List Node} (h : PutSt n ok W1 w v zs) (hb : Below w.heap.size w W) : PutSt n ok W1 W v zs :=
  ⟨blk_bel hb h.box, h.own.bel hb, h.bel.trans (hb.mono (by have := blk_lt h.box; omega))⟩
theorem PutSt.push {n : Nat} {ok : Nat → Prop} {W1 w W w3 : World} {v v1 : Value} {zs zs' : List Node} (h : PutSt n ok W1 w v zs) (hW : Below w.heap.size w W) (hg : W.grownBy w3 v.ownBlock) (hO : kNode.Own 65 w3 (n + 4) (fun q => (ok q ∧ q < n) ∨ n + 4 ≤ q) v1 zs') :
    (w3.heap[n + 3]? = some (.cells #[v] 31)) ∧ PutSt n ok W1 (w3.setCell ⟨n + 3, 0, none⟩ v1) v1 zs' ∧ Below (n + 3) W1 w3 := by
  have hlt := blk_lt h.box
  have hb : Below (n + 4) w w3 := (hW.mono (by omega)).grown hg (by have := hW.size; omega) (fun k hk => h.own.le k hk)
  have hbox := (hb.block (n + 3) (by omega)).trans h.box
  have hB3 : Below (n + 3) W1 w3 := h.bel.trans (hb.mono (by omega))
  exact ⟨hbox, ⟨blk_set (j := 0) hbox v1, hO.far (p := ⟨n + 3, 0, none⟩) (fun k hk e => by simp only at e; omega) v1, hB3.setCell (p := ⟨n + 3, 0, none⟩) (Nat.le_refl _) _⟩, hB3⟩
theorem PutSt.lit {n : Nat} {ok : Nat → Prop} {W1 w W : World} {v : Value} {zs : List Node} (h : PutSt n ok W1 w v zs) (hs : w.heap.size = W.heap.size) (x : Node) (cs : List Value) (hK : kNode.K W (fun q => ok q ∧ q < n) x cs) :
    ∀ (y : Node) (ds : List Value), kNode.K (W.alloc (.cells cs.toArray 65)) (fun q => (ok q ∧ q < n) ∨ q = w.heap.size) y ds → kNode.K (W.alloc (.cells cs.toArray 65)) (fun q => ((ok q ∧ q < n) ∨ n + 4 ≤ q) ∧ some q ≠ v.ownBlock) y ds := fun y ds hy => by
  have hlt := blk_lt h.box
  refine kNode.mono (fun q hq => ?_) hy
  rcases hq with hq | hq
  · exact ⟨.inl hq, fun e => by have := h.own.le q e.symm; omega⟩
  · subst hq
    exact ⟨.inr (by omega), fun e => by have := h.own.lt_ _ e.symm; omega⟩
set_option maxRecDepth 100000 in
set_option maxHeartbeats 8000000 in
theorem c_put (xs : List Node) (c : Nat) (A : Option Addr) (nd : Node) (ok : Nat → Prop) (cs : List Value) (w : World) (hC : kNode.Row w ok A xs) (hl : xs.length ≤ 1000) (hK : kNode.K w ok nd cs) :
    Calls Tryz.prog 97 #[.agg #[.slice A xs.length c], .agg cs.toArray] w fun e w' => ∃ v, e = .returned (.agg #[v]) ∧ kPool.K w' (fun q => ok q ∨ w.heap.size ≤ q) ⟨putN xs nd⟩ [v] ∧ Below w.heap.size w w' := by
  obtain ⟨A2, c2, rfl, g0, g1, g2, g3, g4, g5, g6⟩ := kNode.opn hK
  obtain ⟨n, hn⟩ : ∃ n, w.heap.size = n := ⟨_, rfl⟩
  have hxn := hC.1
  have hq2 := g2.2.2.1
  obtain ⟨W1, hW1⟩ : ∃ W, W = ((((w.alloc (.cells #[.slice A xs.length c] 31)).alloc (.cells #[.int .i64 nd.id, .int .i64 nd.parent, .slice A2 nd.program.length c2, .int .i64 nd.size, .int .i64 nd.count, .int .u64 nd.one, .int .u64 nd.two] 65)).alloc (.cells #[.slice none 0 0] 31)).alloc (.cells #[.slice none 0 0] 31)) := ⟨_, rfl⟩
  have hB1 : Below w.heap.size w W1 := by rw [hW1]; exact below_al (below_al (below_al (below_al (Below.refl _ _) _) _) _) _
  have hs1 : W1.heap.size = n + 4 := by rw [hW1]; simp [hn]
  have f1 : W1.heap[n]? = some (.cells #[.slice A xs.length c] 31) := by rw [hW1, ← hn]; exact blk_al (blk_al (blk_al (blk_new _ _) _) _) _
  have f2 : W1.heap[n + 1]? = some (.cells #[.int .i64 nd.id, .int .i64 nd.parent, .slice A2 nd.program.length c2, .int .i64 nd.size, .int .i64 nd.count, .int .u64 nd.one, .int .u64 nd.two] 65) := by
    have h := blk_new (w.alloc (.cells #[.slice A xs.length c] 31)) (.cells #[.int .i64 nd.id, .int .i64 nd.parent, .slice A2 nd.program.length c2, .int .i64 nd.size, .int .i64 nd.count, .int .u64 nd.one, .int .u64 nd.two] 65)
    rw [World.size_alloc, hn] at h
    rw [hW1]
    exact blk_al (blk_al h _) _
  have f3 : W1.heap[n + 2]? = some (.cells #[.slice none 0 0] 31) := by
    have h := blk_new ((w.alloc (.cells #[.slice A xs.length c] 31)).alloc (.cells #[.int .i64 nd.id, .int .i64 nd.parent, .slice A2 nd.program.length c2, .int .i64 nd.size, .int .i64 nd.count, .int .u64 nd.one, .int .u64 nd.two] 65)) (.cells #[.slice none 0 0] 31)
    rw [World.size_alloc, World.size_alloc, hn] at h
    rw [hW1]
    exact blk_al h _
  have f4 : W1.heap[n + 3]? = some (.cells #[.slice none 0 0] 31) := by
    have h := blk_new (((w.alloc (.cells #[.slice A xs.length c] 31)).alloc (.cells #[.int .i64 nd.id, .int .i64 nd.parent, .slice A2 nd.program.length c2, .int .i64 nd.size, .int .i64 nd.count, .int .u64 nd.one, .int .u64 nd.two] 65)).alloc (.cells #[.slice none 0 0] 31)) (.cells #[.slice none 0 0] 31)
    rw [World.size_alloc, World.size_alloc, World.size_alloc, hn] at h
    rw [hW1]
    exact h
  have hRow := hC.bound.bel hB1
  have hKn := kNode.bel (Kd.bound (d := kNode) hK) hB1
  rw [hn] at hRow hKn
  have HS1 := Lib.hid hs1
  have HB1 := Lib.hid hB1
  have F4 := Lib.hid f4
  have F3 := Lib.hid f3
  have F2 := Lib.hid f2
  have F1 := Lib.hid f1
  have HN := Lib.hid hn
  have HROW := Lib.hid hRow
  have HKN := Lib.hid hKn
  clear hC hRow hK hKn f1 f2 f3 f4 hs1 hB1 g2
  rw [hW1] at HS1 HB1 F3 F1 F4 F2 HROW HKN
  clear hW1 W1
  go_enter Tryz.func97, Tryz.ntmps97
  go_upto_region 2 with fail
  generalize ((((w.alloc (.cells #[.slice A xs.length c] 31)).alloc (.cells #[.int .i64 nd.id, .int .i64 nd.parent, .slice A2 nd.program.length c2, .int .i64 nd.size, .int .i64 nd.count, .int .u64 nd.one, .int .u64 nd.two] 65)).alloc (.cells #[.slice none 0 0] 31)).alloc (.cells #[.slice none 0 0] 31)) = W1 at *
  clear hn
  have z4 : W1.cell? ⟨n + 1, 4, none⟩ = some (.int .i64 nd.count) := blk_cell F2.out 4
  go_wp2_with fail
  clear z4
  have HST : Hid (PutSt n ok W1 W1 (.slice none 0 0) []) := ⟨F4.out, Kd.Own.nil _ _ _ _ _, Below.refl _ _⟩
  go_loopw [6, 7] (fun dn i wr => ∃ (k : Nat) (dv : Bool) (zs : List Node) (v : Value), k ≤ xs.length ∧ i = .int .i64 k ∧ dn = .bool dv ∧ zs.length ≤ k + 1 ∧ (dv = false → zs.length ≤ k) ∧ Hid (putN xs nd = zs ++ putF nd dv (xs.drop k)) ∧ Hid (PutSt n ok W1 wr v zs)) (fun _ i _ => xs.length - (intOf i).toNat)
  case atStart => exact ⟨0, nd.count == 0, [], .slice none 0 0, Nat.zero_le _, rfl, rfl, by simp, fun _ => by simp, by simp [Hid, putN], HST.out⟩
  case round =>
    obtain ⟨k, dv, zs, v, hk, rfl, rfl, hzl, hzf, hput, hS⟩ := hrel
    obtain ⟨Av, cv, rfl, hvl, hvc⟩ := hS.out.own.form
    by_cases hlt : k < xs.length
    · obtain ⟨ad, A3, c3, rfl, hok, ⟨h0, h1, h2, h3, h4, h5, h6⟩, e0, e1, e2, e3, e4, e5, e6⟩ := kNode.at_ HROW.out hlt
      have HKX := Lib.hid (kNode.mk (x := xs[k]) h0 h1 h2 h3 h4 h5 h6)
      have hq3 := h2.2.2.1
      have hk0 : (0 : Int) ≤ (k : Int) := by omega
      have hk1 : (k : Int) < (xs.length : Int) := by omega
      have HSTEP : Hid (putF nd dv (xs.drop k) = if dv = false ∧ nd.id ≤ xs[k].id then nd :: (if xs[k].id ≠ nd.id then xs[k] :: putF nd true (xs.drop (k + 1)) else putF nd true (xs.drop (k + 1))) else if xs[k].id ≠ nd.id then xs[k] :: putF nd dv (xs.drop (k + 1)) else putF nd dv (xs.drop (k + 1))) := by
        rw [List.drop_eq_getElem_cons hlt]
        exact rfl
      clear h0 h1 h2 h3 h4 h5 h6
      generalize xs[k] = x at *
      have HCELLS : Hid (∀ W : World, Below (n + 3) W1 W → W.cell? ⟨n, 0, none⟩ = some (.slice (some ad) xs.length c) ∧ W.cell? ⟨n + 1, 0, none⟩ = some (.int .i64 nd.id) ∧ W.cell? ⟨n + 1, 1, none⟩ = some (.int .i64 nd.parent) ∧ W.cell? ⟨n + 1, 2, none⟩ = some (.slice A2 nd.program.length c2) ∧ W.cell? ⟨n + 1, 3, none⟩ = some (.int .i64 nd.size) ∧ W.cell? ⟨n + 1, 4, none⟩ = some (.int .i64 nd.count) ∧ W.cell? ⟨n + 1, 5, none⟩ = some (.int .u64 nd.one) ∧ W.cell? ⟨n + 1, 6, none⟩ = some (.int .u64 nd.two) ∧
        W.cell? (ad.add (k * 7)) = some (.int .i64 x.id) ∧ W.cell? ⟨(ad.add (k * 7)).block, (ad.add (k * 7)).off + 1, none⟩ = some (.int .i64 x.parent) ∧ W.cell? ⟨(ad.add (k * 7)).block, (ad.add (k * 7)).off + 2, none⟩ = some (.slice A3 x.program.length c3) ∧ W.cell? ⟨(ad.add (k * 7)).block, (ad.add (k * 7)).off + 3, none⟩ = some (.int .i64 x.size) ∧ W.cell? ⟨(ad.add (k * 7)).block, (ad.add (k * 7)).off + 4, none⟩ = some (.int .i64 x.count) ∧ W.cell? ⟨(ad.add (k * 7)).block, (ad.add (k * 7)).off + 5, none⟩ = some (.int .u64 x.one) ∧ W.cell? ⟨(ad.add (k * 7)).block, (ad.add (k * 7)).off + 6, none⟩ = some (.int .u64 x.two)) := fun W h => by
        have hold : ∀ q, q < n + 3 → W.heap[q]? = W1.heap[q]? := fun q hq => h.block q hq
        have hx := hold (ad.add (k * 7)).block (by rw [Kd.add_block]; have := hok.2; omega)
        have hc : ∀ (o : Nat) v, W1.cell? ⟨(ad.add (k * 7)).block, o, none⟩ = some v → W.cell? ⟨(ad.add (k * 7)).block, o, none⟩ = some v := fun o v hv => (World.cell?_of_block (a := ⟨(ad.add (k * 7)).block, o, none⟩) hx).trans hv
        have b1 := (hold (n + 1) (by omega)).trans F2.out
        exact ⟨blk_cell ((hold n (by omega)).trans F1.out) 0, blk_cell b1 0, blk_cell b1 1, blk_cell b1 2, blk_cell b1 3, blk_cell b1 4, blk_cell b1 5, blk_cell b1 6, (World.cell?_of_block hx).trans e0, hc _ _ e1, hc _ _ e2, hc _ _ e3, hc _ _ e4, hc _ _ e5, hc _ _ e6⟩
      have HKNW : Hid (∀ W : World, Below (n + 3) W1 W → kNode.K W (fun q => ok q ∧ q < n) nd [.int .i64 nd.id, .int .i64 nd.parent, .slice A2 nd.program.length c2, .int .i64 nd.size, .int .i64 nd.count, .int .u64 nd.one, .int .u64 nd.two] ∧ kNode.K W (fun q => ok q ∧ q < n) x [.int .i64 x.id, .int .i64 x.parent, .slice A3 x.program.length c3, .int .i64 x.size, .int .i64 x.count, .int .u64 x.one, .int .u64 x.two]) := fun W h => ⟨Kd.move (d := kNode) HKN.out (fun q hq _ => h.block q (by omega)), Kd.move (d := kNode) HKX.out (fun q hq _ => h.block q (by omega))⟩
      clear e0 e1 e2 e3 e4 e5 e6
      obtain ⟨p0, n0, n1, n2, n3, n4, n5, n6, e0, e1, e2, e3, e4, e5, e6⟩ := HCELLS.out wr hS.out.bel
      have hcase : (dv = false ∧ nd.id ≤ x.id ∧ x.id ≠ nd.id) ∨ (dv = false ∧ x.id = nd.id) ∨ (¬ (dv = false ∧ nd.id ≤ x.id) ∧ x.id ≠ nd.id) ∨ (dv = true ∧ x.id = nd.id) := by
        cases dv <;> simp <;> omega
      rcases hcase with ⟨rfl, hle, hne⟩ | ⟨rfl, heq⟩ | ⟨hno, hne⟩ | ⟨rfl, heq⟩
      · have hd1 : decide (nd.id ≤ x.id) = true := decide_eq_true hle
        have hd2 : (x.id == nd.id) = false := by rw [beq_eq_false_iff_ne]; exact hne
        have hstep := HSTEP.out
        rw [if_pos ⟨rfl, hle⟩, if_pos hne] at hstep
        have HST2 := Lib.hid hstep
        have hzk := hzf rfl
        clear hstep HSTEP hzf
        go_upto_region 6 with fail
        go_quiet (fail)
        have HSq1 := Lib.hid (hS.out.on (below_dN (Below.refl _ _) nq))
        clear p0 n0 n1 n2 n3 n4 n5 n6 e0 e1 e2 e3 e4 e5 e6
        generalize (wr.drewN nq) = Wq1 at *
        obtain ⟨p0, n0, n1, n2, n3, n4, n5, n6, e0, e1, e2, e3, e4, e5, e6⟩ := HCELLS.out Wq1 HSq1.out.bel
        have b0 : Wq1.cell? ⟨n + 1 + 1 + 1, 0, none⟩ = some (.slice Av zs.length cv) := blk_cell HSq1.out.box 0
        obtain ⟨s2, hs2⟩ : ∃ s, Wq1.heap.size = s := ⟨_, rfl⟩
        have hlt2 := blk_lt HSq1.out.box
        have hlit := lit_node hs2 (HKNW.out Wq1 HSq1.out.bel).1 (fun q hq => by omega)
        have hne := HSq1.out.lit rfl nd [.int .i64 nd.id, .int .i64 nd.parent, .slice A2 nd.program.length c2, .int .i64 nd.size, .int .i64 nd.count, .int .u64 nd.one, .int .u64 nd.two] (HKNW.out Wq1 HSq1.out.bel).1
        have hO' := HSq1.out.own.al (.cells #[.int .i64 nd.id, .int .i64 nd.parent, .slice A2 nd.program.length c2, .int .i64 nd.size, .int .i64 nd.count, .int .u64 nd.one, .int .u64 nd.two] 65)
        rw [hs2] at hne
        have hle2 : (zs ++ [nd]).length = zs.length + 1 := by simp
        go_upto_region 8 with (first | (at_builtin; refine wp_append_kd (d := kNode) (base := n + 4) rfl _ _ 29 65 _ 72 rfl Tryz.underlying29 infoNode rfl (.slice Av zs.length cv) zs (some ⟨s2, 0, none⟩) 1 1 [nd] rfl rfl hO' rfl hlit hne (by unfold maxLen; omega) (by omega) (by rw [World.size_alloc]; omega) (fun q hq => .inr (by rw [World.size_alloc] at hq; omega)) ?_; intro v1 w3 hO3 hg3 hat3; obtain ⟨A2, c2, hv2, hl2, hm2⟩ := hO3.form; rw [hle2] at hv2; subst hv2; have hP := HSq1.out.push (below_al (Below.refl _ _) _) hg3 hO3; have q3 : w3.cell? ⟨n + 1 + 1 + 1, 0, none⟩ = some (.slice Av zs.length cv) := blk_cell hP.1 0; have f3 : w3.frozen? ⟨n + 1 + 1 + 1, 0, none⟩ = false := blk_free hP.1 0))
        have HP2 : Hid (PutSt n ok W1 (w3.setCell ⟨n + 1 + 1 + 1, 0, none⟩ (.slice A2 (zs.length + 1) c2)) (.slice A2 (zs.length + 1) c2) (zs ++ [nd])) := hP.2.1
        clear hP q3 f3 hO3 hg3 hat3 hlit hne hO' b0 p0 n0 n1 n2 n3 n4 n5 n6 e0 e1 e2 e3 e4 e5 e6
        generalize (w3.setCell ⟨n + 1 + 1 + 1, 0, none⟩ (.slice A2 (zs.length + 1) c2)) = Wp2 at *
        rw [← hle2] at HP2
        try rw [← hle2]
        clear hs2 hle2 hlt2
        obtain ⟨p0, n0, n1, n2, n3, n4, n5, n6, e0, e1, e2, e3, e4, e5, e6⟩ := HCELLS.out Wp2 HP2.out.bel
        obtain ⟨z2, hz2⟩ : ∃ z, z = zs ++ [nd] := ⟨_, rfl⟩
        have hzl2 : z2.length = zs.length + 1 := by rw [hz2]; simp
        rw [← hz2] at HP2
        have HZ2 := Lib.hid hz2
        have HZL2 := Lib.hid hzl2
        clear hz2 hzl2
        go_upto_region 9 with fail
        go_quiet (fail)
        have HSq3 := Lib.hid (HP2.out.on (below_dN (Below.refl _ _) nq))
        clear p0 n0 n1 n2 n3 n4 n5 n6 e0 e1 e2 e3 e4 e5 e6
        generalize (Wp2.drewN nq) = Wq3 at *
        obtain ⟨p0, n0, n1, n2, n3, n4, n5, n6, e0, e1, e2, e3, e4, e5, e6⟩ := HCELLS.out Wq3 HSq3.out.bel
        have b0 : Wq3.cell? ⟨n + 1 + 1 + 1, 0, none⟩ = some (.slice A2 z2.length c2) := blk_cell HSq3.out.box 0
        have hlt4 := blk_lt HSq3.out.box
        have hbz : z2.length ≤ 1002 := by have := HZL2.out; omega
        have hSa := HSq3.out.on (below_al (Below.refl _ _) (.cells #[.int .i64 x.id, .int .i64 x.parent, .slice A3 x.program.length c3, .int .i64 x.size, .int .i64 x.count, .int .u64 x.one, .int .u64 x.two] 65))
        obtain ⟨ap0, an0, an1, an2, an3, an4, an5, an6, ae0, ae1, ae2, ae3, ae4, ae5, ae6⟩ := HCELLS.out _ hSa.bel
        have ab0 : (Wq3.alloc (.cells #[.int .i64 x.id, .int .i64 x.parent, .slice A3 x.program.length c3, .int .i64 x.size, .int .i64 x.count, .int .u64 x.one, .int .u64 x.two] 65)).cell? ⟨n + 1 + 1 + 1, 0, none⟩ = some (.slice A2 z2.length c2) := blk_cell hSa.box 0
        have hlit := lit_node (w := Wq3.drew) (s := Wq3.drew.heap.size) rfl (kNode.bel (HKNW.out Wq3 HSq3.out.bel).2 (below_d1 (Below.refl _ _))) (fun q hq => Nat.lt_of_lt_of_le (show q < n + 3 by omega) (Nat.le_of_lt hlt4))
        have hne := HSq3.out.lit (W := Wq3.drew) rfl x [.int .i64 x.id, .int .i64 x.parent, .slice A3 x.program.length c3, .int .i64 x.size, .int .i64 x.count, .int .u64 x.one, .int .u64 x.two] (kNode.bel (HKNW.out Wq3 HSq3.out.bel).2 (below_d1 (Below.refl _ _)))
        have hle4 : (z2 ++ [x]).length = z2.length + 1 := by simp
        have mixed : (Tryz.prog).follows Departure.mixedOrders = true := by kernel_rfl
        clear hSa
        go_upto_region 10 with fail
        go_region_law_o (refine step_append_kd (d := kNode) (base := n + 4) (ok := fun q => (ok q ∧ q < n) ∨ n + 4 ≤ q) (okS := fun q => (ok q ∧ q < n) ∨ q = Wq3.heap.size) rfl (.tmp 47) (.tmp 53) 29 65 (.agg #[.int .i64 0, .int .i64 0, .slice none 0 0, .int .i64 0, .int .i64 0, .int .u64 0, .int .u64 0]) 72 rfl Tryz.underlying29 infoNode rfl (.slice A2 z2.length c2) z2 (some ⟨Wq3.drew.heap.size, 0, none⟩) 1 1 [x] (by simp [Act.eval, Act.put]) (by simp [Act.eval, Act.put]) (HSq3.out.own.al _) rfl hlit hne (by unfold maxLen; omega) (by omega) (Nat.le_trans (show n + 4 ≤ Wq3.heap.size by omega) (below_al (Below.refl Wq3.heap.size Wq3) (.cells #[.int .i64 x.id, .int .i64 x.parent, .slice A3 x.program.length c3, .int .i64 x.size, .int .i64 x.count, .int .u64 x.one, .int .u64 x.two] 65)).size) (fun q hq => .inr (Nat.le_trans (show n + 4 ≤ Wq3.heap.size by omega) (Nat.le_trans (below_al (Below.refl Wq3.heap.size Wq3) (.cells #[.int .i64 x.id, .int .i64 x.parent, .slice A3 x.program.length c3, .int .i64 x.size, .int .i64 x.count, .int .u64 x.one, .int .u64 x.two] 65)).size hq))) ?_; intro v1 w3 hO3 hg3 hat3; obtain ⟨A4, c4, hv4, hl4, hm4⟩ := hO3.form; rw [hle4] at hv4; subst hv4; have hP := HSq3.out.push (below_al (below_d1 (Below.refl _ _)) _) hg3 hO3; have q3 : w3.cell? ⟨n + 1 + 1 + 1, 0, none⟩ = some (.slice A2 z2.length c2) := blk_cell hP.1 0; have f3 : w3.frozen? ⟨n + 1 + 1 + 1, 0, none⟩ = false := blk_free hP.1 0; obtain ⟨tp0, tn0, tn1, tn2, tn3, tn4, tn5, tn6, te0, te1, te2, te3, te4, te5, te6⟩ := HCELLS.out w3 hP.2.2)
        all_goals
          have HPF : Hid (PutSt n ok W1 (w3.setCell ⟨n + 1 + 1 + 1, 0, none⟩ (.slice A4 (z2.length + 1) c4)) (.slice A4 (z2.length + 1) c4) (z2 ++ [x])) := hP.2.1
          clear hP q3 f3 hO3 hg3 hat3 hlit hne b0 ab0 p0 n0 n1 n2 n3 n4 n5 n6 e0 e1 e2 e3 e4 e5 e6 ap0 an0 an1 an2 an3 an4 an5 an6 ae0 ae1 ae2 ae3 ae4 ae5 ae6 tp0 tn0 tn1 tn2 tn3 tn4 tn5 tn6 te0 te1 te2 te3 te4 te5 te6
          go_wp2_with fail
          go_roundw
          case rel => exact ⟨k + 1, true, z2 ++ [x], .slice A4 (z2.length + 1) c4, by omega, by go_num, rfl, (by have := HZL2.out; simp; omega), (fun h => by cases h), (show _ = _ by rw [hput.out, HST2.out, HZ2.out]; simp), HPF.out⟩
          case measure => simp [intOf]; omega
      · have hle : nd.id ≤ x.id := by omega
        have hd1 : decide (nd.id ≤ x.id) = true := decide_eq_true hle
        have hd2 : (x.id == nd.id) = true := by rw [beq_iff_eq]; exact heq
        have hstep := HSTEP.out
        rw [if_pos ⟨rfl, hle⟩, if_neg (by simpa using heq)] at hstep
        have HST2 := Lib.hid hstep
        have hzk := hzf rfl
        have HEQ := Lib.hid heq
        clear hstep HSTEP hzf heq
        go_upto_region 6 with fail
        go_quiet (fail)
        have HSq1 := Lib.hid (hS.out.on (below_dN (Below.refl _ _) nq))
        clear p0 n0 n1 n2 n3 n4 n5 n6 e0 e1 e2 e3 e4 e5 e6
        generalize (wr.drewN nq) = Wq1 at *
        obtain ⟨p0, n0, n1, n2, n3, n4, n5, n6, e0, e1, e2, e3, e4, e5, e6⟩ := HCELLS.out Wq1 HSq1.out.bel
        have b0 : Wq1.cell? ⟨n + 1 + 1 + 1, 0, none⟩ = some (.slice Av zs.length cv) := blk_cell HSq1.out.box 0
        obtain ⟨s2, hs2⟩ : ∃ s, Wq1.heap.size = s := ⟨_, rfl⟩
        have hlt2 := blk_lt HSq1.out.box
        have hlit := lit_node hs2 (HKNW.out Wq1 HSq1.out.bel).1 (fun q hq => by omega)
        have hne := HSq1.out.lit rfl nd [.int .i64 nd.id, .int .i64 nd.parent, .slice A2 nd.program.length c2, .int .i64 nd.size, .int .i64 nd.count, .int .u64 nd.one, .int .u64 nd.two] (HKNW.out Wq1 HSq1.out.bel).1
        have hO' := HSq1.out.own.al (.cells #[.int .i64 nd.id, .int .i64 nd.parent, .slice A2 nd.program.length c2, .int .i64 nd.size, .int .i64 nd.count, .int .u64 nd.one, .int .u64 nd.two] 65)
        rw [hs2] at hne
        have hle2 : (zs ++ [nd]).length = zs.length + 1 := by simp
        go_upto_region 8 with (first | (at_builtin; refine wp_append_kd (d := kNode) (base := n + 4) rfl _ _ 29 65 _ 72 rfl Tryz.underlying29 infoNode rfl (.slice Av zs.length cv) zs (some ⟨s2, 0, none⟩) 1 1 [nd] rfl rfl hO' rfl hlit hne (by unfold maxLen; omega) (by omega) (by rw [World.size_alloc]; omega) (fun q hq => .inr (by rw [World.size_alloc] at hq; omega)) ?_; intro v1 w3 hO3 hg3 hat3; obtain ⟨A2, c2, hv2, hl2, hm2⟩ := hO3.form; rw [hle2] at hv2; subst hv2; have hP := HSq1.out.push (below_al (Below.refl _ _) _) hg3 hO3; have q3 : w3.cell? ⟨n + 1 + 1 + 1, 0, none⟩ = some (.slice Av zs.length cv) := blk_cell hP.1 0; have f3 : w3.frozen? ⟨n + 1 + 1 + 1, 0, none⟩ = false := blk_free hP.1 0))
        have HP2 : Hid (PutSt n ok W1 (w3.setCell ⟨n + 1 + 1 + 1, 0, none⟩ (.slice A2 (zs.length + 1) c2)) (.slice A2 (zs.length + 1) c2) (zs ++ [nd])) := hP.2.1
        clear hP q3 f3 hO3 hg3 hat3 hlit hne hO' b0 p0 n0 n1 n2 n3 n4 n5 n6 e0 e1 e2 e3 e4 e5 e6
        generalize (w3.setCell ⟨n + 1 + 1 + 1, 0, none⟩ (.slice A2 (zs.length + 1) c2)) = Wp2 at *
        rw [← hle2] at HP2
        try rw [← hle2]
        clear hs2 hle2 hlt2
        obtain ⟨p0, n0, n1, n2, n3, n4, n5, n6, e0, e1, e2, e3, e4, e5, e6⟩ := HCELLS.out Wp2 HP2.out.bel
        obtain ⟨z2, hz2⟩ : ∃ z, z = zs ++ [nd] := ⟨_, rfl⟩
        have hzl2 : z2.length = zs.length + 1 := by rw [hz2]; simp
        rw [← hz2] at HP2
        have HZ2 := Lib.hid hz2
        have HZL2 := Lib.hid hzl2
        clear hz2 hzl2
        go_upto_region 9 with fail
        go_quiet (fail)
        have HSq3 := Lib.hid (HP2.out.on (below_dN (Below.refl _ _) nq))
        clear p0 n0 n1 n2 n3 n4 n5 n6 e0 e1 e2 e3 e4 e5 e6
        generalize (Wp2.drewN nq) = Wq3 at *
        obtain ⟨p0, n0, n1, n2, n3, n4, n5, n6, e0, e1, e2, e3, e4, e5, e6⟩ := HCELLS.out Wq3 HSq3.out.bel
        go_wp2_with fail
        go_roundw
        case rel => exact ⟨k + 1, true, z2, .slice A2 z2.length c2, by omega, by go_num, rfl, (by have := HZL2.out; omega), (fun h => by cases h), (show _ = _ by rw [hput.out, HST2.out, HZ2.out]; simp), HSq3.out⟩
        case measure => simp [intOf]; omega
      · have hd2 : (x.id == nd.id) = false := by rw [beq_eq_false_iff_ne]; exact hne
        have hstep := HSTEP.out
        rw [if_neg hno, if_pos hne] at hstep
        have HST2 := Lib.hid hstep
        clear hstep HSTEP
        cases dv with
        | true =>
          clear hno
          go_upto_region 6 with fail
          go_quiet (fail)
          have HSq1 := Lib.hid (hS.out.on (below_dN (Below.refl _ _) nq))
          clear p0 n0 n1 n2 n3 n4 n5 n6 e0 e1 e2 e3 e4 e5 e6
          generalize (wr.drewN nq) = Wq1 at *
          obtain ⟨p0, n0, n1, n2, n3, n4, n5, n6, e0, e1, e2, e3, e4, e5, e6⟩ := HCELLS.out Wq1 HSq1.out.bel
          go_upto_region 9 with fail
          go_quiet (fail)
          have HSq2 := Lib.hid (HSq1.out.on (below_dN (Below.refl _ _) nq))
          clear p0 n0 n1 n2 n3 n4 n5 n6 e0 e1 e2 e3 e4 e5 e6
          generalize (Wq1.drewN nq) = Wq2 at *
          obtain ⟨p0, n0, n1, n2, n3, n4, n5, n6, e0, e1, e2, e3, e4, e5, e6⟩ := HCELLS.out Wq2 HSq2.out.bel
          have b0 : Wq2.cell? ⟨n + 1 + 1 + 1, 0, none⟩ = some (.slice Av zs.length cv) := blk_cell HSq2.out.box 0
          have hlt3 := blk_lt HSq2.out.box
          have hbz : zs.length ≤ 1002 := by omega
          have hSa := HSq2.out.on (below_al (Below.refl _ _) (.cells #[.int .i64 x.id, .int .i64 x.parent, .slice A3 x.program.length c3, .int .i64 x.size, .int .i64 x.count, .int .u64 x.one, .int .u64 x.two] 65))
          obtain ⟨ap0, an0, an1, an2, an3, an4, an5, an6, ae0, ae1, ae2, ae3, ae4, ae5, ae6⟩ := HCELLS.out _ hSa.bel
          have ab0 : (Wq2.alloc (.cells #[.int .i64 x.id, .int .i64 x.parent, .slice A3 x.program.length c3, .int .i64 x.size, .int .i64 x.count, .int .u64 x.one, .int .u64 x.two] 65)).cell? ⟨n + 1 + 1 + 1, 0, none⟩ = some (.slice Av zs.length cv) := blk_cell hSa.box 0
          have hlit := lit_node (w := Wq2.drew) (s := Wq2.drew.heap.size) rfl (kNode.bel (HKNW.out Wq2 HSq2.out.bel).2 (below_d1 (Below.refl _ _))) (fun q hq => Nat.lt_of_lt_of_le (show q < n + 3 by omega) (Nat.le_of_lt hlt3))
          have hne := HSq2.out.lit (W := Wq2.drew) rfl x [.int .i64 x.id, .int .i64 x.parent, .slice A3 x.program.length c3, .int .i64 x.size, .int .i64 x.count, .int .u64 x.one, .int .u64 x.two] (kNode.bel (HKNW.out Wq2 HSq2.out.bel).2 (below_d1 (Below.refl _ _)))
          have hle3 : (zs ++ [x]).length = zs.length + 1 := by simp
          have mixed : (Tryz.prog).follows Departure.mixedOrders = true := by kernel_rfl
          clear hSa
          go_upto_region 10 with fail
          go_region_law_o (refine step_append_kd (d := kNode) (base := n + 4) (ok := fun q => (ok q ∧ q < n) ∨ n + 4 ≤ q) (okS := fun q => (ok q ∧ q < n) ∨ q = Wq2.heap.size) rfl (.tmp 47) (.tmp 53) 29 65 (.agg #[.int .i64 0, .int .i64 0, .slice none 0 0, .int .i64 0, .int .i64 0, .int .u64 0, .int .u64 0]) 72 rfl Tryz.underlying29 infoNode rfl (.slice Av zs.length cv) zs (some ⟨Wq2.drew.heap.size, 0, none⟩) 1 1 [x] (by simp [Act.eval, Act.put]) (by simp [Act.eval, Act.put]) (HSq2.out.own.al _) rfl hlit hne (by unfold maxLen; omega) (by omega) (Nat.le_trans (show n + 4 ≤ Wq2.heap.size by omega) (below_al (Below.refl Wq2.heap.size Wq2) (.cells #[.int .i64 x.id, .int .i64 x.parent, .slice A3 x.program.length c3, .int .i64 x.size, .int .i64 x.count, .int .u64 x.one, .int .u64 x.two] 65)).size) (fun q hq => .inr (Nat.le_trans (show n + 4 ≤ Wq2.heap.size by omega) (Nat.le_trans (below_al (Below.refl Wq2.heap.size Wq2) (.cells #[.int .i64 x.id, .int .i64 x.parent, .slice A3 x.program.length c3, .int .i64 x.size, .int .i64 x.count, .int .u64 x.one, .int .u64 x.two] 65)).size hq))) ?_; intro v1 w3 hO3 hg3 hat3; obtain ⟨A3, c3, hv3, hl3, hm3⟩ := hO3.form; rw [hle3] at hv3; subst hv3; have hP := HSq2.out.push (below_al (below_d1 (Below.refl _ _)) _) hg3 hO3; have q3 : w3.cell? ⟨n + 1 + 1 + 1, 0, none⟩ = some (.slice Av zs.length cv) := blk_cell hP.1 0; have f3 : w3.frozen? ⟨n + 1 + 1 + 1, 0, none⟩ = false := blk_free hP.1 0; obtain ⟨tp0, tn0, tn1, tn2, tn3, tn4, tn5, tn6, te0, te1, te2, te3, te4, te5, te6⟩ := HCELLS.out w3 hP.2.2)
          all_goals
            have HPF : Hid (PutSt n ok W1 (w3.setCell ⟨n + 1 + 1 + 1, 0, none⟩ (.slice A3 (zs.length + 1) c3)) (.slice A3 (zs.length + 1) c3) (zs ++ [x])) := hP.2.1
            clear hP q3 f3 hO3 hg3 hat3 hlit hne b0 ab0 p0 n0 n1 n2 n3 n4 n5 n6 e0 e1 e2 e3 e4 e5 e6 ap0 an0 an1 an2 an3 an4 an5 an6 ae0 ae1 ae2 ae3 ae4 ae5 ae6 tp0 tn0 tn1 tn2 tn3 tn4 tn5 tn6 te0 te1 te2 te3 te4 te5 te6
            go_wp2_with fail
            go_roundw
            case rel => exact ⟨k + 1, true, zs ++ [x], .slice A3 (zs.length + 1) c3, by omega, by go_num, rfl, (by simp; omega), (fun h => by cases h), (show _ = _ by rw [hput.out, HST2.out]; simp), HPF.out⟩
            case measure => simp [intOf]; omega
        | false =>
          have hd1 : decide (nd.id ≤ x.id) = false := decide_eq_false (fun h => hno ⟨rfl, h⟩)
          have hzk := hzf rfl
          clear hno
          go_upto_region 6 with fail
          go_quiet (fail)
          have HSq1 := Lib.hid (hS.out.on (below_dN (Below.refl _ _) nq))
          clear p0 n0 n1 n2 n3 n4 n5 n6 e0 e1 e2 e3 e4 e5 e6
          generalize (wr.drewN nq) = Wq1 at *
          obtain ⟨p0, n0, n1, n2, n3, n4, n5, n6, e0, e1, e2, e3, e4, e5, e6⟩ := HCELLS.out Wq1 HSq1.out.bel
          go_upto_region 9 with fail
          go_quiet (fail)
          have HSq2 := Lib.hid (HSq1.out.on (below_dN (Below.refl _ _) nq))
          clear p0 n0 n1 n2 n3 n4 n5 n6 e0 e1 e2 e3 e4 e5 e6
          generalize (Wq1.drewN nq) = Wq2 at *
          obtain ⟨p0, n0, n1, n2, n3, n4, n5, n6, e0, e1, e2, e3, e4, e5, e6⟩ := HCELLS.out Wq2 HSq2.out.bel
          have b0 : Wq2.cell? ⟨n + 1 + 1 + 1, 0, none⟩ = some (.slice Av zs.length cv) := blk_cell HSq2.out.box 0
          have hlt3 := blk_lt HSq2.out.box
          have hbz : zs.length ≤ 1002 := by omega
          have hSa := HSq2.out.on (below_al (Below.refl _ _) (.cells #[.int .i64 x.id, .int .i64 x.parent, .slice A3 x.program.length c3, .int .i64 x.size, .int .i64 x.count, .int .u64 x.one, .int .u64 x.two] 65))
          obtain ⟨ap0, an0, an1, an2, an3, an4, an5, an6, ae0, ae1, ae2, ae3, ae4, ae5, ae6⟩ := HCELLS.out _ hSa.bel
          have ab0 : (Wq2.alloc (.cells #[.int .i64 x.id, .int .i64 x.parent, .slice A3 x.program.length c3, .int .i64 x.size, .int .i64 x.count, .int .u64 x.one, .int .u64 x.two] 65)).cell? ⟨n + 1 + 1 + 1, 0, none⟩ = some (.slice Av zs.length cv) := blk_cell hSa.box 0
          have hlit := lit_node (w := Wq2.drew) (s := Wq2.drew.heap.size) rfl (kNode.bel (HKNW.out Wq2 HSq2.out.bel).2 (below_d1 (Below.refl _ _))) (fun q hq => Nat.lt_of_lt_of_le (show q < n + 3 by omega) (Nat.le_of_lt hlt3))
          have hne := HSq2.out.lit (W := Wq2.drew) rfl x [.int .i64 x.id, .int .i64 x.parent, .slice A3 x.program.length c3, .int .i64 x.size, .int .i64 x.count, .int .u64 x.one, .int .u64 x.two] (kNode.bel (HKNW.out Wq2 HSq2.out.bel).2 (below_d1 (Below.refl _ _)))
          have hle3 : (zs ++ [x]).length = zs.length + 1 := by simp
          have mixed : (Tryz.prog).follows Departure.mixedOrders = true := by kernel_rfl
          clear hSa
          go_upto_region 10 with fail
          go_region_law_o (refine step_append_kd (d := kNode) (base := n + 4) (ok := fun q => (ok q ∧ q < n) ∨ n + 4 ≤ q) (okS := fun q => (ok q ∧ q < n) ∨ q = Wq2.heap.size) rfl (.tmp 47) (.tmp 53) 29 65 (.agg #[.int .i64 0, .int .i64 0, .slice none 0 0, .int .i64 0, .int .i64 0, .int .u64 0, .int .u64 0]) 72 rfl Tryz.underlying29 infoNode rfl (.slice Av zs.length cv) zs (some ⟨Wq2.drew.heap.size, 0, none⟩) 1 1 [x] (by simp [Act.eval, Act.put]) (by simp [Act.eval, Act.put]) (HSq2.out.own.al _) rfl hlit hne (by unfold maxLen; omega) (by omega) (Nat.le_trans (show n + 4 ≤ Wq2.heap.size by omega) (below_al (Below.refl Wq2.heap.size Wq2) (.cells #[.int .i64 x.id, .int .i64 x.parent, .slice A3 x.program.length c3, .int .i64 x.size, .int .i64 x.count, .int .u64 x.one, .int .u64 x.two] 65)).size) (fun q hq => .inr (Nat.le_trans (show n + 4 ≤ Wq2.heap.size by omega) (Nat.le_trans (below_al (Below.refl Wq2.heap.size Wq2) (.cells #[.int .i64 x.id, .int .i64 x.parent, .slice A3 x.program.length c3, .int .i64 x.size, .int .i64 x.count, .int .u64 x.one, .int .u64 x.two] 65)).size hq))) ?_; intro v1 w3 hO3 hg3 hat3; obtain ⟨A3, c3, hv3, hl3, hm3⟩ := hO3.form; rw [hle3] at hv3; subst hv3; have hP := HSq2.out.push (below_al (below_d1 (Below.refl _ _)) _) hg3 hO3; have q3 : w3.cell? ⟨n + 1 + 1 + 1, 0, none⟩ = some (.slice Av zs.length cv) := blk_cell hP.1 0; have f3 : w3.frozen? ⟨n + 1 + 1 + 1, 0, none⟩ = false := blk_free hP.1 0; obtain ⟨tp0, tn0, tn1, tn2, tn3, tn4, tn5, tn6, te0, te1, te2, te3, te4, te5, te6⟩ := HCELLS.out w3 hP.2.2)
          all_goals
            have HPF : Hid (PutSt n ok W1 (w3.setCell ⟨n + 1 + 1 + 1, 0, none⟩ (.slice A3 (zs.length + 1) c3)) (.slice A3 (zs.length + 1) c3) (zs ++ [x])) := hP.2.1
            clear hP q3 f3 hO3 hg3 hat3 hlit hne b0 ab0 p0 n0 n1 n2 n3 n4 n5 n6 e0 e1 e2 e3 e4 e5 e6 ap0 an0 an1 an2 an3 an4 an5 an6 ae0 ae1 ae2 ae3 ae4 ae5 ae6 tp0 tn0 tn1 tn2 tn3 tn4 tn5 tn6 te0 te1 te2 te3 te4 te5 te6
            go_wp2_with fail
            go_roundw
            case rel => exact ⟨k + 1, false, zs ++ [x], .slice A3 (zs.length + 1) c3, by omega, by go_num, rfl, (by simp; omega), (fun _ => by simp; omega), (show _ = _ by rw [hput.out, HST2.out]; simp), HPF.out⟩
            case measure => simp [intOf]; omega
      · have hd2 : (x.id == nd.id) = true := by rw [beq_iff_eq]; exact heq
        have hstep := HSTEP.out
        rw [if_neg (by simp), if_neg (by simpa using heq)] at hstep
        have HST2 := Lib.hid hstep
        have HEQ := Lib.hid heq
        clear hstep HSTEP heq
        go_upto_region 6 with fail
        go_quiet (fail)
        have HSq1 := Lib.hid (hS.out.on (below_dN (Below.refl _ _) nq))
        clear p0 n0 n1 n2 n3 n4 n5 n6 e0 e1 e2 e3 e4 e5 e6
        generalize (wr.drewN nq) = Wq1 at *
        obtain ⟨p0, n0, n1, n2, n3, n4, n5, n6, e0, e1, e2, e3, e4, e5, e6⟩ := HCELLS.out Wq1 HSq1.out.bel
        go_upto_region 9 with fail
        go_quiet (fail)
        have HSq2 := Lib.hid (HSq1.out.on (below_dN (Below.refl _ _) nq))
        clear p0 n0 n1 n2 n3 n4 n5 n6 e0 e1 e2 e3 e4 e5 e6
        generalize (Wq1.drewN nq) = Wq2 at *
        obtain ⟨p0, n0, n1, n2, n3, n4, n5, n6, e0, e1, e2, e3, e4, e5, e6⟩ := HCELLS.out Wq2 HSq2.out.bel
        go_wp2_with fail
        go_roundw
        case rel => exact ⟨k + 1, true, zs, .slice Av zs.length cv, by omega, by go_num, rfl, by omega, (fun h => by cases h), (show _ = _ by rw [hput.out, HST2.out]), HSq2.out⟩
        case measure => simp [intOf]; omega
    · obtain rfl : k = xs.length := by omega
      have p0 : wr.cell? ⟨n, 0, none⟩ = some (.slice A xs.length c) := blk_cell ((hS.out.bel.block n (by omega)).trans F1.out) 0
      have hput' := hput.out
      rw [List.drop_length] at hput'
      have HPUT := Lib.hid hput'
      clear hput'
      have HBW : Hid (Below w.heap.size w wr) := by rw [HN.out]; have h1 := HB1.out; rw [HN.out] at h1; exact h1.trans (hS.out.bel.mono (by omega))
      cases dv with
      | true =>
        have hp2 : putN xs nd = zs := by rw [HPUT.out]; simp [putF]
        have HP2 := Lib.hid hp2
        clear hp2
        have b0 : wr.cell? ⟨n + 1 + 1 + 1, 0, none⟩ = some (.slice Av zs.length cv) := blk_cell hS.out.box 0
        have HR3 : Hid (wr.heap[n + 1 + 1]? = some (.cells #[.slice none 0 0] 31)) := (hS.out.bel.block (n + 2) (by omega)).trans F3.out
        go_upto_region 13 with fail
        go_wp2_with (first | (refine wpList_store_row (w := wr) rfl _ _ _ rfl (n + 1 + 1) #[.slice Av zs.length cv] rfl rfl _ _ HR3.out (by kernel_rfl) (by rfl) (by kernel_rfl) ?_; intro W6 hW6))
        refine bodyPost_ret (results_cell_row rfl _ _ (n + 1 + 1) _ #[.slice Av zs.length cv] _ _ rfl hW6.here Tryz.underlying31 rfl (by kernel_rfl)) rfl ?_
        refine ⟨_, rfl, ?_, HBW.out.trans (hW6.bel.mono (by rw [HN.out]; omega))⟩
        rw [HP2.out]
        refine kPool.mono (fun q hq => ?_) (Kd.move (d := kPool) (w := wr) (ok := fun q => (ok q ∧ q < n) ∨ n + 4 ≤ q) (x := ⟨zs⟩) (hS.out.own.K) (fun k hk _ => hW6.far k (by omega)))
        rcases hq with h | h
        · exact .inl h.1
        · exact .inr (by rw [HN.out]; omega)
      | false =>
        have hp2 : putN xs nd = zs ++ [nd] := by rw [HPUT.out]; simp [putF]
        have HP2 := Lib.hid hp2
        have hzk := hzf rfl
        clear hp2 hzf
        go_upto_region 12 with fail
        have b1 : wr.heap[n + 1]? = some (.cells #[.int .i64 nd.id, .int .i64 nd.parent, .slice A2 nd.program.length c2, .int .i64 nd.size, .int .i64 nd.count, .int .u64 nd.one, .int .u64 nd.two] 65) := (hS.out.bel.block (n + 1) (by omega)).trans F2.out
        have n0 : wr.cell? ⟨n + 1, 0, none⟩ = some (.int .i64 nd.id) := blk_cell b1 0
        have n1 : wr.cell? ⟨n + 1, 1, none⟩ = some (.int .i64 nd.parent) := blk_cell b1 1
        have n2 : wr.cell? ⟨n + 1, 2, none⟩ = some (.slice A2 nd.program.length c2) := blk_cell b1 2
        have n3 : wr.cell? ⟨n + 1, 3, none⟩ = some (.int .i64 nd.size) := blk_cell b1 3
        have n4 : wr.cell? ⟨n + 1, 4, none⟩ = some (.int .i64 nd.count) := blk_cell b1 4
        have n5 : wr.cell? ⟨n + 1, 5, none⟩ = some (.int .u64 nd.one) := blk_cell b1 5
        have n6 : wr.cell? ⟨n + 1, 6, none⟩ = some (.int .u64 nd.two) := blk_cell b1 6
        have hkw : kNode.K wr (fun q => ok q ∧ q < n) nd [.int .i64 nd.id, .int .i64 nd.parent, .slice A2 nd.program.length c2, .int .i64 nd.size, .int .i64 nd.count, .int .u64 nd.one, .int .u64 nd.two] := Kd.move (d := kNode) HKN.out (fun q hq _ => hS.out.bel.block q (by omega))
        have b0 : wr.cell? ⟨n + 1 + 1 + 1, 0, none⟩ = some (.slice Av zs.length cv) := blk_cell hS.out.box 0
        obtain ⟨s1, hs1⟩ : ∃ s, wr.heap.size = s := ⟨_, rfl⟩
        have hlt1 := blk_lt hS.out.box
        have hlit := lit_node hs1 hkw (fun q hq => by omega)
        have hne := hS.out.lit rfl nd [.int .i64 nd.id, .int .i64 nd.parent, .slice A2 nd.program.length c2, .int .i64 nd.size, .int .i64 nd.count, .int .u64 nd.one, .int .u64 nd.two] hkw
        have hO' := hS.out.own.al (.cells #[.int .i64 nd.id, .int .i64 nd.parent, .slice A2 nd.program.length c2, .int .i64 nd.size, .int .i64 nd.count, .int .u64 nd.one, .int .u64 nd.two] 65)
        rw [hs1] at hne
        have hle1 : (zs ++ [nd]).length = zs.length + 1 := by simp
        clear b1 hkw
        go_upto_region 13 with (first | (at_builtin; refine wp_append_kd (d := kNode) (base := n + 4) rfl _ _ 29 65 _ 72 rfl Tryz.underlying29 infoNode rfl (.slice Av zs.length cv) zs (some ⟨s1, 0, none⟩) 1 1 [nd] rfl rfl hO' rfl hlit hne (by unfold maxLen; omega) (by omega) (by rw [World.size_alloc]; omega) (fun q hq => .inr (by rw [World.size_alloc] at hq; omega)) ?_; intro v1 w3 hO3 hg3 hat3; obtain ⟨A7, c7, hv7, hl7, hm7⟩ := hO3.form; rw [hle1] at hv7; subst hv7; have hP := hS.out.push (below_al (Below.refl _ _) _) hg3 hO3; have q3 : w3.cell? ⟨n + 1 + 1 + 1, 0, none⟩ = some (.slice Av zs.length cv) := blk_cell hP.1 0; have f3 : w3.frozen? ⟨n + 1 + 1 + 1, 0, none⟩ = false := blk_free hP.1 0))
        have HP7 : Hid (PutSt n ok W1 (w3.setCell ⟨n + 1 + 1 + 1, 0, none⟩ (.slice A7 (zs.length + 1) c7)) (.slice A7 (zs.length + 1) c7) (zs ++ [nd])) := hP.2.1
        clear hP q3 f3 hO3 hg3 hat3 hlit hne hO' b0 n0 n1 n2 n3 n4 n5 n6 p0
        generalize (w3.setCell ⟨n + 1 + 1 + 1, 0, none⟩ (.slice A7 (zs.length + 1) c7)) = W7 at *
        have b0 : W7.cell? ⟨n + 1 + 1 + 1, 0, none⟩ = some (.slice A7 (zs.length + 1) c7) := blk_cell HP7.out.box 0
        have HR3 : Hid (W7.heap[n + 1 + 1]? = some (.cells #[.slice none 0 0] 31)) := (HP7.out.bel.block (n + 2) (by omega)).trans F3.out
        have HBW7 : Hid (Below w.heap.size w W7) := by rw [HN.out]; have h1 := HB1.out; rw [HN.out] at h1; exact h1.trans (HP7.out.bel.mono (by omega))
        clear hs1 hlt1
        go_wp2_with (first | (refine wpList_store_row (w := W7) rfl _ _ _ rfl (n + 1 + 1) #[.slice A7 (zs.length + 1) c7] rfl rfl _ _ HR3.out (by kernel_rfl) (by rfl) (by kernel_rfl) ?_; intro W6 hW6))
        refine bodyPost_ret (results_cell_row rfl _ _ (n + 1 + 1) _ #[.slice A7 (zs.length + 1) c7] _ _ rfl hW6.here Tryz.underlying31 rfl (by kernel_rfl)) rfl ?_
        refine ⟨_, rfl, ?_, HBW7.out.trans (hW6.bel.mono (by rw [HN.out]; omega))⟩
        rw [HP2.out]
        refine kPool.mono (fun q hq => ?_) (Kd.move (d := kPool) (w := W7) (ok := fun q => (ok q ∧ q < n) ∨ n + 4 ≤ q) (x := ⟨zs ++ [nd]⟩) (HP7.out.own.K) (fun k hk _ => hW6.far k (by omega)))
        rcases hq with h | h
        · exact .inl h.1
        · exact .inr (by rw [HN.out]; omega)
end Go.Proofs.YtbojjjiggppnaaaGreat
