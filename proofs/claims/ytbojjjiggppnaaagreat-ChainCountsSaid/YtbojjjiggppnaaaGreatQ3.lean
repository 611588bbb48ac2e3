/- The walk of the reference's Give. -/
import Derived.Test.YtbojjjiggppnaaaGreatO4
import Derived.Test.YtbojjjiggppnaaaGreatQ2
namespace Go.Proofs.YtbojjjiggppnaaaGreat
open Go.RowKit Go.Shelf
set_option linter.unusedVariables false
set_option linter.unusedSimpArgs false

/-- Where what is reached may lie: before, or behind m, but not in the row of those that are gone. -/
def okG (ok : Nat → Prop) (n m : Nat) (vg : Value) (q : Nat) : Prop := (ok q ∧ q < n) ∨ (m < q ∧ some q ≠ vg.ownBlock)
/-- Ahead of a round of the reference's Give. -/
structure GiveSt (w : World) (n m : Nat) (ok : Nat → Prop) (ys : List Node) (y : Node) (gs : List Int) (vg : Value) (Ap : Option Addr) (cp : Nat) (A8 : Option Addr) (c8 : Nat) (W : World) : Prop where
  box : W.heap[n]? = some (.cells #[.slice Ap ys.length cp] 31)
  res : W.heap[n + 1]? = some (.cells #[.slice none 0 0] 31)
  node : W.heap[m]? = some (.cells #[.int .i64 y.id, .int .i64 y.parent, .slice A8 y.program.length c8, .int .i64 y.size, .int .i64 y.count, .int .u64 y.one, .int .u64 y.two] 65)
  row : kNode.Row W (okG ok n m vg) Ap ys
  cap : ys.length ≤ cp ∧ cp ≤ maxLen
  kn : kNode.K W (okG ok n m vg) y [.int .i64 y.id, .int .i64 y.parent, .slice A8 y.program.length c8, .int .i64 y.size, .int .i64 y.count, .int .u64 y.one, .int .u64 y.two]
  gone : (Kd.int .i64).Own 3 W (m + 1) (fun q => m + 1 ≤ q) vg gs
  bel : Below n w W
/-- Behind the count. -/
structure GiveSt4 (w : World) (n m : Nat) (ok : Nat → Prop) (ys : List Node) (y : Node) (gs : List Int) (vg : Value) (Ap : Option Addr) (cp : Nat) (A8 : Option Addr) (c8 : Nat) (W : World) : Prop where
  box : W.heap[n]? = some (.cells #[.slice Ap ys.length cp] 31)
  res : W.heap[n + 1]? = some (.cells #[.slice none 0 0] 31)
  node : W.heap[m]? = some (.cells #[.int .i64 y.id, .int .i64 y.parent, .slice A8 y.program.length c8, .int .i64 y.size, .int .i64 (y.count - 1), .int .u64 y.one, .int .u64 y.two] 65)
  row : kNode.Row W (okG ok n m vg) Ap ys
  kn : kNode.K W (okG ok n m vg) (down y) [.int .i64 y.id, .int .i64 y.parent, .slice A8 y.program.length c8, .int .i64 y.size, .int .i64 (y.count - 1), .int .u64 y.one, .int .u64 y.two]
  gone : (Kd.int .i64).Own 3 W (m + 1) (fun q => m + 1 ≤ q) vg gs
  bel : Below n w W
/-- Behind the pool. -/
structure GiveSt8 (w : World) (n m : Nat) (ok : Nat → Prop) (ys : List Node) (y : Node) (gs : List Int) (vg : Value) (Ap : Option Addr) (cp : Nat) (A8 : Option Addr) (c8 : Nat) (W : World) : Prop where
  box : W.heap[n]? = some (.cells #[.slice Ap ys.length cp] 31)
  res : W.heap[n + 1]? = some (.cells #[.slice none 0 0] 31)
  node : W.heap[m]? = some (.cells #[.int .i64 y.id, .int .i64 y.parent, .slice A8 y.program.length c8, .int .i64 y.size, .int .i64 (y.count - 1), .int .u64 y.one, .int .u64 y.two] 65)
  row : kNode.Row W (okG ok n m vg) Ap ys
  cap : ys.length ≤ cp ∧ cp ≤ maxLen
  gone : (Kd.int .i64).Own 3 W (m + 1) (fun q => m + 1 ≤ q) vg gs
  bel : Below n w W
set_option maxRecDepth 100000 in
set_option maxHeartbeats 8000000 in
theorem c_refGive (xs : List Node) (c : Nat) (A : Option Addr) (t : Int) (ht : Kd.rng .i64 t) (ok : Nat → Prop) (w : World) (hC : kNode.Row w ok A xs) (hcap : xs.length ≤ c ∧ c ≤ maxLen) (hl : xs.length ≤ 1000) :
    Calls Tryz.prog 37 #[.agg #[.slice A xs.length c], .int .i64 t] w fun e w' => ∃ v vg, e = .returned (.tuple #[.agg #[v], vg, .int .i64 (giveF xs t).2.2]) ∧ kPool.K w' (fun q => ok q ∨ w.heap.size ≤ q) ⟨(giveF xs t).1⟩ [v] ∧ (Kd.int .i64).slice.K w' (fun q => w.heap.size ≤ q) (giveF xs t).2.1 [vg] ∧ Below w.heap.size w w' := by
  obtain ⟨n, hn⟩ : ∃ n, w.heap.size = n := ⟨_, rfl⟩
  have hxn := hC.1
  have hB1 : Below w.heap.size w ((w.alloc (.cells #[.slice A xs.length c] 31)).alloc (.cells #[.slice none 0 0] 31)) := below_al (below_al (Below.refl _ _) _) _
  have f1 : ((w.alloc (.cells #[.slice A xs.length c] 31)).alloc (.cells #[.slice none 0 0] 31)).heap[n]? = some (.cells #[.slice A xs.length c] 31) := by rw [← hn]; exact blk_al (blk_new _ _) _
  have f2 : ((w.alloc (.cells #[.slice A xs.length c] 31)).alloc (.cells #[.slice none 0 0] 31)).heap[n + 1]? = some (.cells #[.slice none 0 0] 31) := by
    have h := blk_new (w.alloc (.cells #[.slice A xs.length c] 31)) (.cells #[.slice none 0 0] 31)
    rwa [World.size_alloc, hn] at h
  have HROW := Lib.hid (hC.bound.bel hB1)
  have HB1 := Lib.hid hB1
  have F1 := Lib.hid f1
  have F2 := Lib.hid f2
  have HN := Lib.hid hn
  have HGF : Hid (giveF xs t = (if poolE xs = 0 then (if giveE xs t = 0 then ((giveG xs t).1, (giveG xs t).2, 0) else ([], [], giveE xs t)) else ([], [], 190) : List Node × List Int × Int)) := rfl
  have HZP : Hid (∀ (W : World) (ok' : Nat → Prop), kPool.K W ok' ⟨[]⟩ [.slice none 0 0] ∧ (Kd.int .i64).slice.K W ok' [] [.slice none 0 0]) := fun W ok' => ⟨kPool.mk (x := ⟨[]⟩) (A0 := none) (c0 := 0) ⟨by simp, by unfold maxLen; omega, Kd.Row.nil _ _ _ _⟩, ⟨none, 0, rfl, by simp, by unfold maxLen; omega, Kd.Row.nil _ _ _ _⟩⟩
  have HCAP := Lib.hid hcap
  clear hC hB1 f1 f2 hcap
  go_enter Tryz.func37, Tryz.ntmps37
  go_upto_region 1 with fail
  generalize ((w.alloc (.cells #[.slice A xs.length c] 31)).alloc (.cells #[.slice none 0 0] 31)) = W1 at *
  clear hn
  have p0 : W1.cell? ⟨n, 0, none⟩ = some (.slice A xs.length c) := blk_cell F1.out 0
  have HRI := Lib.hid (c_refRight xs c A _ W1 HROW.out (by omega))
  by_cases hp : poolE xs = 0
  · have hd : decide (poolE xs = 0) = true := decide_eq_true hp
    rw [hd] at HRI
    have hgf := HGF.out
    rw [if_pos hp] at hgf
    have HGF2 := Lib.hid hgf
    have HPOOL := Lib.hid hp
    have hxl : xs.length ≤ 24 := (poolE_inv hp).1.len
    clear hgf HGF hd hp
    go_wp2_with fail
    refine HRI.out.mono ?_
    rintro e w2 ⟨rfl, hB2⟩
    have HB2 := Lib.hid hB2
    have p2 := cell_bel hB2 p0
    have HR2 := Lib.hid (blk_bel hB2 F2.out)
    have HP2 := Lib.hid (blk_bel hB2 F1.out)
    have HFI := Lib.hid (c_refFind xs c A t _ w2 (HROW.out.bel hB2))
    clear hB2 p0 HRI
    cases hf : findN xs t with
    | none =>
      rw [hf] at HFI
      have hge : giveE xs t = 4 := by unfold giveE; rw [hf]
      have HE : Hid (giveF xs t = ([], [], 4)) := by rw [HGF2.out, hge]; exact rfl
      clear hf HGF2 hge
      go_wp2_with fail
      refine HFI.out.mono ?_
      rintro e w3 ⟨ds, rfl, hds, hB3⟩
      obtain ⟨A9, c9, rfl, -⟩ := kNode.opn hds
      have HR3 := Lib.hid (blk_al (blk_bel hB3 HR2.out) (.cells #[.int .i64 zNode.id, .int .i64 zNode.parent, .slice A9 zNode.program.length c9, .int .i64 zNode.size, .int .i64 zNode.count, .int .u64 zNode.one, .int .u64 zNode.two] 65))
      have HB3 : Hid (Below w.heap.size w (w3.alloc (.cells #[.int .i64 zNode.id, .int .i64 zNode.parent, .slice A9 zNode.program.length c9, .int .i64 zNode.size, .int .i64 zNode.count, .int .u64 zNode.one, .int .u64 zNode.two] 65))) := below_al ((HB1.out.trans (HB2.out.mono HB1.out.size)).trans (hB3.mono (HB1.out.trans (HB2.out.mono HB1.out.size)).size)) _
      clear hds hB3
      go_upto_region 4 with fail
      generalize (w3.alloc (.cells #[.int .i64 zNode.id, .int .i64 zNode.parent, .slice A9 zNode.program.length c9, .int .i64 zNode.size, .int .i64 zNode.count, .int .u64 zNode.one, .int .u64 zNode.two] 65)) = W4 at *
      go_quiet (fail)
      have HR4 : Hid ((W4.drewN nq).heap[n + 1]? = some (.cells #[.slice none 0 0] 31)) := HR3.out
      have HB4 : Hid (Below w.heap.size w (W4.drewN nq)) := below_dN HB3.out nq
      generalize (W4.drewN nq) = W5 at *
      go_upto_region 5 with fail
      go_wp2_with (first | (refine wpList_store_row (w := W5) rfl _ _ _ rfl (n + 1) #[.slice none 0 0] rfl rfl _ _ HR4.out (by kernel_rfl) (by rfl) (by kernel_rfl) ?_; intro W6 hW6))
      refine bodyPost_ret (results_ctt rfl _ _ (n + 1) _ #[.slice none 0 0] _ _ rfl hW6.here Tryz.underlying31 rfl (by kernel_rfl)) rfl ?_
      exact ⟨.slice none 0 0, .slice none 0 0, by rw [HE.out]; rfl, by rw [HE.out]; exact (HZP.out _ _).1, by rw [HE.out]; exact (HZP.out _ _).2, HB4.out.trans (hW6.bel.mono (by rw [HN.out]; omega))⟩
    | some x =>
      rw [hf] at HFI
      have hge : giveE xs t = if x.count = (kids xs t : Int) then 4 else 0 := by unfold giveE; rw [hf]
      have HGE := Lib.hid hge
      have HCL := Lib.hid (Climb.start HPOOL.out hf)
      have HFX := Lib.hid hf
      clear hf hge
      go_wp2_with fail
      refine HFI.out.mono ?_
      rintro e w3 ⟨ds, rfl, hds, hB3⟩
      obtain ⟨A9, c9, rfl, g0, g1, g2, g3, g4, g5, g6⟩ := kNode.opn hds
      obtain ⟨m, hm⟩ : ∃ m, w3.heap.size = m := ⟨_, rfl⟩
      have q2 := g2.2.2.1
      have hs2 : n + 2 ≤ w3.heap.size := by
        have h1 := HB2.out.size
        have h2 := hB3.size
        have h3 := blk_lt F2.out
        omega
      have hmn : n + 2 ≤ m := by omega
      have HW3 : Hid (Below w.heap.size w w3) := (HB1.out.trans (HB2.out.mono HB1.out.size)).trans (hB3.mono (HB1.out.trans (HB2.out.mono HB1.out.size)).size)
      have HB4 : Hid (Below w.heap.size w (w3.alloc (.cells #[.int .i64 x.id, .int .i64 x.parent, .slice A9 x.program.length c9, .int .i64 x.size, .int .i64 x.count, .int .u64 x.one, .int .u64 x.two] 65))) := below_al HW3.out _
      have HST : Hid (GiveSt w n m ok xs x [] (.slice none 0 0) A c A9 c9 (w3.alloc (.cells #[.int .i64 x.id, .int .i64 x.parent, .slice A9 x.program.length c9, .int .i64 x.size, .int .i64 x.count, .int .u64 x.one, .int .u64 x.two] 65))) := by
        have hrow3 : kNode.Row w3 (fun q => ok q ∧ q < w.heap.size) A xs := (HROW.out.bel HB2.out).bel hB3
        refine ⟨blk_al (blk_bel hB3 HP2.out) _, blk_al (blk_bel hB3 HR2.out) _, by rw [← hm]; exact blk_new _ _, Kd.Row.mono (fun q hq => .inl ⟨hq.1, by rw [← HN.out]; exact hq.2⟩) (hrow3.bel (below_al (Below.refl _ _) _)), HCAP.out, kNode.mono (fun q hq => .inl ⟨hq.1, by rw [← HN.out]; exact hq.2⟩) (kNode.bel hds (below_al (Below.refl _ _) _)), Kd.Own.nil _ _ _ _ _, by rw [← HN.out]; exact HB4.out⟩
      have HSM : Hid ((w3.alloc (.cells #[.int .i64 x.id, .int .i64 x.parent, .slice A9 x.program.length c9, .int .i64 x.size, .int .i64 x.count, .int .u64 x.one, .int .u64 x.two] 65)).heap.size = m + 1) := by simp [Hid, hm]
      clear hds hB3 g0 g1 g2 g3 g4 g5 g6 hs2
      go_upto_region 4 with fail
      generalize (w3.alloc (.cells #[.int .i64 x.id, .int .i64 x.parent, .slice A9 x.program.length c9, .int .i64 x.size, .int .i64 x.count, .int .u64 x.one, .int .u64 x.two] 65)) = W4 at *
      clear hm
      have z4 : W4.cell? ⟨m, 4, none⟩ = some (.int .i64 x.count) := blk_cell HST.out.node 4
      have y0 : W4.cell? ⟨n, 0, none⟩ = some (.slice A xs.length c) := blk_cell HST.out.box 0
      have HCE : Hid (∀ W, Below W4.heap.size W4 W → W.cell? ⟨m, 4, none⟩ = some (.int .i64 x.count) ∧ W.cell? ⟨n, 0, none⟩ = some (.slice A xs.length c)) := fun W h => ⟨cell_bel h z4, cell_bel h y0⟩
      have HKI := Lib.hid (fun (W : World) (h : Below W4.heap.size W4 W) => c_children xs c A t _ W (HST.out.row.bel h))
      have hkl := kids_le xs t
      generalize kids xs t = kv at *
      go_region_held3 (fun w' => w'.cell? ⟨m, 4, none⟩ = some (.int .i64 x.count) ∧ w'.cell? ⟨n, 0, none⟩ = some (.slice A xs.length c))
        (first | exact HCE.out _ hb5 | exact HCE.out _ (below_d1 (Below.refl _ _)) | exact HCE.out _ (Below.refl _ _))
        (first
        | (go_at_call 101; (with_reducible refine (HKI.out _ (below_d1 (Below.refl _ _))).mono ?_); rintro e w5 ⟨rfl, hb5'⟩; have hb5 : Below W4.heap.size W4 w5 := undrew hb5'))
      rename_i hHeld
      have HB5 := Lib.hid hb5
      have HBW5 : Hid (Below w.heap.size w w5) := HB4.out.trans (HB5.out.mono HB4.out.size)
      clear hHeld hb5 hb5' z4 y0 HKI
      by_cases hk : x.count = (kv : Int)
      · have hd : (x.count == (kv : Int)) = true := by rw [beq_iff_eq]; exact hk
        have HE : Hid (giveF xs t = ([], [], 4)) := by rw [HGF2.out, HGE.out, if_pos hk]; exact rfl
        have HR5 := Lib.hid (blk_bel HB5.out HST.out.res)
        clear HGF2 HGE hk
        go_upto_region 5 with fail
        go_wp2_with (first | (refine wpList_store_row (w := w5) rfl _ _ _ rfl (n + 1) #[.slice none 0 0] rfl rfl _ _ HR5.out (by kernel_rfl) (by rfl) (by kernel_rfl) ?_; intro W6 hW6))
        refine bodyPost_ret (results_ctt rfl _ _ (n + 1) _ #[.slice none 0 0] _ _ rfl hW6.here Tryz.underlying31 rfl (by kernel_rfl)) rfl ?_
        exact ⟨.slice none 0 0, .slice none 0 0, by rw [HE.out]; rfl, by rw [HE.out]; exact (HZP.out _ _).1, by rw [HE.out]; exact (HZP.out _ _).2, HBW5.out.trans (hW6.bel.mono (by rw [HN.out]; omega))⟩
      · have hd : (x.count == (kv : Int)) = false := by rw [beq_eq_false_iff_ne]; exact hk
        have HE : Hid (giveF xs t = ((giveG xs t).1, (giveG xs t).2, 0)) := by rw [HGF2.out, HGE.out, if_neg hk]; exact rfl
        have HST5 : Hid (GiveSt w n m ok xs x [] (.slice none 0 0) A c A9 c9 w5) := ⟨blk_bel HB5.out HST.out.box, blk_bel HB5.out HST.out.res, blk_bel HB5.out HST.out.node, HST.out.row.bel HB5.out, HST.out.cap, kNode.bel HST.out.kn HB5.out, Kd.Own.nil _ _ _ _ _, by rw [← HN.out]; exact HBW5.out⟩
        have HST0 : Hid (∃ (ys : List Node) (y : Node) (tt : Int) (gs : List Int) (vg : Value) (Ap : Option Addr) (cp : Nat) (A8 : Option Addr) (c8 : Nat), ((0 : Nat) : Int) = gs.length ∧ vg = .slice none 0 0 ∧ Hid ((findN ys tt).isSome = true) ∧ Hid ((findN ys tt).getD zNode = y) ∧ Hid (Climb xs t ys tt gs) ∧ Hid (GiveSt w n m ok ys y gs vg Ap cp A8 c8 w5)) := ⟨xs, x, t, [], .slice none 0 0, A, c, A9, c9, rfl, rfl, (show _ = _ by rw [HFX.out]; rfl), (show _ = _ by rw [HFX.out]; rfl), HCL.out, HST5.out⟩
        clear HGF2 HGE hk HCL HFX
        simp only [hd]
        clear hd
        go_wp2_with fail
        clear HST HST5 HB4 HSM HCE HB5 HBW5 HW3
        go_loopw [8, 9, 10] (fun th vg i wr => ∃ (j : Nat) (ys : List Node) (y : Node) (tt : Int) (gs : List Int) (Ap : Option Addr) (cp : Nat) (A8 : Option Addr) (c8 : Nat) (b : Bool), j ≤ 24 ∧ i = .int .i64 j ∧ th = .bool b ∧ Hid (gs.length = j) ∧ Hid ((findN ys tt).isSome = b) ∧ Hid ((findN ys tt).getD zNode = y) ∧ Hid (Climb xs t ys tt gs) ∧ Hid (GiveSt w n m ok ys y gs vg Ap cp A8 c8 wr)) (fun _ _ i _ => 25 - (intOf i).toNat)
        case atStart =>
          obtain ⟨ys, y, tt, gs, vg, Ap, cp, A8, c8, h1, rfl, h3, h4, h5, h6⟩ := HST0.out
          exact ⟨0, ys, y, tt, gs, Ap, cp, A8, c8, true, by omega, rfl, rfl, (show _ = _ by omega), h3, h4, h5, h6⟩
        case round =>
          clear HST0
          obtain ⟨j, ys, y, tt, gs, Ap, cp, A8, c8, b, hj, rfl, rfl, hgl, hfb, hfy, hcl, hS⟩ := hrel
          obtain ⟨Av, cv, hvf, hvl, hvc⟩ := hS.out.gone.form
          subst hvf
          have hj25 : decide ((j : Int) < 25) = true := decide_eq_true (by omega)
          have hyl : ys.length ≤ 24 := by have := hcl.out.len; omega
          have hgle : gs.length ≤ 24 := by have := hgl.out; omega
          cases b with
          | false =>
            have htt : tt = 0 := by
              rcases Decidable.em (tt = 0) with h | h
              · exact h
              · have h1 := hcl.out.found h
                have h2 := hfb.out
                cases hq : findN ys tt with
                | none => exact absurd hq h1
                | some z => rw [hq] at h2; cases h2
            have HTOP : Hid (giveG xs t = (ys, gs)) := by have h := hcl.out; rw [htt] at h; exact h.top
            clear htt hfb hfy hcl
            have p0 : wr.cell? ⟨n, 0, none⟩ = some (.slice Ap ys.length cp) := blk_cell hS.out.box 0
            have HRF := Lib.hid hS.out.res
            go_upto_region 15 with fail
            go_wp2_with (first | (refine wpList_store_row (w := wr) rfl _ _ _ rfl (n + 1) #[.slice Ap ys.length cp] rfl rfl _ _ HRF.out (by kernel_rfl) (by rfl) (by kernel_rfl) ?_; intro W6 hW6))
            refine bodyPost_ret (results_ctt rfl _ _ (n + 1) _ #[.slice Ap ys.length cp] _ _ rfl hW6.here Tryz.underlying31 rfl (by kernel_rfl)) rfl ?_
            refine ⟨.slice Ap ys.length cp, .slice Av gs.length cv, by rw [HE.out, HTOP.out]; rfl, ?_, ?_, by rw [HN.out]; exact hS.out.bel.trans (hW6.bel.mono (by omega))⟩
            · rw [HE.out, HTOP.out]
              refine kPool.mono (fun q hq => ?_) (Kd.move (d := kPool) (kPool.mk (x := ⟨ys⟩) ⟨hS.out.cap.1, hS.out.cap.2, hS.out.row⟩) (fun k hk _ => hW6.far k (by rcases hk with h | h <;> omega)))
              rcases hq with h | h
              · exact .inl h.1
              · exact .inr (by rw [HN.out]; omega)
            · rw [HE.out, HTOP.out]
              exact (Kd.int .i64).slice.mono (fun q hq => by rw [HN.out]; omega) (Kd.move (d := (Kd.int .i64).slice) hS.out.gone.K (fun k hk _ => hW6.far k (by omega)))
          | true =>
            obtain ⟨i1, hi1, hfi, hyi⟩ : ∃ (i1 : Nat) (hi1 : i1 < ys.length), findN ys tt = some ys[i1] ∧ y = ys[i1] := by
              have h2 := hfb.out
              have h3 := hfy.out
              cases hq : findN ys tt with
              | none => rw [hq] at h2; cases h2
              | some z =>
                rw [hq] at h3
                obtain ⟨i1, hi1, rfl⟩ := List.getElem_of_mem (find_mem hq)
                exact ⟨i1, hi1, rfl, h3.symm⟩
            have hid : y.id = tt := by rw [hyi]; exact find_id hfi
            have hcn : 1 ≤ y.count := by rw [hyi]; exact hcl.out.cnt _ (List.getElem_mem hi1)
            have h0 : tt ≠ 0 := by have h := hcl.out.ids _ (List.getElem_mem hi1); rw [← hyi] at h; omega
            obtain ⟨zs, hzs⟩ : ∃ zs, zs = putN ys (down y) := ⟨_, rfl⟩
            have HSTOP : Hid (0 < y.count - 1 → giveG xs t = (zs, gs)) := fun h => by
              rw [hzs, hyi, put_set hcl.out.rise hi1 (by rw [← hyi]; exact h)]
              exact hcl.out.stop hi1 hfi (by rw [← hyi]; exact h)
            have HNEXT : Hid (y.count = 1 → Climb xs t zs y.parent (gs ++ [y.id])) := fun h => by
              rw [hzs, hid, hyi, put_gone hcl.out.rise hi1 (by rw [← hyi]; exact h)]
              exact hcl.out.next h0 hi1 hfi (by rw [← hyi]; exact h)
            have HZS := Lib.hid hzs
            clear hyi hid h0 hzs hfi hfb hfy hcl hi1 i1
            obtain ⟨A9, c9, he9, g0, g1, g2, g3, g4, g5, g6⟩ := kNode.opn hS.out.kn
            simp only [List.cons.injEq, Value.slice.injEq, true_and, and_true] at he9
            obtain ⟨rfl, rfl⟩ := he9
            simp only [Kd.rng] at g4
            have hyid := g0
            have q8 := g2.2.2.1
            have hs1 : IntKind.i64.wrap (y.count - 1) = y.count - 1 := by rw [wrap_i64 (by omega)]
            have HKD : Hid (kNode.K wr (okG ok n m (.slice Av gs.length cv)) (down y) [.int .i64 y.id, .int .i64 y.parent, .slice A8 y.program.length c8, .int .i64 y.size, .int .i64 (y.count - 1), .int .u64 y.one, .int .u64 y.two]) := kNode.mk (x := down y) g0 g1 g2 g3 ⟨by simp only [down]; omega, by simp only [down]; omega⟩ g5 g6
            have z4 : wr.cell? ⟨m, 4, none⟩ = some (.int .i64 y.count) := blk_cell hS.out.node 4
            have f4 : wr.frozen? ⟨m, 4, none⟩ = false := blk_free hS.out.node 4
            have hmW := blk_lt hS.out.node
            have HS4 : Hid (GiveSt4 w n m ok ys y gs (.slice Av gs.length cv) Ap cp A8 c8 (wr.setCell ⟨m, 4, none⟩ (.int .i64 (y.count - 1)))) :=
              ⟨blk_far hS.out.box (by simp only; omega) _, blk_far hS.out.res (by simp only; omega) _, blk_set (j := 4) hS.out.node _, Kd.Row.move hS.out.row (fun q hq _ => Below.heap_setCell _ _ _ q (by rcases hq with h | h <;> simp only <;> omega)), Kd.far (d := kNode) HKD.out (p := ⟨m, 4, none⟩) (fun q hq => by rcases hq with h | h <;> simp only <;> omega) _, hS.out.gone.far (p := ⟨m, 4, none⟩) (fun q hq => by simp only; omega) _, hS.out.bel.setCell (p := ⟨m, 4, none⟩) (by simp only; omega) _⟩
            clear hS HKD g0 g1 g2 g3 g5 g6
            go_upto_region 11 with fail
            generalize (wr.setCell ⟨m, 4, none⟩ (.int .i64 (y.count - 1))) = W4 at *
            clear z4 f4 hmW
            have p0 : W4.cell? ⟨n, 0, none⟩ = some (.slice Ap ys.length cp) := blk_cell HS4.out.box 0
            have y0 : W4.cell? ⟨m, 0, none⟩ = some (.int .i64 y.id) := blk_cell HS4.out.node 0
            have y1 : W4.cell? ⟨m, 1, none⟩ = some (.int .i64 y.parent) := blk_cell HS4.out.node 1
            have y2 : W4.cell? ⟨m, 2, none⟩ = some (.slice A8 y.program.length c8) := blk_cell HS4.out.node 2
            have y3 : W4.cell? ⟨m, 3, none⟩ = some (.int .i64 y.size) := blk_cell HS4.out.node 3
            have y4 : W4.cell? ⟨m, 4, none⟩ = some (.int .i64 (y.count - 1)) := blk_cell HS4.out.node 4
            have y5 : W4.cell? ⟨m, 5, none⟩ = some (.int .u64 y.one) := blk_cell HS4.out.node 5
            have y6 : W4.cell? ⟨m, 6, none⟩ = some (.int .u64 y.two) := blk_cell HS4.out.node 6
            have HPUT := Lib.hid (c_put ys cp Ap (down y) _ [.int .i64 y.id, .int .i64 y.parent, .slice A8 y.program.length c8, .int .i64 y.size, .int .i64 (y.count - 1), .int .u64 y.one, .int .u64 y.two] W4 HS4.out.row (by omega) HS4.out.kn)
            rw [← HZS.out] at HPUT
            go_upto_region 12 with (first | (go_at_call 97; refine HPUT.out.mono ?_; rintro e w7 ⟨v, rfl, hK7, hB7⟩; have hvf := (show ∃ A7 c7, v = .slice A7 zs.length c7 ∧ zs.length ≤ c7 ∧ c7 ≤ maxLen ∧ kNode.Row w7 (fun q => okG ok n m (.slice Av gs.length cv) q ∨ W4.heap.size ≤ q) A7 zs by obtain ⟨A7, c7, hv, h1, h2, h3⟩ := hK7; simp only [List.cons.injEq, and_true] at hv; exact ⟨A7, c7, hv, h1, h2, h3⟩); obtain ⟨A7, c7, hvf, hc7, hm7, hr7⟩ := hvf; subst hvf; have b7 := cell_bel hB7 p0; have f7 := blk_free (blk_bel hB7 HS4.out.box) 0))
            have HS8 : Hid (GiveSt8 w n m ok zs y gs (.slice Av gs.length cv) A7 c7 A8 c8 (w7.setCell ⟨n, 0, none⟩ (.slice A7 zs.length c7))) := by
              have hm4 := blk_lt HS4.out.node
              refine ⟨blk_set (j := 0) (blk_bel hB7 HS4.out.box) _, blk_far (blk_bel hB7 HS4.out.res) (by simp only; omega) _, blk_far (blk_bel hB7 HS4.out.node) (by simp only; omega) _, ?_, ⟨hc7, hm7⟩, (HS4.out.gone.bel hB7).far (p := ⟨n, 0, none⟩) (fun q hq => by simp only; omega) _, ?_⟩
              · refine Kd.Row.mono (fun q hq => ?_) (Kd.Row.move hr7 (fun q hq _ => Below.heap_setCell _ _ _ q (by
                  rcases hq with (h | h) | h <;> simp only <;> omega)))
                rcases hq with h | h
                · exact h
                · exact .inr ⟨by omega, fun e => by have := HS4.out.gone.lt_ _ e.symm; omega⟩
              · exact (HS4.out.bel.trans (hB7.mono (Nat.le_trans (Nat.le_of_eq HN.out.symm) HS4.out.bel.size))).setCell (p := ⟨n, 0, none⟩) (Nat.le_refl _) _
            clear hK7 hB7 hr7 b7 f7 hc7 hm7 HPUT p0 y0 y1 y2 y3 y4 y5 y6 HS4
            generalize (w7.setCell ⟨n, 0, none⟩ (.slice A7 zs.length c7)) = W8 at *
            have z4 : W8.cell? ⟨m, 4, none⟩ = some (.int .i64 (y.count - 1)) := blk_cell HS8.out.node 4
            by_cases hcy : 0 < y.count - 1
            · have hd : decide (0 < y.count - 1) = true := decide_eq_true hcy
              have HTOP := Lib.hid (HSTOP.out hcy)
              have p0 : W8.cell? ⟨n, 0, none⟩ = some (.slice A7 zs.length c7) := blk_cell HS8.out.box 0
              have HRF := Lib.hid HS8.out.res
              go_upto_region 15 with fail
              go_wp2_with (first | (refine wpList_store_row (w := W8) rfl _ _ _ rfl (n + 1) #[.slice A7 zs.length c7] rfl rfl _ _ HRF.out (by kernel_rfl) (by rfl) (by kernel_rfl) ?_; intro W6 hW6))
              refine bodyPost_ret (results_ctt rfl _ _ (n + 1) _ #[.slice A7 zs.length c7] _ _ rfl hW6.here Tryz.underlying31 rfl (by kernel_rfl)) rfl ?_
              refine ⟨.slice A7 zs.length c7, .slice Av gs.length cv, by rw [HE.out, HTOP.out]; rfl, ?_, ?_, by rw [HN.out]; exact HS8.out.bel.trans (hW6.bel.mono (by omega))⟩
              · rw [HE.out, HTOP.out]
                refine kPool.mono (fun q hq => ?_) (Kd.move (d := kPool) (kPool.mk (x := ⟨zs⟩) ⟨HS8.out.cap.1, HS8.out.cap.2, HS8.out.row⟩) (fun k hk _ => hW6.far k (by rcases hk with h | h <;> omega)))
                rcases hq with h | h
                · exact .inl h.1
                · exact .inr (by rw [HN.out]; omega)
              · rw [HE.out, HTOP.out]
                exact (Kd.int .i64).slice.mono (fun q hq => by rw [HN.out]; omega) (Kd.move (d := (Kd.int .i64).slice) HS8.out.gone.K (fun k hk _ => hW6.far k (by omega)))
            · have hd : decide (0 < y.count - 1) = false := decide_eq_false hcy
              have HCL9 := Lib.hid (HNEXT.out (by omega))
              have z0 : W8.cell? ⟨m, 0, none⟩ = some (.int .i64 y.id) := blk_cell HS8.out.node 0
              obtain ⟨s8, hs8⟩ : ∃ s, W8.heap.size = s := ⟨_, rfl⟩
              have hm8 := blk_lt HS8.out.node
              have hlit : (Kd.int .i64).Row (W8.alloc (.cells #[.int .i64 y.id] 3)) (fun _ => True) (some ⟨W8.heap.size, 0, none⟩) [y.id] := (own_row (Kd.Own.lit (d := Kd.int .i64) (w := W8) (e := 3) (base := 0) (ok := fun _ => True) (n := 1) (xs := [y.id]) (cells := [.int .i64 y.id]) rfl (Kd.Reps.single ⟨rfl, hyid⟩) (Nat.zero_le _) (by unfold maxLen; simp) trivial)).2.2
              rw [hs8] at hlit hm8
              have hle9 : (gs ++ [y.id]).length = gs.length + 1 := by simp
              have HSA := Lib.hid (HS8.out.gone.al (.cells #[.int .i64 y.id] 3))
              go_upto_region 14 with (first | (at_builtin; refine wp_append_kd (d := Kd.int .i64) (base := m + 1) rfl _ _ 58 3 _ 8 rfl Tryz.underlying58 infoInt rfl (.slice Av gs.length cv) gs (some ⟨s8, 0, none⟩) 1 1 [y.id] rfl rfl HSA.out rfl hlit (fun _ _ h => h) (by unfold maxLen; omega) (by omega) (by rw [World.size_alloc]; omega) (fun q hq => by rw [World.size_alloc] at hq; omega) ?_; intro v1 w9 hO9 hg9 hat9; obtain ⟨A10, c10, hv10, hl10, hm10⟩ := hO9.form; rw [hle9] at hv10; subst hv10))
              have HS9 : Hid (GiveSt8 w n m ok zs y (gs ++ [y.id]) (.slice A10 (gs.length + 1) c10) A7 c7 A8 c8 w9) := by
                have hb : Below (m + 1) W8 w9 := ((below_al (Below.refl W8.heap.size W8) (.cells #[.int .i64 y.id] 3)).mono (by omega)).grown hg9 (by rw [World.size_alloc]; omega) (fun k hk => HS8.out.gone.le k hk)
                refine ⟨(hb.block n (by omega)).trans HS8.out.box, (hb.block (n + 1) (by omega)).trans HS8.out.res, (hb.block m (by omega)).trans HS8.out.node, ?_, HS8.out.cap, hO9, HS8.out.bel.trans (hb.mono (by omega))⟩
                have hr := (HS8.out.row.bound).bel (below_al (Below.refl _ _) (.cells #[.int .i64 y.id] 3))
                refine Kd.Row.mono (fun q hq => ?_) (Kd.Row.move hr (fun q hq hlt => hg9.block q hlt (by
                  rcases hq.1 with h | h
                  · exact fun e => by have := HS8.out.gone.le q e.symm; omega
                  · exact h.2)))
                rcases hq.1 with h | h
                · exact .inl h
                · refine .inr ⟨h.1, fun e => ?_⟩
                  rcases hat9 with hat | hat
                  · rw [hat] at e; exact h.2 e
                  · rw [hat] at e
                    simp only [Option.some.injEq, World.size_alloc] at e
                    have := hq.2
                    omega
              clear hO9 hg9 hat9 HSA hlit z0 z4 HS8 hs8 hm8
              have p0 : w9.cell? ⟨n, 0, none⟩ = some (.slice A7 zs.length c7) := blk_cell HS9.out.box 0
              have z1 : w9.cell? ⟨m, 1, none⟩ = some (.int .i64 y.parent) := blk_cell HS9.out.node 1
              have HFI := Lib.hid (c_refFind zs c7 A7 y.parent _ w9 HS9.out.row)
              obtain ⟨b2, hb2⟩ : ∃ b2, (findN zs y.parent).isSome = b2 := ⟨_, rfl⟩
              rw [hb2] at HFI
              have HFB := Lib.hid hb2
              obtain ⟨y2, hy2⟩ : ∃ y2, (findN zs y.parent).getD zNode = y2 := ⟨_, rfl⟩
              rw [hy2] at HFI
              have HFY := Lib.hid hy2
              have hzl : zs.length ≤ 23 := by have h := HCL9.out.len; rw [hle9] at h; omega
              clear hb2 hy2
              go_wp2_with fail
              refine HFI.out.mono ?_
              rintro e w10 ⟨ds, rfl, hds, hB10⟩
              obtain ⟨A12, c12, rfl, -⟩ := kNode.opn hds
              have HD10 := Lib.hid hds
              have HB10 := Lib.hid hB10
              have HNO10 := Lib.hid (blk_bel hB10 HS9.out.node)
              clear hds hB10 HFI p0 z1
              go_wp2_with (first | (refine wpList_store_row (w := w10) rfl _ _ _ rfl m #[.int .i64 y2.id, .int .i64 y2.parent, .slice A12 y2.program.length c12, .int .i64 y2.size, .int .i64 y2.count, .int .u64 y2.one, .int .u64 y2.two] rfl rfl _ _ HNO10.out (by kernel_rfl) (by rfl) (by kernel_rfl) ?_; intro W11 hW11))
              have HS11 : Hid (GiveSt w n m ok zs y2 (gs ++ [y.id]) (.slice A10 (gs.length + 1) c10) A7 c7 A12 c12 W11) := by
                have hf : ∀ q, okG ok n m (.slice A10 (gs.length + 1) c10) q → q ≠ m := fun q hq => by rcases hq with h | h <;> omega
                exact ⟨(hW11.far n (by omega)).trans (blk_bel HB10.out HS9.out.box), (hW11.far (n + 1) (by omega)).trans (blk_bel HB10.out HS9.out.res), hW11.here, Kd.Row.move (HS9.out.row.bel HB10.out) (fun q hq _ => hW11.far q (hf q hq)), HS9.out.cap, Kd.move (d := kNode) HD10.out (fun q hq _ => hW11.far q (hf q hq)), Kd.Own.shift (plain_int .i64) (HS9.out.gone.bel HB10.out) (fun q hq => ⟨hW11.far q (by have := HS9.out.gone.le q hq; omega), HS9.out.gone.ok_ q hq⟩), (HS9.out.bel.trans (HB10.out.mono (by rw [← HN.out]; exact HS9.out.bel.size))).trans (hW11.bel.mono (by omega))⟩
              clear hW11
              go_wp2_with fail
              go_roundw
              case rel => exact ⟨j + 1, zs, y2, y.parent, gs ++ [y.id], A7, c7, A12, c12, b2, by have := hgl.out; have h := HCL9.out.len; rw [hle9] at h; omega, by go_num, rfl, (show _ = _ by rw [hle9, hgl.out]), HFB.out, HFY.out, HCL9.out, HS11.out⟩
              case measure => simp [intOf]; omega
  · have hd : decide (poolE xs = 0) = false := decide_eq_false hp
    rw [hd] at HRI
    have HE : Hid (giveF xs t = ([], [], 190)) := HGF.out.trans (if_neg hp)
    clear HGF hd hp
    go_wp2_with fail
    refine HRI.out.mono ?_
    rintro e w2 ⟨rfl, hB2⟩
    have HB2 := Lib.hid hB2
    have HR2 := Lib.hid (blk_bel hB2 F2.out)
    clear hB2 p0 HRI
    go_upto_region 2 with fail
    go_wp2_with (first | (refine wpList_store_row (w := w2) rfl _ _ _ rfl (n + 1) #[.slice none 0 0] rfl rfl _ _ HR2.out (by kernel_rfl) (by rfl) (by kernel_rfl) ?_; intro W6 hW6))
    refine bodyPost_ret (results_ctt rfl _ _ (n + 1) _ #[.slice none 0 0] _ _ rfl hW6.here Tryz.underlying31 rfl (by kernel_rfl)) rfl ?_
    exact ⟨.slice none 0 0, .slice none 0 0, by rw [HE.out]; rfl, by rw [HE.out]; exact (HZP.out _ _).1, by rw [HE.out]; exact (HZP.out _ _).2, (HB1.out.trans (HB2.out.mono HB1.out.size)).trans (hW6.bel.mono (by rw [HN.out]; omega))⟩
end Go.Proofs.YtbojjjiggppnaaaGreat
