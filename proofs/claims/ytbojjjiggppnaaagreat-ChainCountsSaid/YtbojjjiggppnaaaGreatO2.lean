/- The walk of chain.Give's change. -/
import Derived.Test.YtbojjjiggppnaaaGreatO1
import Derived.Test.YtbojjjiggppnaaaGreatN5
import Derived.Test.YtbojjjiggppnaaaGreatH0
import Derived.WalkMore
import Derived.Deep.CutRange
namespace Go.Proofs.YtbojjjiggppnaaaGreat
open Go.RowKit Go.Shelf
set_option linter.unusedVariables false
set_option linter.unusedSimpArgs false

def giveE (xs : List Node) (t : Int) : Int := match findN xs t with
  | none => 4
  | some x => if x.count = (kids xs t : Int) then 4 else 0
/-- Up the way from t: what is left to do. -/
structure Climb (xs : List Node) (t : Int) (ys : List Node) (tt : Int) (gs : List Int) : Prop where
  rise : Rising ys
  cnt : ∀ x ∈ ys, 1 ≤ x.count
  ids : ∀ x ∈ ys, 1 ≤ x.id
  up : ∃ S, Sound ys S ∧ (tt ≠ 0 → ∃ y, findN ys tt = some y ∧ y.size ≤ S)
  all : giveG xs t = ((giveG ys tt).1, gs ++ (giveG ys tt).2)
  len : gs.length + ys.length = xs.length
theorem Climb.start {xs : List Node} {t : Int} (h : poolE xs = 0) {x : Node} (hf : findN xs t = some x) : Climb xs t xs t [] := by
  obtain ⟨h1, h2⟩ := poolE_inv h
  refine ⟨h1.rising, fun y hy => ?_, fun y hy => ?_, ⟨x.size, sound_of h2 _, fun _ => ⟨x, hf, Int.le_refl _⟩⟩, by simp, by simp⟩
  · have := (h2 y hy).1
    omega
  · obtain ⟨i, hi, rfl⟩ := List.getElem_of_mem hy
    exact (h1 i hi hi).2.1
theorem Climb.top {xs : List Node} {t : Int} {ys : List Node} {gs : List Int} (h : Climb xs t ys 0 gs) : giveG xs t = (ys, gs) := by
  have hn : findN ys 0 = none := find_none (fun j hj e => by have := h.ids _ (List.getElem_mem hj); omega)
  rw [h.all, giveG_none hn]
  simp
theorem Climb.stop {xs : List Node} {t tt : Int} {ys : List Node} {gs : List Int} (h : Climb xs t ys tt gs) {i : Nat} (hi : i < ys.length) (hf : findN ys tt = some ys[i]) (hc : 0 < ys[i].count - 1) : giveG xs t = (ys.set i (down ys[i]), gs) := by
  rw [h.all, giveG_keep h.rise hi hf hc]
  simp
theorem Climb.next {xs : List Node} {t tt : Int} {ys : List Node} {gs : List Int} (h : Climb xs t ys tt gs) (h0 : tt ≠ 0) {i : Nat} (hi : i < ys.length) (hf : findN ys tt = some ys[i]) (hc : ys[i].count = 1) : Climb xs t (ys.eraseIdx i) ys[i].parent (gs ++ [tt]) := by
  obtain ⟨S, hS, hu⟩ := h.up
  obtain ⟨y, hy, hys⟩ := hu h0
  rw [hf] at hy
  cases hy
  refine ⟨h.rise.erase i, fun x hx => h.cnt x (List.mem_of_mem_eraseIdx hx), fun x hx => h.ids x (List.mem_of_mem_eraseIdx hx), ⟨ys[i].size - 1, hS.erase h.rise hi hys, fun hp => hS.up h.rise hi hys hp⟩, ?_, ?_⟩
  · rw [h.all, giveG_gone h.rise hi hf hc]
    simp
  · have := h.len
    rw [List.length_eraseIdx, if_pos hi, List.length_append, List.length_singleton]
    omega
theorem Climb.found {xs : List Node} {t tt : Int} {ys : List Node} {gs : List Int} (h : Climb xs t ys tt gs) (h0 : tt ≠ 0) : findN ys tt ≠ none := by
  obtain ⟨S, hS, hu⟩ := h.up
  obtain ⟨y, hy, _⟩ := hu h0
  rw [hy]
  simp
theorem infoInt : (Tryz.prog.info? 3).map (fun i => (i.zero, i.size, i.bytes)) = some (some (.int .i64 0), 1, 8) := by kernel_rfl
/-- Behind the change: the pool's row, those that are gone. -/
structure Gave (xs : List Node) (t : Int) (bp bi bg base B0 : Nat) (A : Option Addr) (c : Nat) (ok : Nat → Prop) (w : World) (err : Int) (v vg : Value) (w' : World) : Prop where
  err_ : err = giveE xs t
  pool : w'.heap[bp]? = some (.cells #[v] 31)
  gone : w'.heap[bg]? = some (.cells #[vg] 58)
  one : v.oneCell' = true
  one2 : vg.oneCell' = true
  good : err = 0 → kNode.Own 65 w' base ok v (giveG xs t).1 ∧ (Kd.int .i64).Own 3 w' w.heap.size (fun q => w.heap.size ≤ q) vg (giveG xs t).2
  bad : err ≠ 0 → vg = .slice none 0 0
  far : ∀ k, k < w.heap.size → k ≠ bp → k ≠ bi → k ≠ bg → some k ≠ (Value.slice A xs.length c).ownBlock → w'.heap[k]? = w.heap[k]?
  bel : Below B0 w w'
/-- Behind the two stores of a round. -/
def Mid (w : World) (bp bi bg g c base B0 : Nat) (ok : Nat → Prop) (ys : List Node) (j : Nat) (y : Node) (gs : List Int) (W : World) : Prop :=
  ∃ v, W.heap[bp]? = some (.cells #[.slice (some ⟨g, 0, none⟩) ys.length c] 31) ∧ W.heap[bi]? = some (.cells #[.int .i64 y.parent] 3) ∧ W.heap[bg]? = some (.cells #[v] 58) ∧
    kNode.Own 65 W base (fun q => ok q ∧ q < w.heap.size) (.slice (some ⟨g, 0, none⟩) ys.length c) (ys.set j (down y)) ∧ (Kd.int .i64).Own 3 W w.heap.size (fun q => w.heap.size ≤ q) v gs ∧
    (∀ k, k < w.heap.size → k ≠ bp → k ≠ bi → k ≠ bg → k ≠ g → W.heap[k]? = w.heap[k]?) ∧ Below B0 w W
set_option maxRecDepth 100000 in
set_option maxHeartbeats 8000000 in
theorem c_give1 (xs : List Node) (n c : Nat) (A : Option Addr) (t : Int) (bp bi bg base B0 : Nat) (ok : Nat → Prop) (w : World) (hO : kNode.Own 65 w base ok (.slice A n c) xs) (hn0 : n = xs.length) (hl : xs.length ≤ 1000) (ht : Kd.rng .i64 t)
    (hp : w.heap[bp]? = some (.cells #[.slice A n c] 31)) (hi : w.heap[bi]? = some (.cells #[.int .i64 t] 3)) (hg : w.heap[bg]? = some (.cells #[.slice none 0 0] 58)) (hpool : poolE xs = 0)
    (hok : ∀ q, ok q → q ≠ bp ∧ q ≠ bi ∧ q ≠ bg) (hpi : bp ≠ bi) (hpg : bp ≠ bg) (hig : bi ≠ bg) (h0p : B0 ≤ bp) (h0i : B0 ≤ bi) (h0g : B0 ≤ bg) (h0b : B0 ≤ base) :
    Calls Tryz.prog 99 #[.pointer (some ⟨bp, 0, none⟩), .pointer (some ⟨bi, 0, none⟩), .pointer (some ⟨bg, 0, none⟩)] w fun e w' => ∃ err v vg, e = .returned (.int .i64 err) ∧ Gave xs t bp bi bg base B0 A c ok w err v vg w' := by
  subst hn0
  have hrow := (own_rowN hO)
  have HPL := Lib.hid (fun (W : World) (h : Below w.heap.size w W) => c_place xs _ c A t ok W (hrow.bel h) rfl (by omega))
  have HC : Hid (∀ W, Below w.heap.size w W → W.cell? ⟨bp, 0, none⟩ = some (.slice A xs.length c) ∧ W.cell? ⟨bi, 0, none⟩ = some (.int .i64 t)) := fun W h => ⟨blk_cell (blk_bel h hp) 0, blk_cell (blk_bel h hi) 0⟩
  have hxn := hrow.1
  have HB0 : Hid (B0 ≤ w.heap.size) := Nat.le_trans h0p (Nat.le_of_lt (blk_lt hp))
  have HBAD : Hid (giveE xs t = 4 → ∀ W, Below w.heap.size w W → ∃ err v vg, Ending.returned (.int .i64 4) = .returned (.int .i64 err) ∧ Gave xs t bp bi bg base B0 A c ok w err v vg W) := fun he W hW => ⟨4, .slice A xs.length c, .slice none 0 0, rfl, he.symm, blk_bel hW hp, blk_bel hW hg, rfl, rfl, (fun h => absurd h (by decide)), (fun _ => rfl), (fun k hk _ _ _ _ => hW.block k hk), hW.mono HB0.out⟩
  have HP := Lib.hid hp
  have HI := Lib.hid hi
  have HG := Lib.hid hg
  have HO := Lib.hid hO
  have HOK := Lib.hid hok
  have HPOOL := Lib.hid hpool
  obtain ⟨p0, i0⟩ := HC.out _ (Below.refl _ _)
  clear hrow hp hi hg hO hok hpool
  go_enter Tryz.func99, Tryz.ntmps99
  go_wp2_with fail
  refine wp_scope_straight ?_
  go_upto_region 1 with fail
  go_region_held3 (fun w' => w'.cell? ⟨bp, 0, none⟩ = some (.slice A xs.length c) ∧ w'.cell? ⟨bi, 0, none⟩ = some (.int .i64 t))
    (first | exact HC.out _ hb2 | exact HC.out _ (below_d1 (Below.refl _ _)) | exact HC.out _ (Below.refl _ _))
    (first
    | (go_at_call 86; (with_reducible refine (HPL.out _ (below_d1 (Below.refl _ _))).mono ?_); rintro e w2 ⟨i, rfl, hil, hP, hb2'⟩; have hb2 : Below w.heap.size w w2 := undrew hb2'))
  rename_i hHeld
  have HB2 := Lib.hid hb2
  have HAF := at_found (poolE_inv HPOOL.out).1.rising hP hil
  clear hHeld hb2 hb2' hP p0 i0
  rcases HAF with ⟨hat, hlt, hf⟩ | ⟨hat, hf⟩
  · have HF := Lib.hid hf
    rw [hat]
    clear hf hat hil
    obtain ⟨p0, i0⟩ := HC.out _ HB2.out
    have hi0 : (0 : Int) ≤ (i : Int) := by omega
    have hi1 : (i : Int) < (xs.length : Int) := by omega
    go_wp2_with fail
    clear p0 i0
    go_loopw [7, 9, 27] (fun s _ j wr => ∃ k : Nat, k ≤ xs.length ∧ j = .int .i64 k ∧ s = .int .i64 (kids (xs.take k) t) ∧ Hid (Below w.heap.size w wr)) (fun _ _ j _ => xs.length - (intOf j).toNat)
    case atStart => exact ⟨0, Nat.zero_le _, rfl, by simp [kids], HB2.out⟩
    case round =>
      obtain ⟨k, hk, rfl, rfl, hB⟩ := hrel
      by_cases hltk : k < xs.length
      · obtain ⟨ad, A2, c2, rfl, hok, ⟨g0, g1, g2, g3, g4, g5, g6⟩, e0, e1, e2, e3, e4, e5, e6⟩ := kNode.at_ (own_rowN (HO.out.bel hB.out)) hltk
        have hk0 : (0 : Int) ≤ (k : Int) := by omega
        have hk1 : (k : Int) < (xs.length : Int) := by omega
        have HS := Lib.hid (kids_step hltk t)
        have hle := kids_le (xs.take k) t
        rw [List.length_take] at hle
        have q2 := g2.2.2.1
        generalize xs[k] = x at *
        generalize kids (xs.take k) t = kv at *
        clear g0 g1 g2 g3 g4 g5 g6
        obtain ⟨m, hm⟩ : ∃ m, wr.heap.size = m := ⟨_, rfl⟩
        have f1 : (wr.alloc (.cells #[.int .i64 x.id, .int .i64 x.parent, .slice A2 x.program.length c2, .int .i64 x.size, .int .i64 x.count, .int .u64 x.one, .int .u64 x.two] 65)).heap[m]? = some (.cells #[.int .i64 x.id, .int .i64 x.parent, .slice A2 x.program.length c2, .int .i64 x.size, .int .i64 x.count, .int .u64 x.one, .int .u64 x.two] 65) := by rw [← hm]; exact blk_new _ _
        have f2 : Hid (Below w.heap.size w (wr.alloc (.cells #[.int .i64 x.id, .int .i64 x.parent, .slice A2 x.program.length c2, .int .i64 x.size, .int .i64 x.count, .int .u64 x.one, .int .u64 x.two] 65))) := below_al hB.out _
        have F1 := Lib.hid f1
        clear f1
        go_upto_region 8 with fail
        generalize (wr.alloc (.cells #[.int .i64 x.id, .int .i64 x.parent, .slice A2 x.program.length c2, .int .i64 x.size, .int .i64 x.count, .int .u64 x.one, .int .u64 x.two] 65)) = W3 at *
        have z1 : W3.cell? ⟨m, 1, none⟩ = some (.int .i64 x.parent) := blk_cell F1.out 1
        have i3 := (HC.out _ f2.out).2
        clear e0 e1 e2 e3 e4 e5 e6 hm
        by_cases hpt : x.parent = t
        · have HS' : Hid (kids (xs.take (k + 1)) t = kv + 1) := by rw [HS.out, if_pos hpt]; exact rfl
          have hp' : (x.parent == t) = true := by rw [beq_iff_eq]; exact hpt
          generalize x.parent = pp at *
          clear HS hpt
          go_wp2_with fail
          go_roundw
          case rel => exact ⟨k + 1, by omega, by go_num, by rw [HS'.out]; go_num, f2⟩
          case measure => simp [intOf]; omega
        · have HS' : Hid (kids (xs.take (k + 1)) t = kv) := by rw [HS.out, if_neg hpt]; exact rfl
          have hp' : (x.parent == t) = false := by rw [beq_eq_false_iff_ne]; exact hpt
          generalize x.parent = pp at *
          clear HS hpt
          go_wp2_with fail
          go_roundw
          case rel => exact ⟨k + 1, by omega, by go_num, by rw [HS'.out], f2⟩
          case measure => simp [intOf]; omega
      · obtain rfl : k = xs.length := by omega
        rw [List.take_length]
        obtain ⟨p0, i0⟩ := HC.out _ hB.out
        obtain ⟨ad, A2, c2, rfl, hok, -, e0, e1, e2, e3, e4, e5, e6⟩ := kNode.at_ (own_rowN (HO.out.bel hB.out)) hlt
        have HGE : Hid (giveE xs t = if xs[i].count = (kids xs t : Int) then 4 else 0) := by unfold giveE; rw [HF.out]; exact rfl
        clear e0 e1 e2 e3 e5 e6
        obtain ⟨q, hq⟩ : ∃ q, q = xs[i].count := ⟨_, rfl⟩
        rw [← hq] at e4 HGE
        have HQ := Lib.hid hq
        clear hq
        generalize kids xs t = kv at *
        by_cases hqk : q = (kv : Int)
        · have hqk' : (q == (kv : Int)) = true := by rw [beq_iff_eq]; exact hqk
          have HE : Hid (giveE xs t = 4) := by rw [HGE.out, if_pos hqk]; exact rfl
          clear hqk HGE
          go_wp2_with fail
          simp only [Exit.noGoto_ret]
          go_ret
          exact HBAD.out HE.out _ hB.out
        · have hqk' : (q == (kv : Int)) = false := by rw [beq_eq_false_iff_ne]; exact hqk
          have HE : Hid (giveE xs t = 0) := by rw [HGE.out, if_neg hqk]; exact rfl
          clear hqk HGE
          go_wp2_with fail
          refine wp_label ?_
          clear e4 p0 i0
          obtain ⟨g, c', hv, hbg, hokg, hgs, hfz⟩ := HO.out.at_ (by omega)
          simp only [Value.slice.injEq, true_and, Option.some.injEq] at hv
          obtain ⟨rfl, rfl⟩ := hv
          clear hok hfz HQ hqk'
          have HDONE : Hid (∀ (W : World) (ys : List Node) (vg : Value) (gs : List Int), W.heap[bp]? = some (.cells #[.slice (some ⟨g, 0, none⟩) ys.length c] 31) → W.heap[bg]? = some (.cells #[vg] 58) →
              kNode.Own 65 W base (fun q => ok q ∧ q < w.heap.size) (.slice (some ⟨g, 0, none⟩) ys.length c) ys → (Kd.int .i64).Own 3 W w.heap.size (fun q => w.heap.size ≤ q) vg gs → giveG xs t = (ys, gs) →
              (∀ k, k < w.heap.size → k ≠ bp → k ≠ bi → k ≠ bg → k ≠ g → W.heap[k]? = w.heap[k]?) → Below B0 w W → ∃ err v vg, Ending.returned (.int .i64 0) = .returned (.int .i64 err) ∧ Gave xs t bp bi bg base B0 (some ⟨g, 0, none⟩) c ok w err v vg W) := fun W ys vg gs h1 h2 h3 h4 h5 h6 h7 =>
            ⟨0, _, vg, rfl, HE.out.symm, h1, h2, rfl, by obtain ⟨A', c', rfl, -⟩ := h4.form; rfl, (fun _ => ⟨by rw [h5]; exact Kd.Own.mono (fun q hq => hq.1) h3, by rw [h5]; exact h4⟩), (fun h => absurd rfl h), (fun k hk k1 k2 k3 k4 => h6 k hk k1 k2 k3 (fun e => k4 (by rw [e]; rfl))), h7⟩
          have HSTART : Hid (∃ (ys : List Node) (tt : Int) (gs : List Int) (vg : Value), Hid (ys.length = xs.length) ∧ Hid (wr.heap[bp]? = some (.cells #[.slice (some ⟨g, 0, none⟩) ys.length c] 31)) ∧ Hid (wr.heap[bi]? = some (.cells #[.int .i64 tt] 3)) ∧ Hid (wr.heap[bg]? = some (.cells #[vg] 58)) ∧
              Hid (kNode.Own 65 wr base (fun q => ok q ∧ q < w.heap.size) (.slice (some ⟨g, 0, none⟩) ys.length c) ys) ∧ Hid ((Kd.int .i64).Own 3 wr w.heap.size (fun q => w.heap.size ≤ q) vg gs) ∧ Hid (Climb xs t ys tt gs) ∧ Kd.rng .i64 tt ∧
              Hid (∀ k, k < w.heap.size → k ≠ bp → k ≠ bi → k ≠ bg → k ≠ g → wr.heap[k]? = w.heap[k]?) ∧ Hid (Below B0 w wr)) :=
            ⟨xs, t, [], .slice none 0 0, rfl, blk_bel hB.out HP.out, blk_bel hB.out HI.out, blk_bel hB.out HG.out, HO.out.bound.bel hB.out, Kd.Own.nil _ _ _ _ _, Climb.start HPOOL.out HF.out, ht, fun k hk _ _ _ _ => hB.out.block k hk, hB.out.mono HB0.out⟩
          have HLT : Hid (bp < w.heap.size ∧ bi < w.heap.size ∧ bg < w.heap.size) := ⟨blk_lt HP.out, blk_lt HI.out, blk_lt HG.out⟩
          clear HPL HC HBAD HP HI HG HF hB HB2
          have hadd0 : ∀ m, (Addr.mk g 0 none).add m = ⟨g, m, none⟩ := fun m => by unfold Addr.add; by_cases h : m = 0 <;> simp [h]
          simp only [hadd0]
          clear hadd0
          go_wp2_with fail
          go_loopg [10, 11] xs.length (fun k p q wr => ∃ (ys : List Node) (tt : Int) (gs : List Int) (vg : Value), Hid (ys.length = k) ∧ Hid (wr.heap[bp]? = some (.cells #[.slice (some ⟨g, 0, none⟩) ys.length c] 31)) ∧ Hid (wr.heap[bi]? = some (.cells #[.int .i64 tt] 3)) ∧ Hid (wr.heap[bg]? = some (.cells #[vg] 58)) ∧
              Hid (kNode.Own 65 wr base (fun q => ok q ∧ q < w.heap.size) (.slice (some ⟨g, 0, none⟩) ys.length c) ys) ∧ Hid ((Kd.int .i64).Own 3 wr w.heap.size (fun q => w.heap.size ≤ q) vg gs) ∧ Hid (Climb xs t ys tt gs) ∧ Kd.rng .i64 tt ∧
              Hid (∀ k, k < w.heap.size → k ≠ bp → k ≠ bi → k ≠ bg → k ≠ g → wr.heap[k]? = w.heap[k]?) ∧ Hid (Below B0 w wr))
          case atStart => exact HSTART.out
          case round =>
            clear HSTART
            obtain ⟨ys, tt, gs, vg, hyk, hbp, hbi, hbg', hO, hOg, hcl, htt, hfar, hbel⟩ := hrel
            have p0 := blk_cell hbp.out 0
            have i0 := blk_cell hbi.out 0
            simp only [List.getElem?_toArray, List.getElem?_cons_zero] at p0 i0
            by_cases h0 : tt = 0
            · subst h0
              go_wp2_with fail
              simp only [Exit.noGoto_ret]
              go_ret
              exact HDONE.out wr ys vg gs hbp.out hbg'.out hO.out hOg.out hcl.out.top hfar.out hbel.out
            · have hne : (tt == 0) = false := by rw [beq_eq_false_iff_ne]; exact h0
              have hyl : ys.length ≤ 1000 := by have := hcl.out.len; omega
              have hgl : gs.length + ys.length ≤ 1000 := by have := hcl.out.len; omega
              have HC2 : Hid (∀ W, Below wr.heap.size wr W → W.cell? ⟨bp, 0, none⟩ = some (.slice (some ⟨g, 0, none⟩) ys.length c) ∧ W.cell? ⟨bi, 0, none⟩ = some (.int .i64 tt)) := fun W h => ⟨blk_cell (blk_bel h hbp.out) 0, blk_cell (blk_bel h hbi.out) 0⟩
              have HPL2 := Lib.hid (fun (W : World) (h : Below wr.heap.size wr W) => c_place ys _ c (some ⟨g, 0, none⟩) tt _ W ((own_rowN hO.out).bel h) rfl (by omega))
              go_upto_region 14 with fail
              go_region_held3 (fun w' => w'.cell? ⟨bp, 0, none⟩ = some (.slice (some ⟨g, 0, none⟩) ys.length c) ∧ w'.cell? ⟨bi, 0, none⟩ = some (.int .i64 tt))
                (first | exact HC2.out _ hb2 | exact HC2.out _ (below_d1 (Below.refl _ _)) | exact HC2.out _ (Below.refl _ _))
                (first
                | (go_at_call 86; (with_reducible refine (HPL2.out _ (below_d1 (Below.refl _ _))).mono ?_); rintro e w5 ⟨j, rfl, hjl, hP, hb2'⟩; have hb2 : Below wr.heap.size wr w5 := undrew hb2'))
              rename_i hHeld
              have HB5 := Lib.hid hb2
              have HAF := at_found hcl.out.rise hP hjl
              clear hHeld hb2 hb2' hP p0 i0 HPL2
              rcases HAF with ⟨hat, hjt, hf⟩ | ⟨hat, hf⟩
              · have HF := Lib.hid hf
                rw [hat]
                clear hf hat hjl
                obtain ⟨p0, i0⟩ := HC2.out _ HB5.out
                have hj0 : (0 : Int) ≤ (j : Int) := by omega
                have hj1 : (j : Int) < (ys.length : Int) := by omega
                have hO5 := hO.out.bel HB5.out
                have hbp5 := Lib.hid (blk_bel HB5.out hbp.out)
                have hbi5 := Lib.hid (blk_bel HB5.out hbi.out)
                have hbg5 := Lib.hid (blk_bel HB5.out hbg'.out)
                have hOg5 := Lib.hid (hOg.out.bel HB5.out)
                have hbel5 : Hid (Below B0 w w5) := hbel.out.trans (HB5.out.mono (Nat.le_trans HB0.out hbel.out.size))
                have hfar5 : Hid (∀ k, k < w.heap.size → k ≠ bp → k ≠ bi → k ≠ bg → k ≠ g → w5.heap[k]? = w.heap[k]?) := fun k hk h1 h2 h3 h4 => (HB5.out.block k (Nat.lt_of_lt_of_le hk hbel.out.size)).trans (hfar.out k hk h1 h2 h3 h4)
                obtain ⟨ad, A3, c3, had, hok3, ⟨g0, g1, g2, g3, g4, g5, g6⟩, e0, e1, e2, e3, e4, e5, e6⟩ := kNode.at_ (own_rowN hO5) hjt
                cases had
                have hadd : ∀ m, (Addr.mk g 0 none).add m = ⟨g, m, none⟩ := fun m => by unfold Addr.add; by_cases h : m = 0 <;> simp [h]
                simp only [hadd] at e0 e1 e2 e3 e4 e5 e6
                have f4 : w5.frozen? ⟨g, j * 7 + 4, none⟩ = false := by
                  obtain ⟨g', c'', hv', -, -, -, hf'⟩ := Kd.Own.at_ hO5 (by omega)
                  simp only [Value.slice.injEq, Option.some.injEq, Addr.mk.injEq, and_true] at hv'
                  obtain ⟨rfl, -⟩ := hv'
                  exact hf' _
                have hcn := hcl.out.cnt _ (List.getElem_mem hjt)
                obtain ⟨y, hy⟩ : ∃ y, y = ys[j] := ⟨_, rfl⟩
                have HO5 := Lib.hid hO5
                have HY := Lib.hid hy
                rw [← hy] at e1 e4 hcn g4 g1
                simp only [Kd.rng] at g4
                clear hO5 hbp hbi hbg' hO hOg hbel hfar HB5 HC2 e0 e2 e3 e5 e6 g0 g2 g3 g5 g6 hy
                have hs1 : IntKind.i64.wrap (y.count - 1) = y.count - 1 := by rw [wrap_i64 (by omega)]
                have HW6 : Hid (kNode.Own 65 (w5.setCell ⟨g, j * 7 + 4, none⟩ (.int .i64 (y.count - 1))) base (fun q => ok q ∧ q < w.heap.size) (.slice (some ⟨g, 0, none⟩) ys.length c) (ys.set j (down y))) := by
                  refine Kd.Own.store (f := 4) HO5.out hjt (by decide) _ _ (fun cs hK => ?_)
                  obtain ⟨A9, c9, rfl, k0, k1, k2, k3, k4, k5, k6⟩ := kNode.opn hK
                  rw [HY.out]
                  rw [HY.out] at hcn g4
                  exact kNode.mk (x := down ys[j]) k0 k1 k2 k3 ⟨by simp only [down]; omega, by simp only [down]; omega⟩ k5 k6
                have hgbp : g ≠ bp := (HOK.out g hokg).1
                have hgbi : g ≠ bi := (HOK.out g hokg).2.1
                have hgbg : g ≠ bg := (HOK.out g hokg).2.2
                have hbp6 : Hid ((w5.setCell ⟨g, j * 7 + 4, none⟩ (.int .i64 (y.count - 1))).heap[bp]? = some (.cells #[.slice (some ⟨g, 0, none⟩) ys.length c] 31)) := blk_far hbp5.out (fun e => hgbp e.symm) _
                have hbi6 : Hid ((w5.setCell ⟨g, j * 7 + 4, none⟩ (.int .i64 (y.count - 1))).heap[bi]? = some (.cells #[.int .i64 tt] 3)) := blk_far hbi5.out (fun e => hgbi e.symm) _
                have hbg6 : Hid ((w5.setCell ⟨g, j * 7 + 4, none⟩ (.int .i64 (y.count - 1))).heap[bg]? = some (.cells #[vg] 58)) := blk_far hbg5.out (fun e => hgbg e.symm) _
                have hOg6 : Hid ((Kd.int .i64).Own 3 (w5.setCell ⟨g, j * 7 + 4, none⟩ (.int .i64 (y.count - 1))) w.heap.size (fun q => w.heap.size ≤ q) vg gs) := Kd.Own.far hOg5.out (p := ⟨g, j * 7 + 4, none⟩) (fun k hk e => by simp only at e; omega) _
                have hbel6 : Hid (Below B0 w (w5.setCell ⟨g, j * 7 + 4, none⟩ (.int .i64 (y.count - 1)))) := hbel5.out.setCell (p := ⟨g, j * 7 + 4, none⟩) (Nat.le_trans h0b hbg) _
                have hfar6 : Hid (∀ k, k < w.heap.size → k ≠ bp → k ≠ bi → k ≠ bg → k ≠ g → (w5.setCell ⟨g, j * 7 + 4, none⟩ (.int .i64 (y.count - 1))).heap[k]? = w.heap[k]?) := fun k hk h1 h2 h3 h4 => (Below.heap_setCell w5 ⟨g, j * 7 + 4, none⟩ _ k h4).trans (hfar5.out k hk h1 h2 h3 h4)
                have c46 : Hid ((w5.setCell ⟨g, j * 7 + 4, none⟩ (.int .i64 (y.count - 1))).cell? ⟨g, j * 7 + 4, none⟩ = some (.int .i64 (y.count - 1))) := World.cell?_setCell_same' _ _ _ (by rw [e4]; rfl)
                have c16 : Hid ((w5.setCell ⟨g, j * 7 + 4, none⟩ (.int .i64 (y.count - 1))).cell? ⟨g, j * 7 + 1, none⟩ = some (.int .i64 y.parent)) := (World.cell?_setCell_other _ _ _ _ (by simp)).trans e1
                go_upto_region 16 with fail
                generalize (w5.setCell ⟨g, j * 7 + 4, none⟩ (.int .i64 (y.count - 1))) = w6 at *
                clear e1 e4 f4 p0 i0 hbp5 hbi5 hbg5 hOg5 hbel5 hfar5 HO5
                have p0 := blk_cell hbp6.out 0
                have i0 := blk_cell hbi6.out 0
                have q0 := blk_cell hbg6.out 0
                simp only [List.getElem?_toArray, List.getElem?_cons_zero] at p0 i0 q0
                have c4 := c46.out
                by_cases hcy : 0 < y.count - 1
                · have hd : decide (0 < y.count - 1) = true := decide_eq_true hcy
                  go_wp2_with fail
                  try simp only [Exit.noGoto_ret]
                  go_ret
                  exact HDONE.out w6 (ys.set j (down y)) vg gs (by rw [List.length_set]; exact hbp6.out) hbg6.out (by rw [List.length_set]; exact HW6.out) hOg6.out (by rw [HY.out]; exact hcl.out.stop hjt HF.out (by rw [← HY.out]; exact hcy)) hfar6.out hbel6.out
                · have hd : decide (0 < y.count - 1) = false := decide_eq_false hcy
                  go_upto_region 17 with fail
                  have hcy1 : y.count = 1 := by omega
                  have HLEAF : Hid (∀ (W v : _), Hid (∀ k, k < w.heap.size → W.heap[k]? = w6.heap[k]?) → Hid (Below w.heap.size w6 W) → Hid ((Kd.int .i64).Own 3 W w.heap.size (fun q => w.heap.size ≤ q) v (gs ++ [tt])) →
                      Mid w bp bi bg g c base B0 ok ys j y (gs ++ [tt]) ((W.setCell ⟨bg, 0, none⟩ v).setCell ⟨bi, 0, none⟩ (.int .i64 y.parent))) := fun W v h1 h2 h3 => by
                    have hlt := HLT.out
                    have b1 := (h1.out bp hlt.1).trans hbp6.out
                    have b2 := (h1.out bi hlt.2.1).trans hbi6.out
                    have b3 := (h1.out bg hlt.2.2).trans hbg6.out
                    refine ⟨v, blk_far (blk_far b1 (fun e => hpg e) _) (fun e => hpi e) _, blk_set (j := 0) (blk_far b2 (fun e => hig e) _) _, blk_far (blk_set (j := 0) b3 v) (fun e => hig e.symm) _, ?_, ?_, ?_, ?_⟩
                    · have hO7 : kNode.Own 65 W base (fun q => ok q ∧ q < w.heap.size) (.slice (some ⟨g, 0, none⟩) ys.length c) (ys.set j (down y)) := HW6.out.move (fun k hk _ => h1.out k hk.2)
                      exact (hO7.far (fun k hk e => (HOK.out k hk.1).2.2 e) _).far (fun k hk e => (HOK.out k hk.1).2.1 e) _
                    · exact (h3.out.far (fun k hk e => by simp only at e; omega) _).far (fun k hk e => by simp only at e; omega) _
                    · intro k hk k1 k2 k3 k4
                      exact ((Below.heap_setCell _ _ _ k k2).trans (Below.heap_setCell _ _ _ k k3)).trans ((h1.out k hk).trans (hfar6.out k hk k1 k2 k3 k4))
                    · exact ((hbel6.out.trans (h2.out.mono HB0.out)).setCell (p := ⟨bg, 0, none⟩) h0g _).setCell (p := ⟨bi, 0, none⟩) h0i _
                  go_cut [10] from 48 to 100 (fun s wx => s = .int .i64 j ∧ Hid (Mid w bp bi bg g c base B0 ok ys j y (gs ++ [tt]) wx))
                  case first =>
                    have mixed : (Tryz.prog).follows Departure.mixedOrders = true := by kernel_rfl
                    have c1 := c16.out
                    obtain ⟨Av, cv, rfl, hvl, hvc⟩ := hOg6.out.form
                    have hlit : (Kd.int .i64).Row (w6.drew.alloc (.cells #[.int .i64 tt] 3)) (fun _ => True) (some ⟨w6.drew.heap.size, 0, none⟩) [tt] := (own_row (Kd.Own.lit (d := Kd.int .i64) (w := w6.drew) (e := 3) (base := 0) (ok := fun _ => True) (n := 1) (xs := [tt]) (cells := [.int .i64 tt]) rfl (Kd.Reps.single ⟨rfl, htt⟩) (Nat.zero_le _) (by unfold maxLen; simp) trivial)).2.2
                    have hs6 : w.heap.size ≤ w6.heap.size := hbel6.out.size
                    have hbpw : bp < w.heap.size ∧ bi < w.heap.size ∧ bg < w.heap.size := HLT.out
                    have HG7 : Hid (∀ W w7, Below w6.heap.size w6 W → W.grownBy w7 (Value.slice Av gs.length cv).ownBlock → (∀ k, k < w.heap.size → w7.heap[k]? = w6.heap[k]?) ∧ Below w.heap.size w6 w7) := fun W w7 hW hg => by
                      have hb : Below w.heap.size w6 w7 := (hW.mono hs6).grown hg (Nat.le_trans hs6 hW.size) (fun k hk => hOg6.out.le k hk)
                      exact ⟨fun k hk => hb.block k hk, hb⟩
                    have HC7 : Hid (∀ w7 : World, (∀ k, k < w.heap.size → w7.heap[k]? = w6.heap[k]?) → w7.cell? ⟨bp, 0, none⟩ = some (.slice (some ⟨g, 0, none⟩) ys.length c) ∧ w7.cell? ⟨bi, 0, none⟩ = some (.int .i64 tt) ∧ w7.cell? ⟨bg, 0, none⟩ = some (.slice Av gs.length cv) ∧ w7.frozen? ⟨bi, 0, none⟩ = false ∧ w7.frozen? ⟨bg, 0, none⟩ = false ∧ w7.cell? ⟨g, j * 7 + 1, none⟩ = some (.int .i64 y.parent)) := fun w7 h =>
                      ⟨blk_cell ((h bp hbpw.1).trans hbp6.out) 0, blk_cell ((h bi hbpw.2.1).trans hbi6.out) 0, blk_cell ((h bg hbpw.2.2).trans hbg6.out) 0, blk_free ((h bi hbpw.2.1).trans hbi6.out) 0, blk_free ((h bg hbpw.2.2).trans hbg6.out) 0, (World.cell?_of_block (a := ⟨g, j * 7 + 1, none⟩) (h g hgs)).trans c16.out⟩
                    have hgb2 : bi ≠ bp := fun e => hpi e.symm
                    have hgb3 : bg ≠ bp := fun e => hpg e.symm
                    have hgb4 : bg ≠ bi := fun e => hig e.symm
                    have ha := HC7.out (w6.alloc (.cells #[.int .i64 tt] 3)) (fun k hk => Below.heap_alloc _ _ _ (Nat.lt_of_lt_of_le hk hs6))
                    obtain ⟨ha1, ha2, ha3, ha4, ha5, ha6⟩ := ha
                    go_region_law_o (refine step_append_kd (d := Kd.int .i64) (base := w.heap.size) (ok := fun q => w.heap.size ≤ q) (okS := fun _ => True) rfl (.tmp 78) (.tmp 80) 58 3 (.int .i64 0) 8 rfl Tryz.underlying58 infoInt rfl (.slice Av gs.length cv) gs (some ⟨w6.drew.heap.size, 0, none⟩) 1 1 [tt] (by simp [Act.eval, Act.put]) (by simp [Act.eval, Act.put]) (hOg6.out.al _) rfl hlit (fun _ _ h => h) (by unfold maxLen; omega) (by omega) (by simp; omega) (fun q hq => Nat.le_trans hs6 (Nat.le_trans (below_al (Below.refl w6.heap.size w6) (.cells #[.int .i64 tt] 3)).size hq)) ?_; intro v1 w7 hO7 hg7 hat7; have h7 := HG7.out _ _ (below_al (below_d1 (Below.refl _ _)) _) hg7; have k7 := HC7.out w7 h7.1; obtain ⟨k71, k72, k73, k74, k75, k76⟩ := k7; obtain ⟨A7, c7, hv7, hl7, hm7⟩ := hO7.form; subst hv7)
                    all_goals
                      have hle : (gs ++ [tt]).length = gs.length + 1 := by simp
                      rw [hle] at hO7
                      go_wp2_with fail
                      go_meet
                      exact ⟨rfl, HLEAF.out w7 _ h7.1 h7.2 hO7⟩
                  case rest =>
                    obtain ⟨rfl, hM⟩ := hcut
                    obtain ⟨v8, m1, m2, m3, mO, mG, mF, mB⟩ := hM.out
                    have hcall := c_deleteN (ys.set j (down y)) g c base _ wc (by rw [List.length_set]; exact mO) j (by rw [List.length_set]; exact hjt) (by rw [List.length_set]; omega)
                    rw [List.length_set, List.eraseIdx_set_eq] at hcall
                    have p8 := blk_cell m1 0
                    simp only [List.getElem?_toArray, List.getElem?_cons_zero] at p8
                    have M1 := Lib.hid m1
                    have M2 := Lib.hid m2
                    have M3 := Lib.hid m3
                    have MG := Lib.hid mG
                    have MF := Lib.hid mF
                    have MB := Lib.hid mB
                    have HCALL := Lib.hid hcall
                    have hjw : IntKind.i64.wrap ((j : Int) + 1) = (j : Int) + 1 := by rw [wrap_i64 (by omega)]
                    clear m1 m2 m3 mG mF mB mO hM hcall HLEAF c4 p0 i0 q0 hd hbp6 hbi6 hbg6 hOg6 hbel6 hfar6 c46 c16 HW6
                    go_wp2_with fail
                    refine HCALL.out.mono ?_
                    rintro e w9 ⟨rfl, hO9, hk9, hB9⟩
                    have b1 : Hid (w9.heap[bp]? = some (.cells #[.slice (some ⟨g, 0, none⟩) ys.length c] 31)) := (hk9 bp (fun e => hgbp e.symm)).trans M1.out
                    have b2 : Hid (w9.heap[bi]? = some (.cells #[.int .i64 y.parent] 3)) := (hk9 bi (fun e => hgbi e.symm)).trans M2.out
                    have b3 : Hid (w9.heap[bg]? = some (.cells #[v8] 58)) := (hk9 bg (fun e => hgbg e.symm)).trans M3.out
                    have p9 := blk_cell b1.out 0
                    have f9 := blk_free b1.out 0
                    simp only [List.getElem?_toArray, List.getElem?_cons_zero] at p9
                    have hO9' := Lib.hid (hO9.far (p := ⟨bp, 0, none⟩) (fun k hk e => (HOK.out k hk.1).1 e) (.slice (some ⟨g, 0, none⟩) (ys.length - 1) c))
                    have mG9 : Hid ((Kd.int .i64).Own 3 w9 w.heap.size (fun q => w.heap.size ≤ q) v8 (gs ++ [tt])) := MG.out.move (fun k hk _ => hk9 k (by omega))
                    have mF9 : Hid (∀ k, k < w.heap.size → k ≠ bp → k ≠ bi → k ≠ bg → k ≠ g → w9.heap[k]? = w.heap[k]?) := fun k hk k1 k2 k3 k4 => (hk9 k k4).trans (MF.out k hk k1 k2 k3 k4)
                    have mB9 : Hid (Below B0 w w9) := MB.out.trans (hB9.mono (Nat.le_trans h0b hbg))
                    clear hO9 hk9 hB9 HCALL
                    go_wp2_with fail
                    have hel : (ys.eraseIdx j).length = ys.length - 1 := by rw [List.length_eraseIdx, if_pos hjt]
                    go_roundg (ys.length - 1)
                    case measure => have := hyk.out; omega
                    case rel =>
                      refine ⟨ys.eraseIdx j, y.parent, gs ++ [tt], v8, hel, ?_, blk_far b2.out (fun e => hpi e.symm) _, blk_far b3.out (fun e => hpg e.symm) _, ?_, mG9.out.far (p := ⟨bp, 0, none⟩) (fun k hk e => by have := HLT.out.1; simp only at e; omega) _, ?_, g1, fun k hk k1 k2 k3 k4 => (Below.heap_setCell _ _ _ k k1).trans (mF9.out k hk k1 k2 k3 k4), mB9.out.setCell (p := ⟨bp, 0, none⟩) h0p _⟩
                      · rw [hel]; exact blk_set (j := 0) b1.out _
                      · rw [hel]; exact hO9'.out
                      · rw [HY.out]; exact hcl.out.next h0 hjt HF.out (by rw [← HY.out]; exact hcy1)
              · exact absurd hf (hcl.out.found h0)
  · have HE : Hid (giveE xs t = 4) := by unfold giveE; rw [hf]; exact rfl
    rw [hat]
    clear hf hat
    go_wp2_with fail
    simp only [Exit.noGoto_ret]
    go_ret
    exact HBAD.out HE.out _ HB2.out
end Go.Proofs.YtbojjjiggppnaaaGreat
