/- Several texts in one. -/
import Derived.Test.YtbojjjiggppnaaaGreatRa
import Derived.Test.YtbojjjiggppnaaaGreatP0
import Derived.Test.YtbojjjiggppnaaaGreatN5
import Derived.Test.YtbojjjiggppnaaaGreatE4
import Derived.Test.YtbojjjiggppnaaaGreatP1
import Derived.RegionIn
import Derived.Sort.CutIn
import Derived.Test.YtbojjjiggppnaaaGreatO4
import Derived.Deep.RegionLaw
import Derived.Shelf.RegionOpenPlain
import Derived.Deep.CutRange
import Derived.Test.YtbojjjiggppnaaaGreatQ5
import Derived.Test.YtbojjjiggppnaaaGreatQ4
import Derived.Test.YtbojjjiggppnaaaGreatQ3
import Derived.Test.YtbojjjiggppnaaaGreatQ2
/-! The walk of chain.chain's iterator. -/
namespace Go.Proofs.YtbojjjiggppnaaaGreat
open Go.RowKit Go.Shelf
set_option linter.unusedVariables false
set_option linter.unusedSimpArgs false

def Cells (w : World) (q : Nat) : Prop := ∃ cs t f, w.heap[q]? = some (.cells cs t f)
theorem cells_of {w : World} {a : Addr} {v : Value} (h : w.cell? a = some v) : Cells w a.block := by
  cases hq : w.heap[a.block]? with
  | none => simp [World.cell?, hq] at h
  | some o =>
    cases o with
    | cells cs t f => exact ⟨cs, t, f, hq⟩
    | _ => simp [World.cell?, hq] at h
theorem KpS.at_ {S : Nat → Prop} {A B : World} (h : KpS S A B) {q : Nat} (hq : ¬ S q) (hc : Cells A q) : B.heap[q]? = A.heap[q]? := by
  obtain ⟨cs, t, f, hc⟩ := hc
  rw [h.2 q cs t f hq hc, hc]
theorem rowInsn_cells {w : World} {ok : Nat → Prop} {A : Option Addr} {xs : List Insn} (h : kInsn.Row w ok A xs) : kInsn.Row w (fun q => ok q ∧ Cells w q) A xs := ⟨h.1, fun i x hx => by
  obtain ⟨ad, cs, e, hok, hK, hc⟩ := h.2 i x hx
  refine ⟨ad, cs, e, ⟨hok, ?_⟩, hK, hc⟩
  have h0 := cells_of (hc 0 (cs[0]'(by rw [kInsn.len hK]; exact kInsn.pos)) (List.getElem?_eq_getElem _))
  rwa [Kd.add_block] at h0⟩
theorem rowNode_cells {w : World} {ok : Nat → Prop} {A : Option Addr} {xs : List Node} (h : kNode.Row w ok A xs) : kNode.Row w (fun q => ok q ∧ Cells w q) A xs := ⟨h.1, fun i x hx => by
  obtain ⟨ad, cs, e, hok, hK, hc⟩ := h.2 i x hx
  refine ⟨ad, cs, e, ⟨hok, ?_⟩, ?_, hc⟩
  · have h0 := cells_of (hc 0 (cs[0]'(by rw [kNode.len hK]; exact kNode.pos)) (List.getElem?_eq_getElem _))
    rwa [Kd.add_block] at h0
  · obtain ⟨A2, c2, rfl, k0, k1, k2, k3, k4, k5, k6⟩ := kNode.opn hK
    exact kNode.mk k0 k1 ⟨k2.1, k2.2.1, rowInsn_cells k2.2.2⟩ k3 k4 k5 k6⟩
theorem row_kps {w w' : World} {ok S : Nat → Prop} {A : Option Addr} {xs : List Node} (h : kNode.Row w ok A xs) (hS : ∀ q, ok q → ¬ S q) (hk : KpS S w w') : kNode.Row w' ok A xs :=
  Kd.Row.mono (fun q hq => hq.1) (Kd.Row.move (rowNode_cells h) (fun q hq _ => hk.at_ (hS q hq.1) hq.2))
theorem rowI_kps {w w' : World} {ok S : Nat → Prop} {A : Option Addr} {xs : List Insn} (h : kInsn.Row w ok A xs) (hS : ∀ q, ok q → ¬ S q) (hk : KpS S w w') : kInsn.Row w' ok A xs :=
  Kd.Row.mono (fun q hq => hq.1) (Kd.Row.move (rowInsn_cells h) (fun q hq _ => hk.at_ (hS q hq.1) hq.2))
def nodeV (x : Node) (A2 : Option Addr) (c2 : Nat) : Value := .agg #[.int .i64 x.id, .int .i64 x.parent, .slice A2 x.program.length c2, .int .i64 x.size, .int .i64 x.count, .int .u64 x.one, .int .u64 x.two]
/-- The filters' cells. -/
def NC (w : World) (ok : Nat → Prop) (A : Option Addr) (xs : List Node) (Ai : Nat → Option Addr) (ci : Nat → Nat) : Prop := ∀ i (hi : i < xs.length), ∃ ad, A = some ad ∧ ok ad.block ∧ (xs[i].program.length ≤ ci i ∧ ci i ≤ maxLen ∧ kInsn.Row w ok (Ai i) xs[i].program) ∧ Kd.rng .i64 xs[i].parent ∧
  w.cell? (ad.add (i * 7)) = some (.int .i64 xs[i].id) ∧ w.cell? ⟨(ad.add (i * 7)).block, (ad.add (i * 7)).off + 1, none⟩ = some (.int .i64 xs[i].parent) ∧ w.cell? ⟨(ad.add (i * 7)).block, (ad.add (i * 7)).off + 2, none⟩ = some (.slice (Ai i) xs[i].program.length (ci i)) ∧ w.cell? ⟨(ad.add (i * 7)).block, (ad.add (i * 7)).off + 3, none⟩ = some (.int .i64 xs[i].size) ∧
  w.cell? ⟨(ad.add (i * 7)).block, (ad.add (i * 7)).off + 4, none⟩ = some (.int .i64 xs[i].count) ∧ w.cell? ⟨(ad.add (i * 7)).block, (ad.add (i * 7)).off + 5, none⟩ = some (.int .u64 xs[i].one) ∧ w.cell? ⟨(ad.add (i * 7)).block, (ad.add (i * 7)).off + 6, none⟩ = some (.int .u64 xs[i].two)
theorem nc_of {w : World} {ok : Nat → Prop} {A : Option Addr} {xs : List Node} (h : kNode.Row w ok A xs) : ∃ Ai ci, NC w ok A xs Ai ci := by
  have hx : ∀ i, ∃ p : Option Addr × Nat, ∀ hi : i < xs.length, ∃ ad, A = some ad ∧ ok ad.block ∧ (xs[i].program.length ≤ p.2 ∧ p.2 ≤ maxLen ∧ kInsn.Row w ok p.1 xs[i].program) ∧ Kd.rng .i64 xs[i].parent ∧
      w.cell? (ad.add (i * 7)) = some (.int .i64 xs[i].id) ∧ w.cell? ⟨(ad.add (i * 7)).block, (ad.add (i * 7)).off + 1, none⟩ = some (.int .i64 xs[i].parent) ∧ w.cell? ⟨(ad.add (i * 7)).block, (ad.add (i * 7)).off + 2, none⟩ = some (.slice p.1 xs[i].program.length p.2) ∧ w.cell? ⟨(ad.add (i * 7)).block, (ad.add (i * 7)).off + 3, none⟩ = some (.int .i64 xs[i].size) ∧
      w.cell? ⟨(ad.add (i * 7)).block, (ad.add (i * 7)).off + 4, none⟩ = some (.int .i64 xs[i].count) ∧ w.cell? ⟨(ad.add (i * 7)).block, (ad.add (i * 7)).off + 5, none⟩ = some (.int .u64 xs[i].one) ∧ w.cell? ⟨(ad.add (i * 7)).block, (ad.add (i * 7)).off + 6, none⟩ = some (.int .u64 xs[i].two) := fun i => by
    by_cases hi : i < xs.length
    · obtain ⟨ad, A2, c2, e, hok, ⟨g0, g1, g2, g3, g4, g5, g6⟩, h0, h1, h2, h3, h4, h5, h6⟩ := kNode.at_ h hi
      exact ⟨(A2, c2), fun _ => ⟨ad, e, hok, g2, g1, h0, h1, h2, h3, h4, h5, h6⟩⟩
    · exact ⟨(none, 0), fun h => absurd h hi⟩
  exact ⟨fun i => (Classical.choose (hx i)).1, fun i => (Classical.choose (hx i)).2, fun i hi => Classical.choose_spec (hx i) hi⟩
theorem NC.kps {w w' : World} {ok S : Nat → Prop} {A : Option Addr} {xs : List Node} {Ai : Nat → Option Addr} {ci : Nat → Nat} (h : NC w ok A xs Ai ci) (hS : ∀ q, ok q → ¬ S q) (hk : KpS S w w') : NC w' ok A xs Ai ci := fun i hi => by
  obtain ⟨ad, e, hok, ⟨g0, g1, g2⟩, gp, h0, h1, h2, h3, h4, h5, h6⟩ := h i hi
  have hb : ¬ S (ad.add (i * 7)).block := by rw [Kd.add_block]; exact hS _ hok
  exact ⟨ad, e, hok, ⟨g0, g1, rowI_kps g2 hS hk⟩, gp, hk.cell hb h0, hk.cell hb h1, hk.cell hb h2, hk.cell hb h3, hk.cell hb h4, hk.cell hb h5, hk.cell hb h6⟩
def idOf (w : World) (bi : Nat) : Int := match w.cell? ⟨bi, 0, none⟩ with
  | some (.int _ v) => v
  | _ => 0
theorem idOf_of {w : World} {bi : Nat} {t : Int} {ty : TypeId} (h : w.heap[bi]? = some (.cells #[.int .i64 t] ty)) : idOf w bi = t := by
  unfold idOf
  rw [blk_cell h 0]
  rfl
theorem parts_at {xs : List Node} (hR : Rising xs) {t : Int} {i j : Nat} (hP : Parts xs t i i) (hi : i ≤ xs.length) (hj : j < xs.length) (he : xs[j].id = t) : i = j ∧ isAt xs t i = true := by
  obtain ⟨h1, h2⟩ := hP hR
  have hji : ¬ j < i := fun h => by have := h1 j hj h; omega
  have hij : ¬ i < j := fun h => by
    have hil : i < xs.length := by omega
    have a := h2 i hil (Nat.le_refl _)
    have b := hR i j hil hj h
    omega
  obtain rfl : i = j := by omega
  exact ⟨rfl, by simp [isAt, hj, he]⟩
set_option maxRecDepth 100000 in
set_option maxHeartbeats 4000000 in
theorem chain1_iter (m : Nat) (hm : 1 ≤ m) (xs : List Node) (A : Option Addr) (c : Nat) (t : Int) (ok S : Nat → Prop) (Ai : Nat → Option Addr) (ci : Nat → Nat) (l : List Nat) (bp bi b0 : Nat) (w : World)
    (hbp : w.heap[bp]? = some (.cells #[.slice A xs.length c] 31)) (hbi : w.heap[bi]? = some (.cells #[.int .i64 t] 3)) (hrow : kNode.Row w ok A xs) (hnc : NC w ok A xs Ai ci) (hok : ∀ q, ok q → ¬ S q ∧ q ≠ bi) (hsp : ¬ S bp) (hsi : ¬ S bi) (hpi : bp ≠ bi) (hb0 : b0 ≤ bi)
    (hR : Rising xs) (hpath : Path xs t l) (hl : xs.length ≤ 1000) (ht : Kd.rng .i64 t) :
    Iter m Tryz.prog 164 #[.pointer (some ⟨bi, 0, none⟩), .pointer (some ⟨bp, 0, none⟩)] (fun i => #[nodeV xs[i]! (Ai i) (ci i)]) l S b0 w := by
  intro ly J W hW hJ hY h0
  have hro : Fence.wide.round = none := rfl
  refine callsIn_of_wp Tryz.func164 rfl trivial ?_ hro
  simp only [Tryz.ntmps164, List.size_toArray, List.length_cons, List.length_nil, Nat.reduceAdd, Nat.reduceSub, Array.replicate_succ, Array.replicate_zero, List.push_toArray, List.append_toArray, List.nil_append, List.cons_append]
  have HIN : Hid (∃ (pre rest : List Nat) (t' : Int), Hid (pre ++ rest = l) ∧ Hid (Path xs t' rest) ∧ Kd.rng .i64 t' ∧ Hid (J pre W) ∧ Hid (W.heap[bi]? = some (.cells #[.int .i64 t'] 3)) ∧ Hid (W.heap[bp]? = some (.cells #[.slice A xs.length c] 31)) ∧ Hid (kNode.Row W ok A xs) ∧ Hid (NC W ok A xs Ai ci)) :=
    ⟨[], l, t, rfl, hpath, ht, h0, blk_bel hW hbi, blk_bel hW hbp, hrow.bel hW, hnc.kps (fun q hq => (hok q hq).1) (KpS.bel hW)⟩
  have hb0w : b0 ≤ w.heap.size := Nat.le_trans hb0 (Nat.le_of_lt (blk_lt hbi))
  have HJ := Lib.hid hJ
  have HY := Lib.hid hY
  have HOK := Lib.hid hok
  have HR := Lib.hid hR
  have HSP := Lib.hid hsp
  have HSI := Lib.hid hsi
  have HPI := Lib.hid hpi
  clear hJ hY hok hR hsp hsi hpi hW hrow hnc hbp hbi hpath h0
  gi_wp2
  gi_loopw [4] (fun _ wr => ∃ (pre rest : List Nat) (t' : Int), Hid (pre ++ rest = l) ∧ Hid (Path xs t' rest) ∧ Kd.rng .i64 t' ∧ Hid (J pre wr) ∧ Hid (wr.heap[bi]? = some (.cells #[.int .i64 t'] 3)) ∧ Hid (wr.heap[bp]? = some (.cells #[.slice A xs.length c] 31)) ∧ Hid (kNode.Row wr ok A xs) ∧ Hid (NC wr ok A xs Ai ci)) (fun _ wr => plen xs (idOf wr bi))
  case atStart => exact HIN.out
  case round =>
    clear HIN
    obtain ⟨pre, rest, t', hpr, hpa, ht', hJr, hbi, hbp, hrow, hnc⟩ := hrel
    have i0 := blk_cell hbi.out 0
    have p0 := blk_cell hbp.out 0
    simp only [List.getElem?_toArray, List.getElem?_cons_zero] at i0 p0
    have hpo := hpa.out
    cases hpo with
    | done =>
      rw [List.append_nil] at hpr
      have hJl : Hid (J l wr) := by rw [← hpr.out]; exact hJr.out
      clear hJr
      gi_wp2_with fail
      go_end0
      exact ⟨⟨_, rfl⟩, hJl.out⟩
    | @step _ j rest' h0 hj he hp' =>
      have hne : (t' == 0) = false := by rw [beq_eq_false_iff_ne]; exact h0
      have HE := Lib.hid he
      have HP' := Lib.hid hp'
      have HPL := Lib.hid (c_place xs _ c A t' ok wr hrow.out rfl (by omega))
      clear he hp'
      have hxj : xs[j]! = xs[j] := getElem!_pos xs j hj
      have HXJ := Lib.hid hxj
      have HPA := Lib.hid hpa.out
      have hbw : b0 ≤ wr.heap.size := Nat.le_trans hb0 (Nat.le_of_lt (blk_lt hbi.out))
      clear hxj hpa
      gi_wp2_with fail
      refine ⟨trivial, ?_⟩
      refine (callsIn_wide.2 HPL.out).mono ?_
      rintro e W2 ⟨i, rfl, hil, hP, hB2⟩
      obtain ⟨hij, hat⟩ := parts_at HR.out hP hil hj HE.out
      rw [hat, hij]
      have hbi2 := Lib.hid (blk_bel hB2 hbi.out)
      have hbp2 := Lib.hid (blk_bel hB2 hbp.out)
      have hrow2 := Lib.hid (hrow.out.bel hB2)
      have hnc2 := Lib.hid (hnc.out.kps (fun q hq => (HOK.out q hq).1) (KpS.bel hB2))
      have hJ2 := HJ.out.goes pre wr W2 hJr.out (Goes.of hB2 hbw)
      have hbw2 : b0 ≤ W2.heap.size := Nat.le_trans hbw hB2.size
      obtain ⟨fn, tmps, assign, body, hy, hRR⟩ := HY.out pre j W2 ⟨rest', by rw [List.append_assoc]; exact hpr.out⟩ hJ2
      rw [HXJ.out] at hy
      unfold nodeV at hy
      have HRR := Lib.hid hRR
      clear hRR hJ2 hB2 hP hil hij hat HPL hbp hrow hnc hJr i0 p0
      obtain ⟨ad, hA, hoka, -, gp, e0, e1, e2, e3, e4, e5, e6⟩ := hnc2.out j hj
      subst hA
      have GP := Lib.hid gp
      have HOKA := Lib.hid hoka
      clear gp hoka
      have p0 := blk_cell hbp2.out 0
      simp only [List.getElem?_toArray, List.getElem?_cons_zero] at p0
      have hj0 : (0 : Int) ≤ (j : Int) := by omega
      have hj1 : (j : Int) < (xs.length : Int) := by omega
      generalize hx : xs[j] = x at *
      have HX := Lib.hid hx
      clear hx
      gi_wp2_with fail
      refine HRR.out.mono ?_
      rintro e W5 ⟨rfl, hJ5, hk5, hko5⟩
      have hbi5 := Lib.hid (hk5.2 _ _ _ _ HSI.out hbi2.out)
      have hbp5 := Lib.hid (hk5.2 _ _ _ _ HSP.out hbp2.out)
      have hrow5 := Lib.hid (row_kps hrow2.out (fun q hq => (HOK.out q hq).1) hk5)
      have hnc5 := Lib.hid (hnc2.out.kps (fun q hq => (HOK.out q hq).1) hk5)
      have p5 := blk_cell hbp5.out 0
      have i5 := blk_cell hbi5.out 0
      have f5 := blk_free hbi5.out 0
      simp only [List.getElem?_toArray, List.getElem?_cons_zero] at p5 i5
      have c1 : W5.cell? ⟨(ad.add (j * 7)).block, (ad.add (j * 7)).off + 1, none⟩ = some (.int .i64 x.parent) := hk5.cell (by rw [Kd.add_block]; exact (HOK.out _ HOKA.out).1) e1
      have HJ5 := Lib.hid hJ5
      clear hk5 hko5 hJ5 e0 e1 e2 e3 e4 e5 e6 p0 hbi2 hbp2 hrow2 hnc2 hy HRR
      gi_wp2_with fail
      go_roundw
      case rel =>
        refine ⟨pre ++ [j], rest', x.parent, ?_, HP', GP.out, ?_, ?_, ?_, ?_, ?_⟩
        · rw [List.append_assoc]; exact hpr
        · exact HJ.out.goes _ _ _ HJ5.out (Goes.set W5 hb0 _)
        · exact blk_set (j := 0) hbi5.out _
        · exact blk_far hbp5.out HPI.out _
        · exact Kd.Row.move hrow5.out (fun q hq _ => Below.heap_setCell W5 ⟨bi, 0, none⟩ _ q (HOK.out q hq).2)
        · exact hnc5.out.kps (S := fun q => q = bi) (fun q hq => (HOK.out q hq).2) (KpS.set (S := fun q => q = bi) W5 (p := ⟨bi, 0, none⟩) rfl _)
      case measure =>
        rw [idOf_of (blk_set (j := 0) hbi5.out (.int .i64 x.parent)), idOf_of hbi.out, plen_of HR.out HP'.out, plen_of HR.out HPA.out]
        simp
end Go.Proofs.YtbojjjiggppnaaaGreat

/-! The walks of chain.chain and chain.Eval's iterator. -/
namespace Go.Proofs.YtbojjjiggppnaaaGreat
open Go.RowKit Go.Shelf
set_option linter.unusedVariables false
set_option linter.unusedSimpArgs false

set_option maxRecDepth 100000 in
theorem c_chain (A : Option Addr) (n c : Nat) (t : Int) (w : World) : Calls Tryz.prog 106 #[.agg #[.slice A n c], .int .i64 t] w fun e w' => e = .returned (.func (.func 164) #[] #[.pointer (some ⟨w.heap.size + 1, 0, none⟩), .pointer (some ⟨w.heap.size, 0, none⟩)]) ∧ w'.heap[w.heap.size]? = some (.cells #[.slice A n c] 31) ∧ w'.heap[w.heap.size + 1]? = some (.cells #[.int .i64 t] 3) ∧ Below w.heap.size w w' ∧ w'.heap.size = w.heap.size + 2 := by
  go_enter Tryz.func106, Tryz.ntmps106
  go_wp2_with fail
  go_ret
  have h := blk_new (w.alloc (.cells #[.slice A n c] 31)) (.cells #[.int .i64 t] 3)
  rw [World.size_alloc] at h
  exact ⟨rfl, blk_al (blk_new _ _) _, h, below_al (below_al (Below.refl _ _) _) _, by simp⟩
theorem NC.move {w w' : World} {ok : Nat → Prop} {A : Option Addr} {xs : List Node} {Ai : Nat → Option Addr} {ci : Nat → Nat} (h : NC w ok A xs Ai ci) (hm : ∀ q, ok q → w'.heap[q]? = w.heap[q]?) : NC w' ok A xs Ai ci := fun i hi => by
  obtain ⟨ad, e, hok, ⟨g0, g1, g2⟩, gp, h0, h1, h2, h3, h4, h5, h6⟩ := h i hi
  have hb : w'.heap[(ad.add (i * 7)).block]? = w.heap[(ad.add (i * 7)).block]? := by rw [Kd.add_block]; exact hm _ hok
  have hc : ∀ (o : Nat) v, w.cell? ⟨(ad.add (i * 7)).block, o, none⟩ = some v → w'.cell? ⟨(ad.add (i * 7)).block, o, none⟩ = some v := fun o v h => (World.cell?_of_block (a := ⟨(ad.add (i * 7)).block, o, none⟩) hb).trans h
  exact ⟨ad, e, hok, ⟨g0, g1, g2.move (fun q hq _ => hm q hq)⟩, gp, (World.cell?_of_block hb).trans h0, hc _ _ h1, hc _ _ h2, hc _ _ h3, hc _ _ h4, hc _ _ h5, hc _ _ h6⟩
attribute [local go_sem] Oper.semAt_some
theorem round_deep {m : Nat} {P : Program} {ly : Nat} {fn : Nat} {tmps : Array Value} {assign body : Code} {W : World} {R : Ending → World → Prop} (h : RoundIn Fence.wide m P ly fn tmps assign body W R) (l m' : Nat) : RoundIn (Fence.wide.inRound l) m' P ly fn tmps assign body W R :=
  ⟨h.1, fun c cs _ => h.2 c cs (fun d h => by cases h)⟩
theorem path_lt {xs : List Node} {t : Int} {l : List Nat} (h : Path xs t l) : ∀ i ∈ l, i < xs.length := by
  induction h with
  | done => intro i hi; cases hi
  | @step t i l h0 hi he h ih =>
    intro j hj
    rcases List.mem_cons.1 hj with rfl | hj
    · exact hi
    · exact ih j hj
set_option maxRecDepth 100000 in
set_option maxHeartbeats 4000000 in
theorem eval1_iter (m : Nat) (hm : 4 ≤ m) (xs : List Node) (A : Option Addr) (c : Nat) (t : Int) (ok S : Nat → Prop) (l : List Nat) (R : Nat → Int) (d : Data) (bp bt bd b0 : Nat) (w : World)
    (hbp : w.heap[bp]? = some (.cells #[.slice A xs.length c] 31)) (hbt : w.heap[bt]? = some (.cells #[.int .i64 t] 3)) (hbd : w.heap[bd]? = some (.cells d.cells.toArray 27))
    (hrow : kNode.Row w ok A xs) (hok : ∀ q, ok q → ¬ S q) (hsd : ¬ S bd) (hS : ∀ q, S q → q < w.heap.size) (hb0 : b0 ≤ w.heap.size)
    (hR : Rising xs) (hpath : Path xs t l) (hl : xs.length ≤ 1000) (ht : Kd.rng .i64 t)
    (hrun : ∀ i (hi : i < xs.length), ∀ (Aq : Option Addr) (cq : Nat) (okq : Nat → Prop) (W : World), kInsn.Row W okq Aq xs[i].program → Calls Tryz.prog 107 #[.slice Aq xs[i].program.length cq, d.agg] W fun e w' => e = .returned (.tuple #[.int .u32 (R i), .int .i64 0]) ∧ Below W.heap.size W w') :
    Iter m Tryz.prog 105 #[.pointer (some ⟨bp, 0, none⟩), .pointer (some ⟨bt, 0, none⟩), .pointer (some ⟨bd, 0, none⟩)] (fun k => #[.int .u32 k]) (l.map R) S b0 w := by
  intro ly J W hW hJ hY h0
  have hrow' := (hrow.bound).bel hW
  obtain ⟨Ai, ci, hnc⟩ := nc_of hrow'
  have hbpW := blk_bel hW hbp
  have hbtW := blk_bel hW hbt
  have hbdW := blk_bel hW hbd
  have hdl := blk_lt hbd
  have hwW := hW.size
  have hpl := path_lt hpath
  have hro : Fence.wide.round = none := rfl
  refine callsIn_of_wp_marks Tryz.func105 rfl trivial ?_ hro
  simp only [Tryz.ntmps105, List.size_toArray, List.length_cons, List.length_nil, Nat.reduceAdd, Nat.reduceSub, Array.replicate_succ, Array.replicate_zero, List.push_toArray, List.append_toArray, List.nil_append, List.cons_append]
  have HBP := Lib.hid hbpW
  have HBT := Lib.hid hbtW
  have HBD := Lib.hid hbdW
  have HROW := Lib.hid hrow'
  have HNC := Lib.hid hnc
  have HJ := Lib.hid hJ
  have HY := Lib.hid hY
  have H0 := Lib.hid h0
  have HOK := Lib.hid hok
  have HSD := Lib.hid hsd
  have HS := Lib.hid hS
  have HR := Lib.hid hR
  have HPATH := Lib.hid hpath
  have HRUN := Lib.hid hrun
  have HPL := Lib.hid hpl
  have HBY := Lib.hid (below_al (Below.refl W.heap.size W) (.cells #[.func (.yield ly) #[] #[]] 157))
  clear hbpW hbtW hbdW hrow' hnc hJ hY h0 hok hsd hS hR hpath hrun hpl hrow hbp hbt hbd
  have f1 : (W.alloc (.cells #[.func (.yield ly) #[] #[]] 157)).heap[W.heap.size]? = some (.cells #[.func (.yield ly) #[] #[]] 157) := blk_new _ _
  have F1 := Lib.hid f1
  clear f1
  have HCH := Lib.hid (fun W => c_chain A xs.length c t W)
  have b1 := blk_cell (blk_bel HBY.out HBP.out) 0
  have b2 := blk_cell (blk_bel HBY.out HBT.out) 0
  simp only [List.getElem?_toArray, List.getElem?_cons_zero] at b1 b2
  gi_wp2_with fail
  refine ⟨trivial, fun _ => by omega, ?_⟩
  refine (callsIn_wide.2 (HCH.out _)).mono ?_
  rintro e w2 ⟨rfl, hp2, ht2, hB2, hs2⟩
  gi_wp2_with fail
  clear b1 b2 HCH
  rw [World.size_alloc] at hp2 ht2 hs2
  have hBW2 : Below W.heap.size W w2 := HBY.out.trans (hB2.mono (by rw [World.size_alloc]; omega))
  have hy2 := blk_bel hB2 F1.out
  clear hB2
  refine wpIn_range_goesA (α := Nat) (by omega) (gf := 164) (lb := #[.pointer (some ⟨W.heap.size + 1 + 1, 0, none⟩), .pointer (some ⟨W.heap.size + 1, 0, none⟩)]) rfl (enters_of Tryz.func164 (by kernel_rfl) rfl)
    (encs := fun i => #[nodeV xs[i]! (Ai i) (ci i)]) (fun _ => rfl) S (W.heap.size + 1) (by omega) l
    (chain1_iter (m - 1) (by omega) xs A c t (fun k => ok k ∧ k < w.heap.size) S Ai ci l (W.heap.size + 1) (W.heap.size + 1 + 1) (W.heap.size + 1) w2 hp2 ht2 (HROW.out.bel hBW2) (HNC.out.kps (fun q hq => HOK.out q hq.1) (KpS.bel hBW2)) (fun q hq => ⟨HOK.out q hq.1, by omega⟩) (fun h => by have := HS.out _ h; omega) (fun h => by have := HS.out _ h; omega) (by omega) (by omega) HR.out HPATH.out hl ht)
    (fun pre W' => J (pre.map R) W' ∧ W'.heap[W.heap.size]? = some (.cells #[.func (.yield ly) #[] #[]] 157) ∧ W'.heap[bd]? = some (.cells d.cells.toArray 27) ∧ NC W' (fun k => ok k ∧ k < w.heap.size) A xs Ai ci)
    ⟨fun s A' B' hs hB => ⟨HJ.out.goes _ _ _ hs.1 (hB.mono (by omega)), (hB.bel.block _ (by omega)).trans hs.2.1, (hB.bel.block _ (by omega)).trans hs.2.2.1, hs.2.2.2.move (fun q hq => hB.bel.block q (by omega))⟩,
     fun s A' B' hs hB => ⟨HJ.out.bel _ _ _ hs.1 (hB.mono (by omega)), (hB.block _ (by omega)).trans hs.2.1, (hB.block _ (by omega)).trans hs.2.2.1, hs.2.2.2.move (fun q hq => hB.block q (by omega))⟩⟩
    ⟨HJ.out.bel _ _ _ H0.out hBW2, hy2, blk_bel hBW2 HBD.out, HNC.out.kps (fun q hq => HOK.out q hq.1) (KpS.bel hBW2)⟩
    (fun i a' W' => ∃ nb, w2.heap.size ≤ nb ∧ W'.heap[nb]? = some (.cells #[.int .i64 xs[i]!.id, .int .i64 xs[i]!.parent, .slice (Ai i) xs[i]!.program.length (ci i), .int .i64 xs[i]!.size, .int .i64 xs[i]!.count, .int .u64 xs[i]!.one, .int .u64 xs[i]!.two] 65) ∧
      a' = { tmps := #[.func (.yield ly) #[] #[], .pointer (some ⟨bp, 0, none⟩), .pointer (some ⟨bt, 0, none⟩), .pointer (some ⟨bd, 0, none⟩), .pointer (some ⟨W.heap.size, 0, none⟩), .pointer (some ⟨nb, 0, none⟩), undef, undef, .agg #[.slice A xs.length c], .int .i64 t, .func (.func 164) #[] #[.pointer (some ⟨W.heap.size + 1 + 1, 0, none⟩), .pointer (some ⟨W.heap.size + 1, 0, none⟩)],
        nodeV xs[i]! (Ai i) (ci i), undef, undef, undef, undef, undef, undef, undef, undef, undef, undef, undef], defers := [] })
    (fun i a' A' B' hk ⟨nb, h1, h2, h3⟩ => ⟨nb, h1, hk.2 _ _ _ _ (fun h => by have := HS.out _ h; omega) h2, h3⟩)
    ?assign ?body ?done
  case assign =>
    intro l' pre x W' K hpx hs hI hK
    generalize hxx : xs[x]! = xx at *
    unfold nodeV at *
    gi_wp2
    exact hK _ _ (below_al (Below.refl _ _) _) ⟨W'.heap.size, hs, blk_new _ _, rfl⟩
  case body =>
    rintro l' pre x a' W' hpx hs ⟨hJ', hy', hd', hn'⟩ ⟨nb, h1, h2, rfl⟩
    have hxl : x < xs.length := HPL.out x (hpx.subset (by simp))
    have hRX := HRUN.out x hxl
    obtain ⟨ad, -, hoka, ⟨-, -, gr⟩, -⟩ := hn' x hxl
    have hYX := HY.out (pre.map R) (R x)
    have hpm : pre.map R ++ [R x] <+: l.map R := by
      have h := hpx.map R
      rwa [List.map_append] at h
    have HYX := Lib.hid (fun W1 => hYX W1 hpm)
    have HN' := Lib.hid hn'
    have HJ' := Lib.hid hJ'
    have HRX := Lib.hid (hRX _ (ci x) _ W' gr)
    have hbw : b0 ≤ W'.heap.size := by omega
    have hxe : xs[x]! = xs[x] := getElem!_pos xs x hxl
    rw [hxe] at h2
    rw [hxe]
    generalize hxx : xs[x] = xx at *
    have HXX := Lib.hid hxx
    clear hRX hYX hpm hn' hJ' gr hxe hoka hxx
    unfold nodeV at *
    have n2 := blk_cell h2 2
    have y0 := blk_cell hy' 0
    simp only [List.getElem?_toArray, List.getElem?_cons_zero, List.getElem?_cons_succ] at n2 y0
    have HY' := Lib.hid hy'
    have HD' := Lib.hid hd'
    have HX' : Hid (xx.program.length = xx.program.length) := rfl
    obtain ⟨nr, arch, ip, a0, a1, a2, a3, a4, a5⟩ := d
    simp only [Data.agg] at HRX
    have d0 := blk_cell hd' 0
    have d1 := blk_cell hd' 1
    have d2 := blk_cell hd' 2
    have d3 := blk_cell hd' 3
    have d4 := blk_cell hd' 4
    have d5 := blk_cell hd' 5
    have d6 := blk_cell hd' 6
    have d7 := blk_cell hd' 7
    have d8 := blk_cell hd' 8
    simp only [Data.cells, List.getElem?_toArray, List.getElem?_cons_zero, List.getElem?_cons_succ] at d0 d1 d2 d3 d4 d5 d6 d7 d8
    clear hy' hd' h2
    gi_wp2_with fail
    refine ⟨trivial, fun _ => by omega, ?_⟩
    refine (CallsIn.inRound l' (callsIn_wide.2 HRX.out)).mono ?_
    rintro e w3 ⟨rfl, hB3⟩
    have hJ3 := HJ.out.goes _ _ _ HJ'.out (Goes.of hB3 hbw)
    have y3 := cell_bel hB3 y0
    obtain ⟨fn, tmps, assign, body, hy, hRR⟩ := HYX.out w3 hJ3
    have HRR := Lib.hid hRR
    have HB3 := Lib.hid hB3
    clear hRR hJ3 hB3 d0 d1 d2 d3 d4 d5 d6 d7 d8 n2 y0
    gi_wp2_with fail
    refine ⟨fun _ => by omega, (round_deep HRR.out l' _).mono ?_⟩
    rintro e W5 ⟨rfl, hJ5, hk5, hko5⟩
    have HK5 := Lib.hid hk5
    have HKO5 := Lib.hid hko5
    have HJ5 := Lib.hid hJ5
    clear hk5 hko5 hJ5 y3
    gi_wp2_with fail
    have hSy : ¬ S W.heap.size := fun h => by have := HS.out _ h; omega
    refine ⟨(kept_bel HB3.out).trans HKO5.out, (KpS.bel HB3.out).trans HK5.out, ?_, HK5.out.2 _ _ _ _ hSy (blk_bel HB3.out HY'.out), HK5.out.2 _ _ _ _ HSD.out (blk_bel HB3.out HD'.out), (HN'.out.kps (fun q hq => HOK.out q hq.1) ((KpS.bel HB3.out).trans HK5.out))⟩
    exact HJ5.out
  case done =>
    rintro D W' hD ⟨hJ', hy', hd', hn'⟩ hK
    gi_wp2
    refine ⟨by simp, .inl ⟨_, _, rfl, run_takeDeferred hK, ?_⟩⟩
    exact ⟨_, results_none rfl _ _ _, ⟨_, rfl⟩, HJ.out.bel _ _ _ hJ' (below_put _ _ _ (by omega) hK)⟩
end Go.Proofs.YtbojjjiggppnaaaGreat

/-! The walks of action.Under and action.least. -/
namespace Go.Proofs.YtbojjjiggppnaaaGreat
open Go.RowKit Go.Shelf
set_option linter.unusedVariables false
set_option linter.unusedSimpArgs false

attribute [local go_sem] Oper.semAt_some
theorem run_field53 (w : World) (a b : Value) : (Instr.field 53 (.agg #[a, b]) 0).run Tryz.prog w = .ok a w := by
  unfold Instr.field Go.part
  simp [go_sem, Tryz.underlying53, asAgg]
theorem kept_d1 {A B : World} (h : KeepsOthers A B) : KeepsOthers A B.drew := ⟨h.size, h.same⟩
theorem results_cc {P : Program} {fn : Func} {p u : Tmp} {ty ty2 : TypeId} (h : fn.results = #[.cell p ty, .cell u ty2]) (tmps : Array Value) (w : World) (a b : Addr) (v1 v2 : Value)
    (hp : tmps.getD p undef = .pointer (some a)) (hu : tmps.getD u undef = .pointer (some b)) (h1 : (loadVar ty a).run P w = .ok v1 w) (h2 : (loadVar ty2 b).run P w = .ok v2 w) :
    (results fn tmps).run P w = .ok (.tuple #[v1, v2]) w := by
  have hp' : tmps[p]?.getD undef = .pointer (some a) := by simpa using hp
  have hu' : tmps[u]?.getD undef = .pointer (some b) := by simpa using hu
  simp [results, h, hp', hu', asAddr, h1, h2]
theorem run_loadVar23 (w : World) (a : Addr) (v : Value) (h : w.cell? a = some v) : (loadVar 23 a).run Tryz.prog w = .ok v w := by
  simp [go_sem, loadVar, Tryz.underlying23, h]
theorem run_loadVar3 (w : World) (a : Addr) (v : Value) (h : w.cell? a = some v) : (loadVar 3 a).run Tryz.prog w = .ok v w := by
  simp [go_sem, loadVar, Tryz.underlying3, h]
set_option maxRecDepth 100000 in
theorem c_Under (x y : Int) (hx : 0 ≤ x ∧ x < 4294967296) (hy : 0 ≤ y ∧ y < 4294967296) (w : World) : Calls Tryz.prog 162 #[.int .u32 x, .int .u32 y] w fun e w' => e = .returned (.bool (decide (splitA x < splitA y))) ∧ Below w.heap.size w w' := by
  have HX := Lib.hid (fun W => c_Split x hx.1 hx.2 W)
  have HY := Lib.hid (fun W => c_Split y hy.1 hy.2 W)
  have hf := run_field53
  generalize splitA x = sx at *
  generalize splitA y = sy at *
  go_enter Tryz.func162, Tryz.ntmps162
  go_wp2_with fail
  refine (HX.out _).mono ?_
  rintro e w1 ⟨rfl, hB1⟩
  go_wp2_with fail
  refine (HY.out _).mono ?_
  rintro e w2 ⟨rfl, hB2⟩
  go_wp2_with fail
  go_ret
  exact ⟨rfl, below_tr hB1 hB2⟩
/-- The least word so far, where it was, how many there were. -/
def lstep (s : Int × Int × Int) (k : Int) : Int × Int × Int := if s.2.1 < 0 ∨ splitA k < splitA s.1 then (k, s.2.2, s.2.2 + 1) else (s.1, s.2.1, s.2.2 + 1)
def leastS (ks : List Int) : Int × Int × Int := ks.foldl lstep (0, -1, 0)
theorem leastS_snoc (ks : List Int) (k : Int) : leastS (ks ++ [k]) = lstep (leastS ks) k := by simp [leastS, List.foldl_append]
def LIn (s : Int × Int × Int) (n : Nat) : Prop := (0 ≤ s.1 ∧ s.1 < 4294967296) ∧ (-1 ≤ s.2.1 ∧ s.2.1 ≤ n) ∧ s.2.2 = n
theorem LIn.step {s : Int × Int × Int} {n : Nat} (h : LIn s n) {k : Int} (hk : 0 ≤ k ∧ k < 4294967296) : LIn (lstep s k) (n + 1) := by
  obtain ⟨h1, h2, h3⟩ := h
  unfold lstep
  split
  · exact ⟨hk, by simp only [h3]; omega, by simp only [h3]; omega⟩
  · exact ⟨h1, by simp only []; omega, by simp only [h3]; omega⟩
theorem lin_fold (ks : List Int) : ∀ (s : Int × Int × Int) (n : Nat), LIn s n → (∀ k ∈ ks, 0 ≤ k ∧ k < 4294967296) → LIn (ks.foldl lstep s) (n + ks.length) := by
  induction ks with
  | nil => intro s n h _; exact h
  | cons k ks ih =>
    intro s n h hk
    have := ih (lstep s k) (n + 1) (h.step (hk k (by simp))) (fun x hx => hk x (by simp [hx]))
    rw [List.foldl_cons, List.length_cons, show n + (ks.length + 1) = n + 1 + ks.length by omega]
    exact this
theorem leastS_in (ks : List Int) (h : ∀ k ∈ ks, 0 ≤ k ∧ k < 4294967296) : LIn (leastS ks) ks.length := by
  have := lin_fold ks (0, -1, 0) 0 (by unfold LIn; decide) h
  rwa [Nat.zero_add] at this
set_option maxRecDepth 100000 in
set_option maxHeartbeats 4000000 in
theorem c_least (gf : Nat) (lb : Array Value) (eg : ∀ args w, (callFunc gf args).run Tryz.prog w = .ok (.enter gf args) w) (ks : List Int) (hks : ∀ k ∈ ks, 0 ≤ k ∧ k < 4294967296) (hkl : ks.length ≤ 1000000) (w : World)
    (hseq : ∀ W, Below w.heap.size w W → ∀ S : Nat → Prop, (∀ q, S q → w.heap.size ≤ q ∧ q < W.heap.size) → Iter 9 Tryz.prog gf lb (fun k => #[.int .u32 k]) ks S W.heap.size W) :
    Calls Tryz.prog 161 #[.func (.func gf) #[] lb, .func (.func 162) #[] #[]] w fun e w' => e = .returned (.tuple #[.int .u32 (leastS ks).1, .int .i64 (leastS ks).2.1]) ∧ Below w.heap.size w w' := by
  refine (callsIn_wide (n := 10)).1 ?_
  have hro : Fence.wide.round = none := rfl
  refine callsIn_of_wp_marks Tryz.func161 rfl trivial ?_ hro
  simp only [Tryz.ntmps161, List.size_toArray, List.length_cons, List.length_nil, Nat.reduceAdd, Nat.reduceSub, Array.replicate_succ, Array.replicate_zero, List.push_toArray, List.append_toArray, List.nil_append, List.cons_append]
  have HSEQ := Lib.hid hseq
  have HKS := Lib.hid hks
  have EG := Lib.hid eg
  clear hseq hks eg
  gi_wp2_with fail
  obtain ⟨W3, hW3⟩ : ∃ W3, ((((w.alloc (.cells #[.func (.func 162) #[] #[]] 207)).alloc (.cells #[.int .u32 0] 23)).alloc (.cells #[.int .i64 (-1)] 3)).alloc (.cells #[.int .i64 0] 3)) = W3 := ⟨_, rfl⟩
  have hB3 : Below w.heap.size w W3 := by rw [← hW3]; exact below_al (below_al (below_al (below_al (Below.refl _ _) _) _) _) _
  have hs3 : W3.heap.size = w.heap.size + 4 := by rw [← hW3]; simp
  have f0 : W3.heap[w.heap.size]? = some (.cells #[.func (.func 162) #[] #[]] 207) := by
    have h := blk_new w (.cells #[.func (.func 162) #[] #[]] 207)
    rw [← hW3]
    exact blk_al (blk_al (blk_al (h) _) _) _
  have f1 : W3.heap[w.heap.size + 1]? = some (.cells #[.int .u32 0] 23) := by
    have h := blk_new (w.alloc (.cells #[.func (.func 162) #[] #[]] 207)) (.cells #[.int .u32 0] 23)
    rw [World.size_alloc] at h
    rw [← hW3]
    exact blk_al (blk_al (h) _) _
  have f2 : W3.heap[w.heap.size + 1 + 1]? = some (.cells #[.int .i64 (-1)] 3) := by
    have h := blk_new ((w.alloc (.cells #[.func (.func 162) #[] #[]] 207)).alloc (.cells #[.int .u32 0] 23)) (.cells #[.int .i64 (-1)] 3)
    rw [World.size_alloc, World.size_alloc] at h
    rw [← hW3]
    exact blk_al (h) _
  have f3 : W3.heap[w.heap.size + 1 + 1 + 1]? = some (.cells #[.int .i64 0] 3) := by
    have h := blk_new (((w.alloc (.cells #[.func (.func 162) #[] #[]] 207)).alloc (.cells #[.int .u32 0] 23)).alloc (.cells #[.int .i64 (-1)] 3)) (.cells #[.int .i64 0] 3)
    rw [World.size_alloc, World.size_alloc, World.size_alloc] at h
    rw [← hW3]
    exact h
  rw [hW3]
  clear hW3
  refine wpIn_range_goes (α := Int) (by omega) (gf := gf) (lb := lb) rfl EG.out
    (encs := fun k => #[.int .u32 k]) (fun _ => rfl) (fun q => q = w.heap.size + 1 ∨ q = w.heap.size + 1 + 1 ∨ q = w.heap.size + 1 + 1 + 1) W3.heap.size (Nat.le_refl _) ks
    (HSEQ.out W3 hB3 _ (fun q hq => by omega))
    (fun pre W' => W'.heap[w.heap.size]? = some (.cells #[.func (.func 162) #[] #[]] 207) ∧ W'.heap[w.heap.size + 1]? = some (.cells #[.int .u32 (leastS pre).1] 23) ∧ W'.heap[w.heap.size + 1 + 1]? = some (.cells #[.int .i64 (leastS pre).2.1] 3) ∧ W'.heap[w.heap.size + 1 + 1 + 1]? = some (.cells #[.int .i64 (leastS pre).2.2] 3) ∧ Below w.heap.size w W')
    (Stays.of (Nat.le_refl _) (fun s A' B' hs hB => ⟨(hB.block _ (by omega)).trans hs.1, (hB.block _ (by omega)).trans hs.2.1, (hB.block _ (by omega)).trans hs.2.2.1, (hB.block _ (by omega)).trans hs.2.2.2.1, hs.2.2.2.2.trans (hB.mono (by omega))⟩))
    ⟨f0, f1, f2, f3, hB3⟩
    (fun x => { tmps := #[.func (.func gf) #[] lb, .func (.func 162) #[] #[], undef, .pointer (some ⟨w.heap.size, 0, none⟩), .pointer (some ⟨w.heap.size + 1, 0, none⟩), .pointer (some ⟨w.heap.size + 1 + 1, 0, none⟩), .pointer (some ⟨w.heap.size + 1 + 1 + 1, 0, none⟩), .int .u32 x, .func (.func gf) #[] lb, .int .u32 x, undef, undef, undef, undef, undef, undef, undef, undef, undef, undef, undef, undef, undef, undef], defers := [] })
    ?assign ?body ?done
  case assign =>
    intro l' x W' K hK
    gi_wp2
    exact hK
  case body =>
    rintro l' pre x W' hpx hs ⟨h0, h1, h2, h3, hB⟩
    have hpb : ∀ k ∈ pre, 0 ≤ k ∧ k < 4294967296 := fun k hk => HKS.out k (hpx.subset (by simp [hk]))
    have hxb := HKS.out x (hpx.subset (by simp))
    have hpl : pre.length ≤ 1000000 := by
      have := hpx.length_le
      simp at this
      omega
    have hin := leastS_in pre hpb
    rw [leastS_snoc]
    generalize leastS pre = s at *
    obtain ⟨best, at_, i⟩ := s
    obtain ⟨hi1, hi2, hi3⟩ := hin
    simp only at hi1 hi2 hi3 h1 h2 h3
    have HI3 := Lib.hid hi3
    have hi4 : 0 ≤ i ∧ i ≤ 1000000 := by omega
    have hwi : IntKind.i64.wrap (i + 1) = i + 1 := wrap_i64 (by omega)
    clear hi3 hpx hpb
    have c0 := blk_cell h0 0
    have c1 := blk_cell h1 0
    have c2 := blk_cell h2 0
    have c3 := blk_cell h3 0
    have g1 := blk_free h1 0
    have g2 := blk_free h2 0
    have g3 := blk_free h3 0
    simp only [List.getElem?_toArray, List.getElem?_cons_zero] at c0 c1 c2 c3
    have H0 := Lib.hid h0
    have H1 := Lib.hid h1
    have H2 := Lib.hid h2
    have H3 := Lib.hid h3
    have HB := Lib.hid hB
    clear h0 h1 h2 h3 hB f0 f1 f2 f3 hB3
    by_cases hat : at_ < 0
    · have hl : lstep (best, at_, i) x = (x, i, i + 1) := by unfold lstep; rw [if_pos (Or.inl hat)]
      have HL := Lib.hid hl
      have hd : decide (at_ < 0) = true := decide_eq_true hat
      clear hl
      have hk0 : Hid (KeepsOthers W' W') := KeepsOthers.refl _
      have hs0 : Hid (KpS (fun q => q = w.heap.size + 1 ∨ q = w.heap.size + 1 + 1 ∨ q = w.heap.size + 1 + 1 + 1) W' W') := KpS.bel (Below.refl _ _)
      have HBt := HB
      gi_upto_region 6 with fail
      refine ⟨fun f h => (by cases h), ?_⟩
      gi_upto_region 6 with fail
      gi_region
      all_goals
        have q0 : Hid (((W'.setCell ⟨w.heap.size + 1, 0, none⟩ (.int .u32 x)).setCell ⟨w.heap.size + 1 + 1, 0, none⟩ (.int .i64 i)).drew.heap[w.heap.size]? = _) := blk_far (blk_far H0.out (by simp) _) (by simp; try omega) _
        have q1 : Hid (((W'.setCell ⟨w.heap.size + 1, 0, none⟩ (.int .u32 x)).setCell ⟨w.heap.size + 1 + 1, 0, none⟩ (.int .i64 i)).drew.heap[w.heap.size + 1]? = _) := blk_far (blk_set (j := 0) H1.out _) (by simp) _
        have q2 : Hid (((W'.setCell ⟨w.heap.size + 1, 0, none⟩ (.int .u32 x)).setCell ⟨w.heap.size + 1 + 1, 0, none⟩ (.int .i64 i)).drew.heap[w.heap.size + 1 + 1]? = _) := blk_set (j := 0) (blk_far H2.out (by simp) _) _
        have q3 : Hid (((W'.setCell ⟨w.heap.size + 1, 0, none⟩ (.int .u32 x)).setCell ⟨w.heap.size + 1 + 1, 0, none⟩ (.int .i64 i)).drew.heap[w.heap.size + 1 + 1 + 1]? = _) := blk_far (blk_far H3.out (by simp; try omega) _) (by simp) _
        have qk : Hid (KeepsOthers W' ((W'.setCell ⟨w.heap.size + 1, 0, none⟩ (.int .u32 x)).setCell ⟨w.heap.size + 1 + 1, 0, none⟩ (.int .i64 i)).drew) := kept_d1 ((KeepsOthers.setCell _ _ _).trans (KeepsOthers.setCell _ _ _))
        have qs : Hid (KpS (fun q => q = w.heap.size + 1 ∨ q = w.heap.size + 1 + 1 ∨ q = w.heap.size + 1 + 1 + 1) W' ((W'.setCell ⟨w.heap.size + 1, 0, none⟩ (.int .u32 x)).setCell ⟨w.heap.size + 1 + 1, 0, none⟩ (.int .i64 i)).drew) := (KpS.set (S := fun q => q = w.heap.size + 1 ∨ q = w.heap.size + 1 + 1 ∨ q = w.heap.size + 1 + 1 + 1) W' (p := ⟨w.heap.size + 1, 0, none⟩) (Or.inl rfl) _).trans (KpS.set _ (p := ⟨w.heap.size + 1 + 1, 0, none⟩) (Or.inr (Or.inl rfl)) _)
        have qb : Hid (Below w.heap.size w ((W'.setCell ⟨w.heap.size + 1, 0, none⟩ (.int .u32 x)).setCell ⟨w.heap.size + 1 + 1, 0, none⟩ (.int .i64 i)).drew) := below_d1 ((HBt.out.setCell (p := ⟨w.heap.size + 1, 0, none⟩) (by simp) _).setCell (p := ⟨w.heap.size + 1 + 1, 0, none⟩) (by simp; omega) _)
        generalize ((W'.setCell ⟨w.heap.size + 1, 0, none⟩ (.int .u32 x)).setCell ⟨w.heap.size + 1 + 1, 0, none⟩ (.int .i64 i)).drew = WF at *
        have k3 := blk_cell q3.out 0
        have kf := blk_free q3.out 0
        simp only [List.getElem?_toArray, List.getElem?_cons_zero] at k3
        gi_wp2_with fail
        refine ⟨(hk0.out.trans qk.out).trans (KeepsOthers.setCell _ _ _), (hs0.out.trans qs.out).trans (KpS.set _ (p := ⟨w.heap.size + 1 + 1 + 1, 0, none⟩) (Or.inr (Or.inr rfl)) _), ?_⟩
        rw [HL.out]
        exact ⟨blk_far q0.out (by simp; try omega) _, blk_far q1.out (by simp; try omega) _, blk_far q2.out (by simp) _, blk_set (j := 0) q3.out _, qb.out.setCell (p := ⟨w.heap.size + 1 + 1 + 1, 0, none⟩) (by simp; omega) _⟩
    · have hd : decide (at_ < 0) = false := decide_eq_false hat
      gi_upto_region 6 with fail
      refine ⟨trivial, ?_⟩
      refine (CallsIn.inRound l' (callsIn_wide.2 (c_Under x best hxb hi1 W'))).mono ?_
      rintro e w5 ⟨rfl, hB5⟩
      have J0 := Lib.hid (blk_bel hB5 H0.out)
      have J1 := Lib.hid (blk_bel hB5 H1.out)
      have J2 := Lib.hid (blk_bel hB5 H2.out)
      have J3 := Lib.hid (blk_bel hB5 H3.out)
      have hk0 : Hid (KeepsOthers W' w5) := kept_bel hB5
      have hs0 : Hid (KpS (fun q => q = w.heap.size + 1 ∨ q = w.heap.size + 1 + 1 ∨ q = w.heap.size + 1 + 1 + 1) W' w5) := KpS.bel hB5
      have HBt : Hid (Below w.heap.size w w5) := HB.out.trans (hB5.mono HB.out.size)
      clear c0 c1 c2 c3 g1 g2 g3 hB5
      have c1 := blk_cell J1.out 0
      have c2 := blk_cell J2.out 0
      have c3 := blk_cell J3.out 0
      have g1 := blk_free J1.out 0
      have g2 := blk_free J2.out 0
      have g3 := blk_free J3.out 0
      simp only [List.getElem?_toArray, List.getElem?_cons_zero] at c1 c2 c3
      by_cases hu : splitA x < splitA best
      · have hl : lstep (best, at_, i) x = (x, i, i + 1) := by unfold lstep; rw [if_pos (Or.inr hu)]
        have HL := Lib.hid hl
        have hdu : decide (splitA x < splitA best) = true := decide_eq_true hu
        clear hl
        gi_upto_region 6 with fail
        gi_region
        all_goals
          have q0 : Hid (((w5.setCell ⟨w.heap.size + 1, 0, none⟩ (.int .u32 x)).setCell ⟨w.heap.size + 1 + 1, 0, none⟩ (.int .i64 i)).drew.heap[w.heap.size]? = _) := blk_far (blk_far J0.out (by simp) _) (by simp; try omega) _
          have q1 : Hid (((w5.setCell ⟨w.heap.size + 1, 0, none⟩ (.int .u32 x)).setCell ⟨w.heap.size + 1 + 1, 0, none⟩ (.int .i64 i)).drew.heap[w.heap.size + 1]? = _) := blk_far (blk_set (j := 0) J1.out _) (by simp) _
          have q2 : Hid (((w5.setCell ⟨w.heap.size + 1, 0, none⟩ (.int .u32 x)).setCell ⟨w.heap.size + 1 + 1, 0, none⟩ (.int .i64 i)).drew.heap[w.heap.size + 1 + 1]? = _) := blk_set (j := 0) (blk_far J2.out (by simp) _) _
          have q3 : Hid (((w5.setCell ⟨w.heap.size + 1, 0, none⟩ (.int .u32 x)).setCell ⟨w.heap.size + 1 + 1, 0, none⟩ (.int .i64 i)).drew.heap[w.heap.size + 1 + 1 + 1]? = _) := blk_far (blk_far J3.out (by simp; try omega) _) (by simp) _
          have qk : Hid (KeepsOthers w5 ((w5.setCell ⟨w.heap.size + 1, 0, none⟩ (.int .u32 x)).setCell ⟨w.heap.size + 1 + 1, 0, none⟩ (.int .i64 i)).drew) := kept_d1 ((KeepsOthers.setCell _ _ _).trans (KeepsOthers.setCell _ _ _))
          have qs : Hid (KpS (fun q => q = w.heap.size + 1 ∨ q = w.heap.size + 1 + 1 ∨ q = w.heap.size + 1 + 1 + 1) w5 ((w5.setCell ⟨w.heap.size + 1, 0, none⟩ (.int .u32 x)).setCell ⟨w.heap.size + 1 + 1, 0, none⟩ (.int .i64 i)).drew) := (KpS.set (S := fun q => q = w.heap.size + 1 ∨ q = w.heap.size + 1 + 1 ∨ q = w.heap.size + 1 + 1 + 1) w5 (p := ⟨w.heap.size + 1, 0, none⟩) (Or.inl rfl) _).trans (KpS.set _ (p := ⟨w.heap.size + 1 + 1, 0, none⟩) (Or.inr (Or.inl rfl)) _)
          have qb : Hid (Below w.heap.size w ((w5.setCell ⟨w.heap.size + 1, 0, none⟩ (.int .u32 x)).setCell ⟨w.heap.size + 1 + 1, 0, none⟩ (.int .i64 i)).drew) := below_d1 ((HBt.out.setCell (p := ⟨w.heap.size + 1, 0, none⟩) (by simp) _).setCell (p := ⟨w.heap.size + 1 + 1, 0, none⟩) (by simp; omega) _)
          generalize ((w5.setCell ⟨w.heap.size + 1, 0, none⟩ (.int .u32 x)).setCell ⟨w.heap.size + 1 + 1, 0, none⟩ (.int .i64 i)).drew = WF at *
          have k3 := blk_cell q3.out 0
          have kf := blk_free q3.out 0
          simp only [List.getElem?_toArray, List.getElem?_cons_zero] at k3
          gi_wp2_with fail
          refine ⟨(hk0.out.trans qk.out).trans (KeepsOthers.setCell _ _ _), (hs0.out.trans qs.out).trans (KpS.set _ (p := ⟨w.heap.size + 1 + 1 + 1, 0, none⟩) (Or.inr (Or.inr rfl)) _), ?_⟩
          rw [HL.out]
          exact ⟨blk_far q0.out (by simp; try omega) _, blk_far q1.out (by simp; try omega) _, blk_far q2.out (by simp) _, blk_set (j := 0) q3.out _, qb.out.setCell (p := ⟨w.heap.size + 1 + 1 + 1, 0, none⟩) (by simp; omega) _⟩
      · have hl : lstep (best, at_, i) x = (best, at_, i + 1) := by unfold lstep; rw [if_neg (by simp only []; omega)]
        have HL := Lib.hid hl
        have hdu : decide (splitA x < splitA best) = false := decide_eq_false hu
        clear hl
        have q0 := J0
        have q1 := J1
        have q2 := J2
        have q3 := J3
        have qk : Hid (KeepsOthers w5 w5) := KeepsOthers.refl _
        have qs : Hid (KpS (fun q => q = w.heap.size + 1 ∨ q = w.heap.size + 1 + 1 ∨ q = w.heap.size + 1 + 1 + 1) w5 w5) := KpS.bel (Below.refl _ _)
        have qb := HBt
        clear c1 c2 c3 g1 g2 g3
        have k3 := blk_cell q3.out 0
        have kf := blk_free q3.out 0
        simp only [List.getElem?_toArray, List.getElem?_cons_zero] at k3
        gi_wp2_with fail
        refine ⟨(hk0.out.trans qk.out).trans (KeepsOthers.setCell _ _ _), (hs0.out.trans qs.out).trans (KpS.set _ (p := ⟨w.heap.size + 1 + 1 + 1, 0, none⟩) (Or.inr (Or.inr rfl)) _), ?_⟩
        rw [HL.out]
        exact ⟨blk_far q0.out (by simp; try omega) _, blk_far q1.out (by simp; try omega) _, blk_far q2.out (by simp) _, blk_set (j := 0) q3.out _, qb.out.setCell (p := ⟨w.heap.size + 1 + 1 + 1, 0, none⟩) (by simp; omega) _⟩
  case done =>
    rintro D W' hD ⟨h0, h1, h2, h3, hB⟩ hK
    have c1 := blk_cell h1 0
    have c2 := blk_cell h2 0
    have g1 := blk_free h1 0
    have g2 := blk_free h2 0
    simp only [List.getElem?_toArray, List.getElem?_cons_zero] at c1 c2
    have H1 := Lib.hid h1
    have H2 := Lib.hid h2
    clear h0 h1 h2 h3
    gi_upto_region 8 with fail
    gi_region
    all_goals
      have hb9 : Below w.heap.size w ((W'.setCell ⟨w.heap.size + 1, 0, none⟩ (.int .u32 (leastS ks).1)).setCell ⟨w.heap.size + 1 + 1, 0, none⟩ (.int .i64 (leastS ks).2.1)).drew := below_d1 ((hB.setCell (p := ⟨w.heap.size + 1, 0, none⟩) (by simp) _).setCell (p := ⟨w.heap.size + 1 + 1, 0, none⟩) (by simp; omega) _)
      have q1 : ((W'.setCell ⟨w.heap.size + 1, 0, none⟩ (.int .u32 (leastS ks).1)).setCell ⟨w.heap.size + 1 + 1, 0, none⟩ (.int .i64 (leastS ks).2.1)).drew.heap[w.heap.size + 1]? = _ := blk_far (blk_set (j := 0) H1.out _) (by simp) _
      have q2 : ((W'.setCell ⟨w.heap.size + 1, 0, none⟩ (.int .u32 (leastS ks).1)).setCell ⟨w.heap.size + 1 + 1, 0, none⟩ (.int .i64 (leastS ks).2.1)).drew.heap[w.heap.size + 1 + 1]? = _ := blk_set (j := 0) (blk_far H2.out (by simp) _) _
      have hK9 : ((W'.setCell ⟨w.heap.size + 1, 0, none⟩ (.int .u32 (leastS ks).1)).setCell ⟨w.heap.size + 1 + 1, 0, none⟩ (.int .i64 (leastS ks).2.1)).drew.heap[D]? = some (.deferred (some [])) := blk_far (blk_far hK (by simp; omega) _) (by simp; omega) _
      generalize ((W'.setCell ⟨w.heap.size + 1, 0, none⟩ (.int .u32 (leastS ks).1)).setCell ⟨w.heap.size + 1 + 1, 0, none⟩ (.int .i64 (leastS ks).2.1)).drew = WF at *
      gi_wp2_with fail
      refine ⟨by simp, .inl ⟨_, _, rfl, run_takeDeferred hK9, ?_⟩⟩
      have r1 : (WF.putObj D (.deferred none)).heap[w.heap.size + 1]? = some (.cells #[.int .u32 (leastS ks).1] 23) := (World.putObj_heap_other (by omega)).trans q1
      have r2 : (WF.putObj D (.deferred none)).heap[w.heap.size + 1 + 1]? = some (.cells #[.int .i64 (leastS ks).2.1] 3) := (World.putObj_heap_other (by omega)).trans q2
      exact ⟨_, results_cc rfl _ _ _ _ _ _ rfl rfl (run_loadVar23 _ _ _ (blk_cell r1 0)) (run_loadVar3 _ _ _ (blk_cell r2 0)), rfl, hb9.trans (below_put _ _ _ (by omega) hK9)⟩
end Go.Proofs.YtbojjjiggppnaaaGreat

/-! The walks of action.CombineSeq, chain.there and chain.Eval. -/
namespace Go.Proofs.YtbojjjiggppnaaaGreat
open Go.RowKit Go.Shelf
set_option linter.unusedVariables false
set_option linter.unusedSimpArgs false

/-- The least action of a line, its data, its place. -/
def combV (ks : List Int) : Value := if (leastS ks).2.1 < 0 then .tuple #[.agg #[.int .i64 7, .int .u16 0], .int .i64 (leastS ks).2.1] else .tuple #[.agg #[.int .i64 (splitA (leastS ks).1), .int .u16 ((leastS ks).1 % 65536)], .int .i64 (leastS ks).2.1]
set_option maxRecDepth 100000 in
set_option maxHeartbeats 2000000 in
theorem c_CombineSeq (gf : Nat) (lb : Array Value) (eg : ∀ args w, (callFunc gf args).run Tryz.prog w = .ok (.enter gf args) w) (ks : List Int) (hks : ∀ k ∈ ks, 0 ≤ k ∧ k < 4294967296) (hkl : ks.length ≤ 1000000) (w : World)
    (hseq : ∀ W, Below w.heap.size w W → ∀ S : Nat → Prop, (∀ q, S q → w.heap.size ≤ q ∧ q < W.heap.size) → Iter 9 Tryz.prog gf lb (fun k => #[.int .u32 k]) ks S W.heap.size W) :
    Calls Tryz.prog 104 #[.func (.func gf) #[] lb] w fun e w' => e = .returned (combV ks) ∧ Below w.heap.size w w' := by
  have HL := Lib.hid (fun W (hW : Below w.heap.size w W) => c_least gf lb eg ks hks hkl W (fun W' h' S hS => hseq W' (hW.trans (h'.mono hW.size)) S (fun q hq => ⟨Nat.le_trans hW.size (hS q hq).1, (hS q hq).2⟩)))
  have hin := leastS_in ks hks
  unfold combV
  generalize leastS ks = s at *
  obtain ⟨best, at_, i⟩ := s
  simp only at *
  obtain ⟨hi1, hi2, -⟩ := hin
  simp only at hi1 hi2
  have HSP := Lib.hid (fun W => c_Split best hi1.1 hi1.2 W)
  obtain ⟨n, hn⟩ : ∃ n, w.heap.size = n := ⟨_, rfl⟩
  have HB1 := Lib.hid (below_al (Below.refl w.heap.size w) (.cells #[.int .i64 0, .int .u16 0] 53))
  have F1 : Hid ((w.alloc (.cells #[.int .i64 0, .int .u16 0] 53)).heap[w.heap.size]? = some (.cells #[.int .i64 0, .int .u16 0] 53)) := blk_new _ _
  obtain ⟨res, hres⟩ : ∃ res, (if at_ < 0 then Value.tuple #[.agg #[.int .i64 7, .int .u16 0], .int .i64 at_] else .tuple #[.agg #[.int .i64 (splitA best), .int .u16 (best % 65536)], .int .i64 at_]) = res := ⟨_, rfl⟩
  rw [hres]
  have HRES := Lib.hid hres
  clear hseq hks hn hres
  go_enter Tryz.func104, Tryz.ntmps104
  go_wp2_with fail
  refine (HL.out _ HB1.out).mono ?_
  rintro e w2 ⟨rfl, hB2⟩
  have HB2 : Hid (Below w.heap.size w w2) := HB1.out.trans (hB2.mono HB1.out.size)
  have h2 := blk_bel hB2 F1.out
  have HF2 := Lib.hid h2
  have c0 := blk_cell h2 0
  have c1 := blk_cell h2 1
  have g0 := blk_free h2 0
  have g1 := blk_free h2 1
  simp only [List.getElem?_toArray, List.getElem?_cons_zero, List.getElem?_cons_succ] at c0 c1
  clear h2 hB2
  by_cases hat : at_ < 0
  · have hd : decide (at_ < 0) = true := decide_eq_true hat
    have HR : Hid (Value.tuple #[.agg #[.int .i64 7, .int .u16 0], .int .i64 at_] = res) := by
      have h := HRES.out
      rwa [if_pos hat] at h
    clear hat HRES
    go_wp2_with fail
    have h9 := blk_set (j := 1) (blk_set (j := 0) HF2.out (.int .i64 7)) (.int .u16 0)
    refine bodyPost_ret (results_ct rfl _ _ w.heap.size _ #[.int .i64 7, .int .u16 0] _ _ rfl h9 Tryz.underlying53 rfl (by kernel_rfl)) rfl ?_
    exact ⟨by rw [← HR.out]; rfl, (HB2.out.setCell (p := ⟨w.heap.size, 0, none⟩) (by simp) _).setCell (p := ⟨w.heap.size, 1, none⟩) (by simp) _⟩
  · have hd : decide (at_ < 0) = false := decide_eq_false hat
    have HR : Hid (Value.tuple #[.agg #[.int .i64 (splitA best), .int .u16 (best % 65536)], .int .i64 at_] = res) := by
      have h := HRES.out
      rwa [if_neg hat] at h
    clear hat HRES
    go_wp2_with fail
    refine (HSP.out _).mono ?_
    rintro e w3 ⟨rfl, hB3⟩
    have h3 := blk_bel hB3 HF2.out
    have HF3 := Lib.hid h3
    have e0 := blk_cell h3 0
    have e1 := blk_cell h3 1
    have k0 := blk_free h3 0
    have k1 := blk_free h3 1
    simp only [List.getElem?_toArray, List.getElem?_cons_zero, List.getElem?_cons_succ] at e0 e1
    have HB3 : Hid (Below w.heap.size w w3) := HB2.out.trans (hB3.mono HB2.out.size)
    clear h3 hB3 c0 c1 g0 g1
    generalize splitA best = sa at *
    generalize best % 65536 = sb at *
    go_wp2_with fail
    have h9 := blk_set (j := 1) (blk_set (j := 0) HF3.out (.int .i64 sa)) (.int .u16 sb)
    refine bodyPost_ret (results_ct rfl _ _ w.heap.size _ #[.int .i64 sa, .int .u16 sb] _ _ rfl h9 Tryz.underlying53 rfl (by kernel_rfl)) rfl ?_
    exact ⟨by rw [← HR.out]; rfl, (HB3.out.setCell (p := ⟨w.heap.size, 0, none⟩) (by simp) _).setCell (p := ⟨w.heap.size, 1, none⟩) (by simp) _⟩
end Go.Proofs.YtbojjjiggppnaaaGreat

/-! The walks of chain.there and chain.Eval. -/
namespace Go.Proofs.YtbojjjiggppnaaaGreat
open Go.RowKit Go.Shelf
set_option linter.unusedVariables false
set_option linter.unusedSimpArgs false

noncomputable def thereE (xs : List Node) (t : Int) : Int := if poolE xs = 0 then (if findN xs t = none ∧ t ≠ 0 then 4 else 0) else poolE xs
set_option maxRecDepth 100000 in
set_option maxHeartbeats 2000000 in
theorem c_there (xs : List Node) (A : Option Addr) (c : Nat) (t : Int) (ok : Nat → Prop) (w : World) (hrow : kNode.Row w ok A xs) (hl : xs.length ≤ 1000) :
    Calls Tryz.prog 103 #[.agg #[.slice A xs.length c], .int .i64 t] w fun e w' => e = .returned (.int .i64 (thereE xs t)) ∧ Below w.heap.size w w' := by
  have hxn := hrow.1
  have HCK := Lib.hid (fun W (h : Below w.heap.size w W) => c_checkPool xs c A ok W (hrow.bel h) (by omega))
  have HPL := Lib.hid (fun W (h : Below w.heap.size w W) => c_place xs _ c A t ok W (hrow.bel h) rfl (by omega))
  have HB1 := Lib.hid (below_al (Below.refl w.heap.size w) (.cells #[.slice A xs.length c] 31))
  have F1 : Hid ((w.alloc (.cells #[.slice A xs.length c] 31)).heap[w.heap.size]? = some (.cells #[.slice A xs.length c] 31)) := blk_new _ _
  obtain ⟨res, hres⟩ : ∃ res, thereE xs t = res := ⟨_, rfl⟩
  rw [hres]
  have HRES := Lib.hid hres
  have HPE := Lib.hid (rfl : poolE xs = poolE xs)
  obtain ⟨pe, hpe⟩ : ∃ pe, poolE xs = pe := ⟨_, rfl⟩
  rw [hpe] at HCK
  have HPEE := Lib.hid hpe
  clear hrow hres HPE hpe
  go_enter Tryz.func103, Tryz.ntmps103
  go_wp2_with fail
  refine (HCK.out _ HB1.out).mono ?_
  rintro e w2 ⟨rfl, hB2⟩
  have HB2 : Hid (Below w.heap.size w w2) := HB1.out.trans (hB2.mono HB1.out.size)
  have HF2 := Lib.hid (blk_bel hB2 F1.out)
  clear hB2
  by_cases h0 : pe = 0
  · subst h0
    have c0 := blk_cell HF2.out 0
    simp only [List.getElem?_toArray, List.getElem?_cons_zero] at c0
    go_wp2_with fail
    refine (HPL.out _ HB2.out).mono ?_
    rintro e w3 ⟨i, rfl, hil, hP, hB3⟩
    have HAF := at_found (poolE_inv HPEE.out).1.rising hP hil
    have HB3 : Hid (Below w.heap.size w w3) := HB2.out.trans (hB3.mono HB2.out.size)
    have HR : Hid ((if findN xs t = none ∧ t ≠ 0 then 4 else 0) = res) := by
      have h := HRES.out
      unfold thereE at h
      rwa [if_pos HPEE.out] at h
    clear hP hB3 c0
    rcases HAF with ⟨hat, hlt, hf⟩ | ⟨hat, hf⟩
    · have HR' : Hid ((0 : Int) = res) := by
        have h := HR.out
        rwa [if_neg (by rw [hf]; simp)] at h
      rw [hat]
      clear hf hat HR
      go_wp2_with fail
      go_ret
      exact ⟨by rw [← HR'.out]; rfl, HB3.out⟩
    · by_cases ht0 : t = 0
      · have hte : (t == 0) = true := by rw [beq_iff_eq]; exact ht0
        have HR' : Hid ((0 : Int) = res) := by
          have h := HR.out
          rwa [if_neg (by simp [ht0])] at h
        rw [hat]
        clear hf hat HR ht0
        go_wp2_with fail
        go_ret
        exact ⟨by rw [← HR'.out]; rfl, HB3.out⟩
      · have hte : (t == 0) = false := by rw [beq_eq_false_iff_ne]; exact ht0
        have HR' : Hid ((4 : Int) = res) := by
          have h := HR.out
          rwa [if_pos ⟨hf, ht0⟩] at h
        rw [hat]
        clear hf hat HR ht0
        go_wp2_with fail
        go_ret
        exact ⟨by rw [← HR'.out]; rfl, HB3.out⟩
  · have hne : (pe == 0) = false := by rw [beq_eq_false_iff_ne]; exact h0
    have HR : Hid (pe = res) := by
      have h := HRES.out
      unfold thereE at h
      rw [if_neg (by rw [HPEE.out]; exact h0), HPEE.out] at h
      exact h
    clear h0
    go_wp2_with fail
    go_ret
    exact ⟨by rw [← HR.out]; rfl, HB2.out⟩
end Go.Proofs.YtbojjjiggppnaaaGreat

/-! The walk of chain.Eval at a pool in order and a filter of it. -/
namespace Go.Proofs.YtbojjjiggppnaaaGreat
open Go.RowKit Go.Shelf
set_option linter.unusedVariables false
set_option linter.unusedSimpArgs false

theorem path_there {xs : List Node} (hR : Rising xs) {t : Int} {l : List Nat} (h : Path xs t l) (hp : poolE xs = 0) : thereE xs t = 0 := by
  unfold thereE
  rw [if_pos hp]
  cases h with
  | done => simp
  | @step _ i l h0 hi he h =>
    rw [if_neg]
    rintro ⟨hf, -⟩
    rw [find_at hR hi he] at hf
    cases hf
set_option maxRecDepth 100000 in
set_option maxHeartbeats 4000000 in
theorem c_Eval (xs : List Node) (A : Option Addr) (c : Nat) (t : Int) (ok : Nat → Prop) (d : Data) (l : List Nat) (R : Nat → Int) (va vb at_ : Int) (w : World) (hrow0 : kNode.Row w ok A xs) (hpool : poolE xs = 0) (hl : xs.length ≤ 1000) (ht : Kd.rng .i64 t) (hpath : Path xs t l)
    (hks : ∀ i ∈ l, 0 ≤ R i ∧ R i < 4294967296) (hll : l.length ≤ 1000000) (hcomb : combV (l.map R) = .tuple #[.agg #[.int .i64 va, .int .u16 vb], .int .i64 at_])
    (hrun : ∀ i (hi : i < xs.length), ∀ (Aq : Option Addr) (cq : Nat) (okq : Nat → Prop) (W : World), kInsn.Row W okq Aq xs[i].program → Calls Tryz.prog 107 #[.slice Aq xs[i].program.length cq, d.agg] W fun e w' => e = .returned (.tuple #[.int .u32 (R i), .int .i64 0]) ∧ Below W.heap.size W w') :
    Calls Tryz.prog 39 #[.agg #[.slice A xs.length c], .int .i64 t, d.agg] w fun e w' => e = .returned (.tuple #[.agg #[.int .i64 va, .int .u16 vb], .int .i64 0]) ∧ Below w.heap.size w w' := by
  have hrow := hrow0.bound
  have hR := (poolE_inv hpool).1.rising
  have hth := path_there hR hpath hpool
  obtain ⟨nr, arch, ip, a0, a1, a2, a3, a4, a5⟩ := d
  obtain ⟨W1, hW1⟩ : ∃ W, ((((w.alloc (.cells #[.slice A xs.length c] 31)).alloc (.cells #[.int .i64 t] 3)).alloc (.cells #[.int .u32 nr, .int .u32 arch, .int .u64 ip, .int .u64 a0, .int .u64 a1, .int .u64 a2, .int .u64 a3, .int .u64 a4, .int .u64 a5] 27)).alloc (.cells #[.int .i64 0, .int .u16 0] 53)) = W := ⟨_, rfl⟩
  have hB1 : Below w.heap.size w W1 := by rw [← hW1]; exact below_al (below_al (below_al (below_al (Below.refl _ _) _) _) _) _
  have f0 : Hid (W1.heap[w.heap.size]? = some (.cells #[.slice A xs.length c] 31)) := by
    have h := blk_new w (.cells #[.slice A xs.length c] 31)
    rw [← hW1]
    exact blk_al (blk_al (blk_al (h) _) _) _
  have f1 : Hid (W1.heap[w.heap.size + 1]? = some (.cells #[.int .i64 t] 3)) := by
    have h := blk_new (w.alloc (.cells #[.slice A xs.length c] 31)) (.cells #[.int .i64 t] 3)
    rw [World.size_alloc] at h
    rw [← hW1]
    exact blk_al (blk_al (h) _) _
  have f2 : Hid (W1.heap[w.heap.size + 1 + 1]? = some (.cells #[.int .u32 nr, .int .u32 arch, .int .u64 ip, .int .u64 a0, .int .u64 a1, .int .u64 a2, .int .u64 a3, .int .u64 a4, .int .u64 a5] 27)) := by
    have h := blk_new ((w.alloc (.cells #[.slice A xs.length c] 31)).alloc (.cells #[.int .i64 t] 3)) (.cells #[.int .u32 nr, .int .u32 arch, .int .u64 ip, .int .u64 a0, .int .u64 a1, .int .u64 a2, .int .u64 a3, .int .u64 a4, .int .u64 a5] 27)
    rw [World.size_alloc, World.size_alloc] at h
    rw [← hW1]
    exact blk_al (h) _
  have f3 : Hid (W1.heap[w.heap.size + 1 + 1 + 1]? = some (.cells #[.int .i64 0, .int .u16 0] 53)) := by
    have h := blk_new (((w.alloc (.cells #[.slice A xs.length c] 31)).alloc (.cells #[.int .i64 t] 3)).alloc (.cells #[.int .u32 nr, .int .u32 arch, .int .u64 ip, .int .u64 a0, .int .u64 a1, .int .u64 a2, .int .u64 a3, .int .u64 a4, .int .u64 a5] 27)) (.cells #[.int .i64 0, .int .u16 0] 53)
    rw [World.size_alloc, World.size_alloc, World.size_alloc] at h
    rw [← hW1]
    exact h
  have HTH := Lib.hid (fun W (h : Below w.heap.size w W) => c_there xs A c t _ W (hrow.bel h) hl)
  have HCO : Hid (∀ W, Below W1.heap.size W1 W → Calls Tryz.prog 104 #[.func (.func 105) #[] #[.pointer (some ⟨w.heap.size, 0, none⟩), .pointer (some ⟨w.heap.size + 1, 0, none⟩), .pointer (some ⟨w.heap.size + 1 + 1, 0, none⟩)]] W fun e w' => e = .returned (.tuple #[.agg #[.int .i64 va, .int .u16 vb], .int .i64 at_]) ∧ Below W.heap.size W w') := fun W hW => by
    have hs1 := hB1.size
    have hl3 := blk_lt f2.out
    have h := c_CombineSeq 105 #[.pointer (some ⟨w.heap.size, 0, none⟩), .pointer (some ⟨w.heap.size + 1, 0, none⟩), .pointer (some ⟨w.heap.size + 1 + 1, 0, none⟩)] (enters_of Tryz.func105 (by kernel_rfl) rfl) (l.map R) (fun k hk => by
        obtain ⟨i, hi, rfl⟩ := List.mem_map.1 hk
        exact hks i hi) (by rw [List.length_map]; exact hll) W
      (fun W' hW' S hS => by
        have hWW : Below W1.heap.size W1 W' := hW.trans (hW'.mono hW.size)
        have hsW := hW.size
        exact eval1_iter 9 (by omega) xs A c t _ S l R ⟨nr, arch, ip, a0, a1, a2, a3, a4, a5⟩ w.heap.size (w.heap.size + 1) (w.heap.size + 1 + 1) W'.heap.size W' (blk_bel hWW f0.out) (blk_bel hWW f1.out) (blk_bel hWW f2.out)
          (hrow.bel (hB1.trans (hWW.mono hs1))) (fun q hq h => by have := (hS q h).1; have := hq.2; omega) (fun h => by have := (hS _ h).1; omega) (fun q h => (hS q h).2) (Nat.le_refl _) hR hpath hl ht hrun)
    rw [hcomb] at h
    exact h
  have HB1 := Lib.hid hB1
  have mixed : (Tryz.prog).follows Departure.mixedOrders = true := by kernel_rfl
  rw [hth] at HTH
  clear hrow0 hrow hpool hR hth hpath hks hcomb hrun hB1
  unfold Data.agg
  simp only
  rw [← hW1] at HCO HB1 f0 f1 f2 f3
  clear hW1 W1
  go_enter Tryz.func39, Tryz.ntmps39
  go_upto_region 1 with fail
  generalize ((((w.alloc (.cells #[.slice A xs.length c] 31)).alloc (.cells #[.int .i64 t] 3)).alloc (.cells #[.int .u32 nr, .int .u32 arch, .int .u64 ip, .int .u64 a0, .int .u64 a1, .int .u64 a2, .int .u64 a3, .int .u64 a4, .int .u64 a5] 27)).alloc (.cells #[.int .i64 0, .int .u16 0] 53)) = W1 at *
  have c0 := blk_cell f0.out 0
  have c1 := blk_cell f1.out 0
  simp only [List.getElem?_toArray, List.getElem?_cons_zero] at c0 c1
  go_wp2_with fail
  refine (HTH.out _ HB1.out).mono ?_
  rintro e w2 ⟨rfl, hB2⟩
  have HB2 := Lib.hid (HB1.out.trans (hB2.mono HB1.out.size))
  have HF3 := Lib.hid (blk_bel hB2 f3.out)
  have hcs := HCO.out w2 hB2
  have HCS := Lib.hid hcs
  clear hB2 hcs c0 c1
  go_wp2_with fail
  refine HCS.out.mono ?_
  rintro e w4 ⟨rfl, hB4⟩
  have HB4 := Lib.hid (HB2.out.trans (hB4.mono HB2.out.size))
  have HF4 := Lib.hid (blk_bel hB4 HF3.out)
  clear hB4
  have c0 := blk_cell (blk_al HF4.out (.cells #[.int .i64 va, .int .u16 vb] 53)) 0
  have c1 := blk_cell (blk_al HF4.out (.cells #[.int .i64 va, .int .u16 vb] 53)) 1
  have g0 := blk_free (blk_al HF4.out (.cells #[.int .i64 va, .int .u16 vb] 53)) 0
  have g1 := blk_free (blk_al HF4.out (.cells #[.int .i64 va, .int .u16 vb] 53)) 1
  simp only [List.getElem?_toArray, List.getElem?_cons_zero, List.getElem?_cons_succ] at c0 c1
  go_wp2_with fail
  have h9 := blk_set (j := 1) (blk_set (j := 0) (blk_al HF4.out (.cells #[.int .i64 va, .int .u16 vb] 53)) (.int .i64 va)) (.int .u16 vb)
  refine bodyPost_ret (results_ct rfl _ _ (w.heap.size + 1 + 1 + 1) _ #[.int .i64 va, .int .u16 vb] _ _ rfl h9 Tryz.underlying53 rfl (by kernel_rfl)) rfl ?_
  exact ⟨rfl, ((HB4.out.alloc HB4.out.size _).setCell (p := ⟨w.heap.size + 1 + 1 + 1, 0, none⟩) (by simp; omega) _).setCell (p := ⟨w.heap.size + 1 + 1 + 1, 1, none⟩) (by simp; omega) _⟩
end Go.Proofs.YtbojjjiggppnaaaGreat

/-! Plain facts of the law's wakes: its pools, what is given back, what is answered. -/
namespace Go.Proofs.YtbojjjiggppnaaaGreat
open Go.RowKit Go.Shelf
set_option linter.unusedVariables false
set_option linter.unusedSimpArgs false

def pA : List Node := [addNode [] 0 0 0 0 2147418112]
def pB : List Node := pA ++ [addNode pA 1 5 0 0 0]
theorem poolE_nil : poolE [] = 0 := by
  unfold poolE
  rw [if_pos]
  exact ⟨fun j hj => by simp at hj, fun x hx => by cases hx⟩
theorem check6' (jt jf k : Int) : (checkL [⟨6, jt, jf, k⟩]).2 = 0 := by rw [check6]
theorem pA_len : pA.length = 1 := rfl
theorem pB_len : pB.length = 2 := rfl
theorem pA_turn : InTurn pA := fun i hi => by
  rw [pA_len] at hi
  obtain rfl : i = 0 := by omega
  rfl
theorem pB_turn : InTurn pB := fun i hi => by
  rw [pB_len] at hi
  rcases (show i = 0 ∨ i = 1 by omega) with rfl | rfl <;> rfl
theorem poolE_A : poolE pA = 0 := by
  unfold poolE
  rw [if_pos]
  refine ⟨fun j hj hk => ?_, fun x hx => ?_⟩
  · rw [pA_len] at hj
    obtain rfl : j = 0 := by omega
    exact ⟨by omega, (by decide : (1 : Int) ≤ 1), (by decide : (1 : Int) ≤ 24), fun i hi he => by omega⟩
  · simp only [pA, List.mem_singleton] at hx
    subst hx
    refine ⟨by decide, rightN_iff.2 ⟨check6' _ _ _, Or.inl ⟨rfl, rfl⟩⟩⟩
theorem poolE_B : poolE pB = 0 := by
  unfold poolE
  rw [if_pos]
  refine ⟨fun j hj hk => ?_, fun x hx => ?_⟩
  · rw [pB_len] at hj
    rcases (show j = 0 ∨ j = 1 by omega) with rfl | rfl
    · exact ⟨by omega, (by decide : (1 : Int) ≤ 1), (by decide : (1 : Int) ≤ 24), fun i hi he => by omega⟩
    · exact ⟨by omega, (by decide : (1 : Int) ≤ 2), (by decide : (2 : Int) ≤ 24), fun i hi he => by
        obtain rfl : i = 0 := by omega
        exact (by decide : (1 : Int) < 2)⟩
  · simp only [pB, pA, List.mem_append, List.mem_singleton] at hx
    rcases hx with rfl | rfl
    · exact ⟨by decide, rightN_iff.2 ⟨check6' _ _ _, Or.inl ⟨rfl, rfl⟩⟩⟩
    · refine ⟨by decide, rightN_iff.2 ⟨check6' _ _ _, Or.inr ⟨by decide, addNode [] 0 0 0 0 2147418112, rfl, by decide, by decide, by decide, ?_⟩⟩⟩
      decide
theorem give_B : giveF pB 2 = ([], [2, 1], 0) := by
  unfold giveF
  rw [if_pos poolE_B]
  have hE : giveE pB 2 = 0 := by
    unfold giveE
    rw [show findN pB 2 = some (addNode pA 1 5 0 0 0) from rfl]
    simp only []
    rw [if_neg (by decide)]
  rw [if_pos hE]
  have h2 : giveG [] 0 = ([], []) := giveG_none rfl
  have h1 : giveG pA 1 = ([], [1]) := by
    have h := giveG_gone (xs := pA) (t := 1) pA_turn.rising (i := 0) (by decide) rfl rfl
    rw [h, show pA.eraseIdx 0 = [] from rfl, show (pA[0]'(by decide)).parent = 0 from rfl, h2]
  have h0 := giveG_gone (xs := pB) (t := 2) pB_turn.rising (i := 1) (by decide) rfl rfl
  rw [h0, show pB.eraseIdx 1 = pA from rfl, show (pB[1]'(by decide)).parent = 1 from rfl, h1]
theorem run6 (jt jf k : Int) (hk : 0 ≤ k ∧ k < 4294967296) (hj : Kd.rng .u8 jt) (hf : Kd.rng .u8 jf) (d : Data) : Runs [⟨6, jt, jf, k⟩] (encB d) 1 0 0 ∧ runP [⟨6, jt, jf, k⟩] d = k := by
  have hok : okI ⟨6, jt, jf, k⟩ := ⟨⟨(by decide : (0 : Int) ≤ 6 ∧ (6 : Int) < 65536), hj, hf, hk⟩, by simp⟩
  refine ⟨⟨by omega, by omega, (by decide : 0 < 1), ?_, ?_⟩, rfl⟩
  · exact hok
  · exact Or.inl rfl
theorem path_A : Path pA 1 [0] := .step (by decide) (by decide) rfl .done
theorem path_B1 : Path pB 1 [0] := .step (by decide) (by decide) rfl .done
theorem path_B2 : Path pB 2 [1, 0] := .step (by decide) (by decide) rfl (.step (by decide) (by decide) rfl .done)
def runW (i : Nat) : Int := if i = 0 then 2147418112 else 0
theorem comb_B1 : combV ([0].map runW) = .tuple #[.agg #[.int .i64 7, .int .u16 0], .int .i64 0] := by rfl
theorem comb_B2 : combV ([1, 0].map runW) = .tuple #[.agg #[.int .i64 1, .int .u16 0], .int .i64 0] := by rfl
end Go.Proofs.YtbojjjiggppnaaaGreat

/-! The walks of the law's allow, kill and wakes. -/
namespace Go.Proofs.YtbojjjiggppnaaaGreat
open Go.RowKit Go.Shelf
set_option linter.unusedVariables false
set_option linter.unusedSimpArgs false

theorem lit_insn {w : World} {x : Insn} (hx : x.wf) : kInsn.Row (w.alloc (.cells #[.int .u16 x.code, .int .u8 x.jt, .int .u8 x.jf, .int .u32 x.k] 141)) (fun q => q = w.heap.size) (some ⟨w.heap.size, 0, none⟩) [x] :=
  (own_row (Kd.Own.lit (d := kInsn) (w := w) (e := 141) (base := 0) (ok := fun q => q = w.heap.size) (n := 1) (xs := [x]) (cells := x.cells) rfl (Kd.Reps.single ⟨rfl, hx⟩) (Nat.zero_le _) (by unfold maxLen; simp) rfl)).2.2
set_option maxRecDepth 100000 in
theorem c_allow (w : World) : Calls Tryz.prog 88 #[] w fun e w' => ∃ b, e = .returned (.slice (some ⟨b, 0, none⟩) 1 1) ∧ kInsn.Row w' (fun q => q = b) (some ⟨b, 0, none⟩) [⟨6, 0, 0, 2147418112⟩] ∧ Below w.heap.size w w' := by
  go_enter Tryz.func88, Tryz.ntmps88
  go_wp2_with fail
  go_ret
  exact ⟨_, rfl, lit_insn (x := ⟨6, 0, 0, 2147418112⟩) ⟨⟨by decide, by decide⟩, ⟨by decide, by decide⟩, ⟨by decide, by decide⟩, ⟨by decide, by decide⟩⟩, below_al (Below.refl _ _) _⟩
set_option maxRecDepth 100000 in
theorem c_kill (w : World) : Calls Tryz.prog 89 #[] w fun e w' => ∃ b, e = .returned (.slice (some ⟨b, 0, none⟩) 1 1) ∧ kInsn.Row w' (fun q => q = b) (some ⟨b, 0, none⟩) [⟨6, 0, 0, 0⟩] ∧ Below w.heap.size w w' := by
  go_enter Tryz.func89, Tryz.ntmps89
  go_wp2_with fail
  go_ret
  exact ⟨_, rfl, lit_insn (x := ⟨6, 0, 0, 0⟩) ⟨⟨by decide, by decide⟩, ⟨by decide, by decide⟩, ⟨by decide, by decide⟩, ⟨by decide, by decide⟩⟩, below_al (Below.refl _ _) _⟩
theorem zData_wf : zData.wf := by
  unfold Data.wf zData
  simp only [Kd.rng]
  decide
theorem evalrun (xs : List Node) (hx : ∀ i (hi : i < xs.length), xs[i].program = [⟨6, 0, 0, runW i⟩]) (i : Nat) (hi : i < xs.length) (Aq : Option Addr) (cq : Nat) (okq : Nat → Prop) (W : World) (h : kInsn.Row W okq Aq xs[i].program) :
    Calls Tryz.prog 107 #[.slice Aq xs[i].program.length cq, zData.agg] W fun e w' => e = .returned (.tuple #[.int .u32 (runW i), .int .i64 0]) ∧ Below W.heap.size W w' := by
  rw [hx i hi] at h ⊢
  have hw : 0 ≤ runW i ∧ runW i < 4294967296 := by unfold runW; split <;> omega
  obtain ⟨h1, h2⟩ := run6 0 0 (runW i) hw ⟨by decide, by decide⟩ ⟨by decide, by decide⟩ zData
  have h3 := c_run [⟨6, 0, 0, runW i⟩] zData zData_wf Aq cq okq W h (check6' _ _ _) h1 (by simp)
  rw [h2] at h3
  exact h3
theorem pA_prog : ∀ i (hi : i < pA.length), pA[i].program = [⟨6, 0, 0, runW i⟩] := fun i hi => by
  rw [pA_len] at hi
  obtain rfl : i = 0 := by omega
  rfl
theorem pB_prog : ∀ i (hi : i < pB.length), pB[i].program = [⟨6, 0, 0, runW i⟩] := fun i hi => by
  rw [pB_len] at hi
  rcases (show i = 0 ∨ i = 1 by omega) with rfl | rfl <;> rfl
theorem runW_in (i : Nat) : 0 ≤ runW i ∧ runW i < 4294967296 := by unfold runW; split <;> omega
theorem w_add1 (w : World) (b : Nat) (okP : Nat → Prop) (h : kInsn.Row w okP (some ⟨b, 0, none⟩) [⟨6, 0, 0, 2147418112⟩]) : Calls Tryz.prog 31 #[.agg #[.slice none 0 0], .int .i64 0, .slice (some ⟨b, 0, none⟩) 1 1] w fun e w' => ∃ Av cv, e = .returned (.tuple #[.agg #[.slice Av 1 cv], .int .i64 1, .int .i64 0]) ∧ kNode.Row w' (fun q => w.heap.size ≤ q) Av pA ∧ Below w.heap.size w w' := by
  refine (c_Add6 [] 0 1 none (some ⟨b, 0, none⟩) 0 0 0 0 2147418112 (fun _ => False) okP w (Kd.Row.nil _ _ _ _) h (by simp) ⟨by decide, by decide⟩ (by decide) (fun i hi => absurd hi (by simp)) (Or.inl ⟨rfl, rfl⟩) (by decide) poolE_nil).mono ?_
  rintro e w' ⟨v, rfl, hK, hB⟩
  obtain ⟨Av, cv, hv, h1, h2, h3⟩ := hK
  simp only [List.cons.injEq, and_true] at hv
  subst hv
  exact ⟨Av, cv, rfl, Kd.Row.mono (fun q hq => by simpa using hq) h3, hB⟩
theorem w_add2 (w : World) (A : Option Addr) (c b : Nat) (okA okP : Nat → Prop) (hA : kNode.Row w okA A pA) (h : kInsn.Row w okP (some ⟨b, 0, none⟩) [⟨6, 0, 0, 0⟩]) : Calls Tryz.prog 31 #[.agg #[.slice A 1 c], .int .i64 1, .slice (some ⟨b, 0, none⟩) 1 1] w fun e w' => ∃ Av cv, e = .returned (.tuple #[.agg #[.slice Av 2 cv], .int .i64 2, .int .i64 0]) ∧ kNode.Row w' (fun q => okA q ∨ w.heap.size ≤ q) Av pB ∧ Below w.heap.size w w' := by
  refine (c_Add6 pA c 1 A (some ⟨b, 0, none⟩) 1 5 0 0 0 okA okP w hA h (by decide) ⟨by decide, by decide⟩ (by decide) pA_turn (Or.inr ⟨by decide, _, rfl, rfl⟩) (by decide) poolE_A).mono ?_
  rintro e w' ⟨v, rfl, hK, hB⟩
  obtain ⟨Av, cv, hv, h1, h2, h3⟩ := hK
  simp only [List.cons.injEq, and_true] at hv
  subst hv
  exact ⟨Av, cv, rfl, h3, hB⟩
theorem w_eval2 (w : World) (A : Option Addr) (c : Nat) (ok : Nat → Prop) (h : kNode.Row w ok A pB) : Calls Tryz.prog 39 #[.agg #[.slice A 2 c], .int .i64 2, zData.agg] w fun e w' => e = .returned (.tuple #[.agg #[.int .i64 1, .int .u16 0], .int .i64 0]) ∧ Below w.heap.size w w' :=
  c_Eval pB A c 2 ok zData [1, 0] runW 1 0 0 w h poolE_B (by decide) ⟨by decide, by decide⟩ path_B2 (fun i _ => runW_in i) (by decide) comb_B2 (evalrun pB pB_prog)
theorem w_eval1 (w : World) (A : Option Addr) (c : Nat) (ok : Nat → Prop) (h : kNode.Row w ok A pB) : Calls Tryz.prog 39 #[.agg #[.slice A 2 c], .int .i64 1, zData.agg] w fun e w' => e = .returned (.tuple #[.agg #[.int .i64 7, .int .u16 0], .int .i64 0]) ∧ Below w.heap.size w w' :=
  c_Eval pB A c 1 ok zData [0] runW 7 0 0 w h poolE_B (by decide) ⟨by decide, by decide⟩ path_B1 (fun i _ => runW_in i) (by decide) comb_B1 (evalrun pB pB_prog)
theorem w_give (w : World) (A : Option Addr) (c : Nat) (ok : Nat → Prop) (h : kNode.Row w ok A pB) : Calls Tryz.prog 36 #[.agg #[.slice A 2 c], .int .i64 2] w fun e w' => ∃ Av cv Ag cg, e = .returned (.tuple #[.agg #[.slice Av 0 cv], .slice Ag 2 cg, .int .i64 0]) ∧ Below w.heap.size w w' := by
  refine (c_Give pB c A 2 ⟨by decide, by decide⟩ ok w h (by decide)).mono ?_
  rintro e w' ⟨v, vg, rfl, hK, hG, hB⟩
  rw [give_B] at hK hG ⊢
  obtain ⟨Av, cv, hv, -, -, -⟩ := hK
  obtain ⟨Ag, cg, hg, -, -, -⟩ := hG
  simp only [List.cons.injEq, and_true] at hv hg
  subst hv hg
  exact ⟨Av, cv, Ag, cg, rfl, hB⟩
end Go.Proofs.YtbojjjiggppnaaaGreat

/-! The walk of the law's wakes. -/
namespace Go.Proofs.YtbojjjiggppnaaaGreat
open Go.RowKit Go.Shelf
set_option linter.unusedVariables false
set_option linter.unusedSimpArgs false

set_option maxRecDepth 100000 in
set_option maxHeartbeats 4000000 in
theorem c_wakes (w : World) : Calls Tryz.prog 28 #[] w fun e w' => e = .returned (.bool true) ∧ Below w.heap.size w w' := by
  have HAL := Lib.hid (fun W => c_allow W)
  have mixed : (Tryz.prog).follows Departure.mixedOrders = true := by kernel_rfl
  go_enter Tryz.func28, Tryz.ntmps28
  go_wp2_with fail
  refine (HAL.out _).mono ?_
  rintro e w1 ⟨b, rfl, hr1, hB1⟩
  have HB1 := Lib.hid hB1
  have HR1 := Lib.hid (w_add1 w1 b _ hr1)
  clear hr1 hB1
  go_wp2_with fail
  refine HR1.out.mono ?_
  rintro e w2 ⟨Av, cv, rfl, hr2, hB2⟩
  have HB2 := Lib.hid (below_tr HB1.out hB2)
  have HR2 := Lib.hid hr2
  clear hr2 hB2 HR1 HB1
  obtain ⟨m, hm⟩ : ∃ m, w2.heap.size = m := ⟨_, rfl⟩
  have F1 : Hid ((w2.alloc (.cells #[.slice Av 1 cv] 31)).heap[m]? = some (.cells #[.slice Av 1 cv] 31)) := by rw [← hm]; exact blk_new _ _
  have HB3 := Lib.hid (HB2.out.alloc HB2.out.size (.cells #[.slice Av 1 cv] 31))
  have HR3 := Lib.hid (HR2.out.bound.bel (below_al (Below.refl _ _) (.cells #[.slice Av 1 cv] 31)))
  have HM : Hid (w.heap.size ≤ m) := by rw [← hm]; exact HB2.out.size
  rw [hm] at HR3
  go_upto_region 2 with fail
  clear hm
  generalize (w2.alloc (.cells #[.slice Av 1 cv] 31)) = W3 at *
  have c1 := blk_cell F1.out 0
  simp only [List.getElem?_toArray, List.getElem?_cons_zero] at c1
  go_cut [4, 5] from 20 (fun s4 s5 wx => s4 = .int .i64 2 ∧ s5 = .int .i64 0 ∧ ∃ Au cu ok, Hid (wx.heap[m]? = some (.cells #[.slice Au 2 cu] 31)) ∧ Hid (kNode.Row wx ok Au pB) ∧ Hid (∀ q, ok q → q ≠ m) ∧ Hid (Below w.heap.size w wx))
  case first =>
    have HADD : Hid (∀ (W4 : World) (bk : Nat) (okP : Nat → Prop), Below W3.heap.size W3 W4 → kInsn.Row W4 okP (some ⟨bk, 0, none⟩) [⟨6, 0, 0, 0⟩] → _) := fun W4 bk okP h h' => w_add2 W4 Av cv bk _ okP (HR3.out.bel h) h'
    go_region_law_o (go_simp; first | (go_at_call 89; refine (c_kill _).mono ?_; rintro e wk ⟨bk, rfl, hrk, hBk⟩; have hkk : Below W3.heap.size W3 wk := undrew hBk; have ck : wk.cell? ⟨m, 0, none⟩ = some (.slice Av 1 cv) := cell_bel hkk c1; have Fk := Lib.hid (blk_bel hkk F1.out); have HADk := Lib.hid (HADD.out wk bk _ hkk hrk); have Hkk := Lib.hid hkk; clear hrk hBk hkk) | (go_at_call 31; refine HADk.out.mono ?_; rintro e w5 ⟨Au, cu, rfl, hr5, hB5⟩; have F5 := Lib.hid (blk_bel hB5 Fk.out); have c5 : w5.cell? ⟨m, 0, none⟩ = some (.slice Av 1 cv) := blk_cell F5.out 0; have f5 : w5.frozen? ⟨m, 0, none⟩ = false := blk_free F5.out 0; have HR5 := Lib.hid hr5; have HB5 := Lib.hid (HB3.out.trans ((Hkk.out.trans (hB5.mono Hkk.out.size)).mono HB3.out.size)); clear hr5 hB5))
    all_goals
      (try go_wp2_with fail)
      go_meet
      have hne : ∀ q, ((w1.heap.size ≤ q ∧ q < m) ∨ wk.heap.size ≤ q) → q ≠ m := fun q h => by have := blk_lt Fk.out; omega
      exact ⟨rfl, rfl, Au, cu, _, blk_set (j := 0) F5.out _, Kd.Row.move HR5.out (fun q hq _ => Below.heap_setCell _ ⟨m, 0, none⟩ _ q (hne q hq)), hne, HB5.out.setCell (p := ⟨m, 0, none⟩) HM.out _⟩
  case rest =>
    obtain ⟨rfl, rfl, Au, cu, ok, hm4, hr4, hne, hb4⟩ := hcut
    clear HR3 F1 HB3 c1 HR2 HB2
    have hE2 := Lib.hid (fun W (h : Below wc.heap.size wc W) => w_eval2 W Au cu ok (hr4.out.bel h))
    have hE1 := Lib.hid (fun W (h : Below wc.heap.size wc W) => w_eval1 W Au cu ok (hr4.out.bel h))
    have hG := Lib.hid (fun W (h : Below wc.heap.size wc W) => w_give W Au cu ok (hr4.out.bel h))
    have hC : Hid (∀ W, Below wc.heap.size wc W → W.cell? ⟨m, 0, none⟩ = some (.slice Au 2 cu)) := fun W h => blk_cell (blk_bel h hm4.out) 0
    have c1 := hC.out _ (Below.refl _ _)
    unfold zData Data.agg at hE2 hE1
    simp only at hE2 hE1
    clear hr4 hne
    go_upto_region 3 with fail
    go_wp2_with fail
    refine (hE2.out _ (Below.refl _ _)).mono ?_
    rintro e w5 ⟨rfl, hB5⟩
    obtain ⟨m6, hm6⟩ : ∃ m6, w5.heap.size = m6 := ⟨_, rfl⟩
    have F6 : Hid ((w5.alloc (.cells #[.int .i64 1, .int .u16 0] 53)).heap[m6]? = some (.cells #[.int .i64 1, .int .u16 0] 53)) := by rw [← hm6]; exact blk_new _ _
    have HB6 := Lib.hid (below_al hB5 (.cells #[.int .i64 1, .int .u16 0] 53))
    clear c1 hB5
    have c1 := hC.out _ HB6.out
    go_upto_region 4 with fail
    clear hm6
    generalize (w5.alloc (.cells #[.int .i64 1, .int .u16 0] 53)) = W6 at *
    go_wp2_with fail
    refine (hE1.out _ HB6.out).mono ?_
    rintro e w7 ⟨rfl, hB7⟩
    have F67 := Lib.hid (blk_bel hB7 F6.out)
    obtain ⟨m8, hm8⟩ : ∃ m8, w7.heap.size = m8 := ⟨_, rfl⟩
    have F8 : Hid ((w7.alloc (.cells #[.int .i64 7, .int .u16 0] 53)).heap[m8]? = some (.cells #[.int .i64 7, .int .u16 0] 53)) := by rw [← hm8]; exact blk_new _ _
    have F68 := Lib.hid (blk_al F67.out (.cells #[.int .i64 7, .int .u16 0] 53))
    have HB8 := Lib.hid (below_al (below_tr HB6.out hB7) (.cells #[.int .i64 7, .int .u16 0] 53))
    clear c1 hB7
    have c1 := hC.out _ HB8.out
    go_upto_region 5 with fail
    clear hm8
    generalize (w7.alloc (.cells #[.int .i64 7, .int .u16 0] 53)) = W8 at *
    go_wp2_with fail
    refine (hG.out _ HB8.out).mono ?_
    rintro e w9 ⟨Ag, cg, An, cn, rfl, hB9⟩
    have F69 := Lib.hid (blk_bel hB9 F68.out)
    have F89 := Lib.hid (blk_bel hB9 F8.out)
    obtain ⟨m9, hm9⟩ : ∃ m9, w9.heap.size = m9 := ⟨_, rfl⟩
    have F9 : Hid ((w9.alloc (.cells #[.slice Ag 0 cg] 31)).heap[m9]? = some (.cells #[.slice Ag 0 cg] 31)) := by rw [← hm9]; exact blk_new _ _
    have F6a := blk_al F69.out (.cells #[.slice Ag 0 cg] 31)
    have F8a := blk_al F89.out (.cells #[.slice Ag 0 cg] 31)
    have HB9 := Lib.hid (below_al (below_tr HB8.out hB9) (.cells #[.slice Ag 0 cg] 31))
    clear c1 hB9
    go_upto_region 6 with fail
    clear hm9
    generalize (w9.alloc (.cells #[.slice Ag 0 cg] 31)) = W9 at *
    have d6 := blk_cell F6a 0
    have d8 := blk_cell F8a 0
    have d9 := blk_cell F9.out 0
    simp only [List.getElem?_toArray, List.getElem?_cons_zero] at d6 d8 d9
    clear F6a F8a
    go_wp2_with fail
    go_ret
    exact ⟨rfl, hb4.out.trans (HB9.out.mono hb4.out.size)⟩
end Go.Proofs.YtbojjjiggppnaaaGreat

/-! The walk of ChainCounts. -/
namespace Go.Proofs.YtbojjjiggppnaaaGreat
open Go.RowKit Go.Shelf
set_option linter.unusedVariables false
set_option linter.unusedSimpArgs false

theorem over_in {xs : List Node} (h : overL xs = false) : xs.length ≤ 60 ∧ (∀ x ∈ xs, x.program.length ≤ 100) ∧ ∀ x ∈ xs, x.count ≤ 1099511627776 := by
  unfold overL at h
  simp only [Bool.or_eq_false_iff, decide_eq_false_iff_not, List.any_eq_false] at h
  obtain ⟨h1, h2⟩ := h
  refine ⟨by omega, fun x hx => ?_, fun x hx => ?_⟩
  all_goals
    have := h2 x hx
    unfold nodeOver at this
    simp at this
    omega
theorem pool_form {w : World} {ok : Nat → Prop} {xs : List Node} {v : Value} (h : kPool.K w ok ⟨xs⟩ [v]) : ∃ A c, v = .slice A xs.length c ∧ kNode.Row w ok A xs := by
  obtain ⟨A, c, hv, h1, h2, h3⟩ := h
  simp only [List.cons.injEq, and_true] at hv
  exact ⟨A, c, hv, h3⟩
set_option maxRecDepth 100000 in
set_option maxHeartbeats 4000000 in
theorem c_counts (xs : List Node) (A : Option Addr) (c : Nat) (t : Int) (ht : Kd.rng .i64 t) (ok : Nat → Prop) (w : World) (hC : kNode.Row w ok A xs) (hcap : xs.length ≤ c ∧ c ≤ maxLen) :
    Calls Tryz.prog 6 #[.agg #[.slice A xs.length c], .int .i64 t] w fun e w' => e = .returned (.bool true) ∧ Below w.heap.size w w' := by
  obtain ⟨N, hN⟩ : ∃ N, w.heap.size = N := ⟨_, rfl⟩
  have F0 : Hid ((w.alloc (.cells #[.slice A xs.length c] 31)).heap[N]? = some (.cells #[.slice A xs.length c] 31)) := by rw [← hN]; exact blk_new _ _
  have HB0 := Lib.hid (below_al (Below.refl w.heap.size w) (.cells #[.slice A xs.length c] 31))
  have HR0 := Lib.hid (hC.bel (below_al (Below.refl w.heap.size w) (.cells #[.slice A xs.length c] 31)))
  have HOV := Lib.hid (fun W (h : Below w.heap.size w W) => c_overL xs c A ok W (hC.bel h))
  have HWA := Lib.hid c_wakes
  have HW0 := Lib.hid (fun W (h : Below w.heap.size w W) => hC.bel h)
  clear hC HR0
  go_enter Tryz.func6, Tryz.ntmps6
  go_upto_region 1 with fail
  clear hN
  generalize (w.alloc (.cells #[.slice A xs.length c] 31)) = W0 at *
  go_wp2_with fail
  refine (HWA.out _).mono ?_
  rintro e w1 ⟨rfl, hB1⟩
  have HB1 := Lib.hid (HB0.out.trans (hB1.mono HB0.out.size))
  have F1 := Lib.hid (blk_bel hB1 F0.out)
  clear hB1 HB0 F0
  have c0 := blk_cell F1.out 0
  simp only [List.getElem?_toArray, List.getElem?_cons_zero] at c0
  go_wp2_with fail
  refine (HOV.out _ HB1.out).mono ?_
  rintro e w2 ⟨rfl, hB2⟩
  have HB2 := Lib.hid (HB1.out.trans (hB2.mono HB1.out.size))
  have F2 := Lib.hid (blk_bel hB2 F1.out)
  clear hB2 HB1 F1 c0
  cases hov : overL xs with
  | true =>
    clear hov
    go_wp2_with fail
    go_ret
    exact ⟨rfl, HB2.out⟩
  | false =>
    obtain ⟨hl60, hpr, hcnt⟩ := over_in hov
    have HPR := Lib.hid hpr
    have HCNT := Lib.hid hcnt
    clear hov hpr hcnt HOV
    have c0 := blk_cell F2.out 0
    simp only [List.getElem?_toArray, List.getElem?_cons_zero] at c0
    go_wp2_with fail
    refine (c_copied xs c A ok w2 (HW0.out _ HB2.out) hl60 HPR.out).mono ?_
    rintro e w3 ⟨v, rfl, hK3, hB3⟩
    obtain ⟨Ax, cx, rfl, hr3⟩ := pool_form hK3
    have HB3 := Lib.hid (HB2.out.trans (hB3.mono HB2.out.size))
    have F3 := Lib.hid (blk_bel hB3 F2.out)
    have HRX := Lib.hid hr3
    clear hK3 hr3 hB3 c0 F2
    obtain ⟨m1, hm1⟩ : ∃ m, w3.heap.size = m := ⟨_, rfl⟩
    have G1 : Hid ((w3.alloc (.cells #[.slice Ax xs.length cx] 31)).heap[m1]? = some (.cells #[.slice Ax xs.length cx] 31)) := by rw [← hm1]; exact blk_new _ _
    have B1 := Lib.hid (HB3.out.alloc HB3.out.size (.cells #[.slice Ax xs.length cx] 31))
    have X10 := Lib.hid (blk_al F3.out (.cells #[.slice Ax xs.length cx] 31))
    have R10 := Lib.hid (HRX.out.bel (below_al (Below.refl _ _) (.cells #[.slice Ax xs.length cx] 31)))
    go_upto_region 6 with fail
    clear hm1
    generalize (w3.alloc (.cells #[.slice Ax xs.length cx] 31)) = W3 at *
    clear F3
    clear HRX
    have c0 := blk_cell G1.out 0
    simp only [List.getElem?_toArray, List.getElem?_cons_zero] at c0
    go_wp2_with fail
    refine (c_Take xs cx Ax t ht _ W3 R10.out (by omega) HCNT.out).mono ?_
    rintro e w4 ⟨v4, rfl, hK4, hB4⟩
    obtain ⟨A4, c4, rfl, hr4⟩ := pool_form hK4
    have HB4 := Lib.hid (B1.out.trans (hB4.mono B1.out.size))
    have Y40 := Lib.hid (blk_bel hB4 X10.out)
    clear X10
    have Y41 := Lib.hid (blk_bel hB4 G1.out)
    clear G1
    have S40 := Lib.hid (R10.out.bel hB4)
    clear R10
    have HR4 := Lib.hid hr4
    clear hK4 hr4 hB4 c0
    obtain ⟨m2, hm2⟩ : ∃ m, w4.heap.size = m := ⟨_, rfl⟩
    have G2 : Hid ((w4.alloc (.cells #[.slice A4 (takeF xs t).1.length c4] 31)).heap[m2]? = some (.cells #[.slice A4 (takeF xs t).1.length c4] 31)) := by rw [← hm2]; exact blk_new _ _
    have B2 := Lib.hid (HB4.out.alloc HB4.out.size (.cells #[.slice A4 (takeF xs t).1.length c4] 31))
    have X20 := Lib.hid (blk_al Y40.out (.cells #[.slice A4 (takeF xs t).1.length c4] 31))
    have X21 := Lib.hid (blk_al Y41.out (.cells #[.slice A4 (takeF xs t).1.length c4] 31))
    have R20 := Lib.hid (S40.out.bel (below_al (Below.refl _ _) (.cells #[.slice A4 (takeF xs t).1.length c4] 31)))
    have R21 := Lib.hid (HR4.out.bel (below_al (Below.refl _ _) (.cells #[.slice A4 (takeF xs t).1.length c4] 31)))
    go_upto_region 7 with fail
    clear hm2
    generalize (w4.alloc (.cells #[.slice A4 (takeF xs t).1.length c4] 31)) = W4 at *
    clear Y40
    clear Y41
    clear S40
    clear HR4
    have c0 := blk_cell X20.out 0
    simp only [List.getElem?_toArray, List.getElem?_cons_zero] at c0
    go_wp2_with fail
    refine (c_refTake xs c A t ht ok W4 (HW0.out _ B2.out) (by omega) HCNT.out).mono ?_
    rintro e w5 ⟨v5, rfl, hK5, hB5⟩
    obtain ⟨A5, c5, rfl, hr5⟩ := pool_form hK5
    have HB5 := Lib.hid (B2.out.trans (hB5.mono B2.out.size))
    have Y50 := Lib.hid (blk_bel hB5 X20.out)
    clear X20
    have Y51 := Lib.hid (blk_bel hB5 X21.out)
    clear X21
    have Y52 := Lib.hid (blk_bel hB5 G2.out)
    clear G2
    have S50 := Lib.hid (R20.out.bel hB5)
    clear R20
    have S51 := Lib.hid (R21.out.bel hB5)
    clear R21
    have HR5 := Lib.hid hr5
    clear hK5 hr5 hB5 c0
    obtain ⟨m3, hm3⟩ : ∃ m, w5.heap.size = m := ⟨_, rfl⟩
    have G3 : Hid ((w5.alloc (.cells #[.slice A5 (takeF xs t).1.length c5] 31)).heap[m3]? = some (.cells #[.slice A5 (takeF xs t).1.length c5] 31)) := by rw [← hm3]; exact blk_new _ _
    have B3 := Lib.hid (HB5.out.alloc HB5.out.size (.cells #[.slice A5 (takeF xs t).1.length c5] 31))
    have X30 := Lib.hid (blk_al Y50.out (.cells #[.slice A5 (takeF xs t).1.length c5] 31))
    have X31 := Lib.hid (blk_al Y51.out (.cells #[.slice A5 (takeF xs t).1.length c5] 31))
    have X32 := Lib.hid (blk_al Y52.out (.cells #[.slice A5 (takeF xs t).1.length c5] 31))
    have R30 := Lib.hid (S50.out.bel (below_al (Below.refl _ _) (.cells #[.slice A5 (takeF xs t).1.length c5] 31)))
    have R31 := Lib.hid (S51.out.bel (below_al (Below.refl _ _) (.cells #[.slice A5 (takeF xs t).1.length c5] 31)))
    have R32 := Lib.hid (HR5.out.bel (below_al (Below.refl _ _) (.cells #[.slice A5 (takeF xs t).1.length c5] 31)))
    go_upto_region 8 with fail
    clear hm3
    generalize (w5.alloc (.cells #[.slice A5 (takeF xs t).1.length c5] 31)) = W5 at *
    clear Y50
    clear Y51
    clear Y52
    clear S50
    clear S51
    clear HR5
    have c0 := blk_cell X31.out 0
    simp only [List.getElem?_toArray, List.getElem?_cons_zero] at c0
    go_wp2_with fail
    refine (c_Give xs cx Ax t ht _ W5 R30.out (by omega)).mono ?_
    rintro e w6 ⟨v6, vg6, rfl, hK6, hG6, hB6⟩
    obtain ⟨A6, c6, rfl, hr6⟩ := pool_form hK6
    obtain ⟨Ag, cg, hvg, -, -, hg6⟩ := hG6
    simp only [List.cons.injEq, and_true] at hvg
    subst hvg
    have HB6 := Lib.hid (B3.out.trans (hB6.mono B3.out.size))
    have Y60 := Lib.hid (blk_bel hB6 X30.out)
    clear X30
    have Y61 := Lib.hid (blk_bel hB6 X31.out)
    clear X31
    have Y62 := Lib.hid (blk_bel hB6 X32.out)
    clear X32
    have Y63 := Lib.hid (blk_bel hB6 G3.out)
    clear G3
    have S60 := Lib.hid (R30.out.bel hB6)
    clear R30
    have S61 := Lib.hid (R31.out.bel hB6)
    clear R31
    have S62 := Lib.hid (R32.out.bel hB6)
    clear R32
    have HR6 := Lib.hid hr6
    have HG6 := Lib.hid hg6
    clear hK6 hr6 hB6 c0 hg6
    obtain ⟨m4, hm4⟩ : ∃ m, w6.heap.size = m := ⟨_, rfl⟩
    have G4 : Hid ((w6.alloc (.cells #[.slice A6 (giveF xs t).1.length c6] 31)).heap[m4]? = some (.cells #[.slice A6 (giveF xs t).1.length c6] 31)) := by rw [← hm4]; exact blk_new _ _
    have B4 := Lib.hid (HB6.out.alloc HB6.out.size (.cells #[.slice A6 (giveF xs t).1.length c6] 31))
    have X40 := Lib.hid (blk_al Y60.out (.cells #[.slice A6 (giveF xs t).1.length c6] 31))
    have X41 := Lib.hid (blk_al Y61.out (.cells #[.slice A6 (giveF xs t).1.length c6] 31))
    have X42 := Lib.hid (blk_al Y62.out (.cells #[.slice A6 (giveF xs t).1.length c6] 31))
    have X43 := Lib.hid (blk_al Y63.out (.cells #[.slice A6 (giveF xs t).1.length c6] 31))
    have R40 := Lib.hid (S60.out.bel (below_al (Below.refl _ _) (.cells #[.slice A6 (giveF xs t).1.length c6] 31)))
    have R41 := Lib.hid (S61.out.bel (below_al (Below.refl _ _) (.cells #[.slice A6 (giveF xs t).1.length c6] 31)))
    have R42 := Lib.hid (S62.out.bel (below_al (Below.refl _ _) (.cells #[.slice A6 (giveF xs t).1.length c6] 31)))
    have R43 := Lib.hid (HR6.out.bel (below_al (Below.refl _ _) (.cells #[.slice A6 (giveF xs t).1.length c6] 31)))
    have R44 := Lib.hid (HG6.out.bel (below_al (Below.refl _ _) (.cells #[.slice A6 (giveF xs t).1.length c6] 31)))
    go_upto_region 9 with fail
    clear hm4
    generalize (w6.alloc (.cells #[.slice A6 (giveF xs t).1.length c6] 31)) = W6 at *
    clear Y60
    clear Y61
    clear Y62
    clear Y63
    clear S60
    clear S61
    clear S62
    clear HR6
    clear HG6
    have c0 := blk_cell X40.out 0
    simp only [List.getElem?_toArray, List.getElem?_cons_zero] at c0
    go_wp2_with fail
    refine (c_refGive xs c A t ht ok W6 (HW0.out _ B4.out) hcap (by omega)).mono ?_
    rintro e w7 ⟨v7, vg7, rfl, hK7, hG7, hB7⟩
    obtain ⟨A7, c7, rfl, hr7⟩ := pool_form hK7
    obtain ⟨Ah, ch, hvh, -, -, hg7⟩ := hG7
    simp only [List.cons.injEq, and_true] at hvh
    subst hvh
    have HB7 := Lib.hid (B4.out.trans (hB7.mono B4.out.size))
    have Y70 := Lib.hid (blk_bel hB7 X40.out)
    clear X40
    have Y71 := Lib.hid (blk_bel hB7 X41.out)
    clear X41
    have Y72 := Lib.hid (blk_bel hB7 X42.out)
    clear X42
    have Y73 := Lib.hid (blk_bel hB7 X43.out)
    clear X43
    have Y74 := Lib.hid (blk_bel hB7 G4.out)
    clear G4
    have S70 := Lib.hid (R40.out.bel hB7)
    clear R40
    have S71 := Lib.hid (R41.out.bel hB7)
    clear R41
    have S72 := Lib.hid (R42.out.bel hB7)
    clear R42
    have S73 := Lib.hid (R43.out.bel hB7)
    clear R43
    have S74 := Lib.hid (R44.out.bel hB7)
    clear R44
    have HR7 := Lib.hid hr7
    have HG7 := Lib.hid hg7
    clear hK7 hr7 hB7 c0 hg7
    obtain ⟨m5, hm5⟩ : ∃ m, w7.heap.size = m := ⟨_, rfl⟩
    have G5 : Hid ((w7.alloc (.cells #[.slice A7 (giveF xs t).1.length c7] 31)).heap[m5]? = some (.cells #[.slice A7 (giveF xs t).1.length c7] 31)) := by rw [← hm5]; exact blk_new _ _
    have B5 := Lib.hid (HB7.out.alloc HB7.out.size (.cells #[.slice A7 (giveF xs t).1.length c7] 31))
    have X50 := Lib.hid (blk_al Y70.out (.cells #[.slice A7 (giveF xs t).1.length c7] 31))
    have X51 := Lib.hid (blk_al Y71.out (.cells #[.slice A7 (giveF xs t).1.length c7] 31))
    have X52 := Lib.hid (blk_al Y72.out (.cells #[.slice A7 (giveF xs t).1.length c7] 31))
    have X53 := Lib.hid (blk_al Y73.out (.cells #[.slice A7 (giveF xs t).1.length c7] 31))
    have X54 := Lib.hid (blk_al Y74.out (.cells #[.slice A7 (giveF xs t).1.length c7] 31))
    have R50 := Lib.hid (S70.out.bel (below_al (Below.refl _ _) (.cells #[.slice A7 (giveF xs t).1.length c7] 31)))
    have R51 := Lib.hid (S71.out.bel (below_al (Below.refl _ _) (.cells #[.slice A7 (giveF xs t).1.length c7] 31)))
    have R52 := Lib.hid (S72.out.bel (below_al (Below.refl _ _) (.cells #[.slice A7 (giveF xs t).1.length c7] 31)))
    have R53 := Lib.hid (S73.out.bel (below_al (Below.refl _ _) (.cells #[.slice A7 (giveF xs t).1.length c7] 31)))
    have R54 := Lib.hid (S74.out.bel (below_al (Below.refl _ _) (.cells #[.slice A7 (giveF xs t).1.length c7] 31)))
    have R55 := Lib.hid (HR7.out.bel (below_al (Below.refl _ _) (.cells #[.slice A7 (giveF xs t).1.length c7] 31)))
    have R56 := Lib.hid (HG7.out.bel (below_al (Below.refl _ _) (.cells #[.slice A7 (giveF xs t).1.length c7] 31)))
    go_upto_region 10 with fail
    clear hm5
    generalize (w7.alloc (.cells #[.slice A7 (giveF xs t).1.length c7] 31)) = W7 at *
    clear Y70
    clear Y71
    clear Y72
    clear Y73
    clear Y74
    clear S70
    clear S71
    clear S72
    clear S73
    clear S74
    clear HR7
    clear HG7
    have HW7 := Lib.hid (HW0.out _ B5.out)
    clear HW0 HWA
    generalize takeF xs t = tf at *
    generalize giveF xs t = gf at *
    obtain ⟨ys, te⟩ := tf
    obtain ⟨zs, gs, ge⟩ := gf
    simp only at *
    have c0 := blk_cell X52.out 0
    have c1 := blk_cell X53.out 0
    simp only [List.getElem?_toArray, List.getElem?_cons_zero] at c0 c1
    go_wp2_with fail
    refine (c_samePool ys A4 A5 c4 c5 _ _ W7 R51.out R52.out).mono ?_
    rintro e w8 ⟨rfl, hB8⟩
    have HBb8 := Lib.hid (B5.out.trans (hB8.mono B5.out.size))
    have Y80 := Lib.hid (blk_bel hB8 X50.out)
    clear X50
    have Y81 := Lib.hid (blk_bel hB8 X51.out)
    clear X51
    have Y82 := Lib.hid (blk_bel hB8 X52.out)
    clear X52
    have Y83 := Lib.hid (blk_bel hB8 X53.out)
    clear X53
    have Y84 := Lib.hid (blk_bel hB8 X54.out)
    clear X54
    have Y85 := Lib.hid (blk_bel hB8 G5.out)
    clear G5
    have S80 := Lib.hid (R50.out.bel hB8)
    clear R50
    have S81 := Lib.hid (R51.out.bel hB8)
    clear R51
    have S82 := Lib.hid (R52.out.bel hB8)
    clear R52
    have S83 := Lib.hid (R53.out.bel hB8)
    clear R53
    have S84 := Lib.hid (R54.out.bel hB8)
    clear R54
    have S85 := Lib.hid (R55.out.bel hB8)
    clear R55
    have S86 := Lib.hid (R56.out.bel hB8)
    clear R56
    have HW7 := Lib.hid (HW7.out.bel hB8)
    clear hB8 c0 c1
    have c0 := blk_cell Y84.out 0
    have c1 := blk_cell Y85.out 0
    simp only [List.getElem?_toArray, List.getElem?_cons_zero] at c0 c1
    go_wp2_with fail
    refine (c_samePool zs A6 A7 c6 c7 _ _ w8 S83.out S85.out).mono ?_
    rintro e w9 ⟨rfl, hB9⟩
    have HBb9 := Lib.hid (HBb8.out.trans (hB9.mono HBb8.out.size))
    have Y90 := Lib.hid (blk_bel hB9 Y80.out)
    clear Y80
    have Y91 := Lib.hid (blk_bel hB9 Y81.out)
    clear Y81
    have Y92 := Lib.hid (blk_bel hB9 Y82.out)
    clear Y82
    have Y93 := Lib.hid (blk_bel hB9 Y83.out)
    clear Y83
    have Y94 := Lib.hid (blk_bel hB9 Y84.out)
    clear Y84
    have Y95 := Lib.hid (blk_bel hB9 Y85.out)
    clear Y85
    have S90 := Lib.hid (S80.out.bel hB9)
    clear S80
    have S91 := Lib.hid (S81.out.bel hB9)
    clear S81
    have S92 := Lib.hid (S82.out.bel hB9)
    clear S82
    have S93 := Lib.hid (S83.out.bel hB9)
    clear S83
    have S94 := Lib.hid (S84.out.bel hB9)
    clear S84
    have S95 := Lib.hid (S85.out.bel hB9)
    clear S85
    have S96 := Lib.hid (S86.out.bel hB9)
    clear S86
    have HW7 := Lib.hid (HW7.out.bel hB9)
    clear hB9 c0 c1
    have c0 := blk_cell Y91.out 0
    have c1 := blk_cell Y90.out 0
    simp only [List.getElem?_toArray, List.getElem?_cons_zero] at c0 c1
    go_wp2_with fail
    refine (c_samePool xs Ax A cx c _ _ w9 S90.out HW7.out).mono ?_
    rintro e wa ⟨rfl, hB10⟩
    have HBb10 := Lib.hid (HBb9.out.trans (hB10.mono HBb9.out.size))
    have Y100 := Lib.hid (blk_bel hB10 Y90.out)
    clear Y90
    have Y101 := Lib.hid (blk_bel hB10 Y91.out)
    clear Y91
    have Y102 := Lib.hid (blk_bel hB10 Y92.out)
    clear Y92
    have Y103 := Lib.hid (blk_bel hB10 Y93.out)
    clear Y93
    have Y104 := Lib.hid (blk_bel hB10 Y94.out)
    clear Y94
    have Y105 := Lib.hid (blk_bel hB10 Y95.out)
    clear Y95
    have S100 := Lib.hid (S90.out.bel hB10)
    clear S90
    have S101 := Lib.hid (S91.out.bel hB10)
    clear S91
    have S102 := Lib.hid (S92.out.bel hB10)
    clear S92
    have S103 := Lib.hid (S93.out.bel hB10)
    clear S93
    have S104 := Lib.hid (S94.out.bel hB10)
    clear S94
    have S105 := Lib.hid (S95.out.bel hB10)
    clear S95
    have S106 := Lib.hid (S96.out.bel hB10)
    clear S96
    have HW7 := Lib.hid (HW7.out.bel hB10)
    clear hB10 c0 c1
    have HGO := S104
    have HWE := S106
    have HBE := HBb10
    go_wp2_with fail
    have HGR := Lib.hid (fun W (h : Below wa.heap.size wa W) => HGO.out.bel h)
    have HWR := Lib.hid (fun W (h : Below wa.heap.size wa W) => HWE.out.bel h)
    have hgl := HGO.out.1
    clear HGO HWE
    go_loopw [16, 84] (fun _ j wr => ∃ k : Nat, k ≤ gs.length ∧ j = .int .i64 k ∧ Hid (Below wa.heap.size wa wr)) (fun _ j _ => gs.length - (intOf j).toNat)
    case atStart => exact ⟨0, Nat.zero_le _, rfl, Below.refl _ _⟩
    case round =>
      obtain ⟨k, hk, rfl, hB⟩ := hrel
      by_cases hltk : k < gs.length
      · obtain ⟨ad, hA1, -, hrk, e0⟩ := Kd.int_at (HGR.out _ hB.out) hltk
        obtain ⟨ad2, hA2, -, -, e1⟩ := Kd.int_at (HWR.out _ hB.out) hltk
        subst hA1 hA2
        have hk0 : (0 : Int) ≤ (k : Int) := by omega
        have hk1 : (k : Int) < (gs.length : Int) := by omega
        generalize gs[k] = g at *
        clear hrk
        go_upto_region 15 with fail
        go_region
        all_goals
          go_wp2_with fail
          go_roundw
          case rel => exact ⟨k + 1, by omega, by go_num, below_d1 hB.out⟩
          case measure => simp [intOf]; omega
      · obtain rfl : k = gs.length := by omega
        go_wp2_with fail
        go_ret
        exact ⟨rfl, HBE.out.trans (hB.out.mono HBE.out.size)⟩
theorem c_countsLaw (x0 : Pool) (a1 : Int) (h1 : Kd.rng .i64 a1) (ok : Nat → Prop) (cs : List Value) (w : World) (h0 : kPool.K w ok x0 cs) : Calls Tryz.prog 6 #[.agg cs.toArray, .int .i64 a1] w fun e w' => e = .returned (.bool true) ∧ Below w.heap.size w w' := by
  obtain ⟨A, c, rfl, g1, g2, g3⟩ := kPool.opn h0
  exact c_counts x0.nodes A c a1 h1 ok w g3 ⟨g1, g2⟩
end Go.Proofs.YtbojjjiggppnaaaGreat
