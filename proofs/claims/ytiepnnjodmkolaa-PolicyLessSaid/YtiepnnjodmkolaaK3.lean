/- The walk of policy.Shadowed. -/
import Derived.Test.YtiepnnjodmkolaaK2
namespace Go.Proofs.Ytiepnnjodmkolaa
open Go.RowKit Go.Shelf
set_option linter.unusedVariables false
set_option linter.unusedSimpArgs false

theorem infoInt : (Try.prog.info? 3).map (fun i => (i.zero, i.size, i.bytes)) = some (some (.int .i64 0), 1, 8) := by kernel_rfl
theorem Kd.Row.take {α : Type} {d : Kd α} {w : World} {ok : Nat → Prop} {A : Option Addr} {xs : List α} (h : d.Row w ok A xs) (k : Nat) : d.Row w ok A (xs.take k) :=
  ⟨by have := h.1; rw [List.length_take]; omega, fun i x hx => by
    rw [List.getElem?_take] at hx
    split at hx
    · exact h.2 i x hx
    · cases hx⟩
theorem int_lit {w : World} {e : TypeId} {x : Int} (hx : Kd.rng .i64 x) : (Kd.int .i64).Row (w.alloc (.cells #[.int .i64 x] e)) (fun _ => True) (some ⟨w.heap.size, 0, none⟩) [x] := by
  have h := (Kd.Own.lit (d := Kd.int .i64) (w := w) (ok := fun _ => True) (e := e) (base := 0) (n := 1) (xs := [x]) (cells := [.int .i64 x]) rfl (Kd.Reps.single ⟨rfl, hx⟩) (Nat.zero_le _) (by unfold maxLen; simp) trivial).K
  obtain ⟨A', c', e1, _, _, h⟩ := h
  simp only [List.cons.injEq, Value.slice.injEq, and_true] at e1
  rw [e1.1]
  exact h
/-- The places of the rules that an earlier rule hides. -/
def shadAt (l : List Rule) (k : Nat) : Bool := (l.take k).any fun r => shadR r (l.getD k zRule)
def shadN (l : List Rule) (n : Nat) : List Nat := (List.range n).filter (shadAt l)
def shadL (l : List Rule) (n : Nat) : List Int := (shadN l n).map Int.ofNat
theorem shadL_yes {l : List Rule} {k : Nat} (hk : k < l.length) (h : ((l.take k).any fun r => shadR r l[k]) = true) : shadL l (k + 1) = shadL l k ++ [(k : Int)] := by
  have e : shadAt l k = true := by
    unfold shadAt
    rw [show l.getD k zRule = l[k] from by simp [List.getD, hk]]
    exact h
  simp [shadL, shadN, List.range_succ, List.filter_append, e]
theorem shadL_no {l : List Rule} {k : Nat} (hk : k < l.length) (h : ((l.take k).any fun r => shadR r l[k]) = false) : shadL l (k + 1) = shadL l k := by
  have e : shadAt l k = false := by
    unfold shadAt
    rw [show l.getD k zRule = l[k] from by simp [List.getD, hk]]
    exact h
  simp [shadL, shadN, List.range_succ, List.filter_append, e]
theorem shadL_len (l : List Rule) (n : Nat) : (shadL l n).length ≤ n := by
  unfold shadL shadN
  rw [List.length_map]
  exact Nat.le_trans (List.length_filter_le _ _) (by simp)
def shadV (p : Policy) : List Int := if checkP p = 0 then shadL p.rules p.rules.length else []
set_option maxRecDepth 100000 in
set_option maxHeartbeats 4000000 in
theorem c_shadowed (x : Policy) (ok : Nat → Prop) (cs : List Value) (w : World) (hK : kPolicy.K w ok x cs) :
    Calls Try.prog 26 #[.agg cs.toArray] w fun e w' => ∃ v, e = .returned (.tuple #[v, .int .i64 (checkP x)]) ∧ (Kd.int .i64).slice.K w' (fun k => w.heap.size ≤ k) (shadV x) [v] ∧ Below w.heap.size w w' := by
  have hK' := hK
  obtain ⟨A0, c0, rfl, ⟨l0, m0, r0⟩, g1⟩ := kPolicy.opn hK
  have hc := c_check x ok _ _ (Kd.al (d := kPolicy) hK (.cells #[.slice A0 x.rules.length c0, .int .u32 x.els] 25))
  have hn := r0.1
  unfold shadV
  by_cases h0 : checkP x = 0
  · rw [if_pos h0, h0]
    rw [h0] at hc
    obtain ⟨h1, h2⟩ := checkP_ok h0
    obtain ⟨rules, els⟩ := x
    simp only at *
    clear h0 h1 hK hK'
    have HC := Lib.hid hc
    clear hc
    go_enter Try.func26, Try.ntmps26
    go_wp2_with fail
    refine HC.out.mono ?_
    rintro e w1 ⟨rfl, hB1⟩
    have hB2 := (below_al (Below.refl w.heap.size w) _).trans (hB1.mono (by simp))
    have hs1 : w.heap.size + 1 ≤ w1.heap.size := by have := hB1.size; simpa using this
    have hR1 := (hB1.block w.heap.size (by simp)).trans (box_al _ _ _)
    have k0 := blk_cell hR1 0
    simp only [List.getElem?_toArray, List.getElem?_cons_zero, List.getElem?_cons_succ] at k0
    have HB2 := Lib.hid hB2
    clear hB1 hB2 HC
    have HR1 := Lib.hid hR1
    clear hR1
    have HR0 := Lib.hid r0
    clear r0
    go_wp2_with fail
    go_loopw [5, 6, 7, 16] (fun v _ _ i wr => ∃ (k : Nat) (zs : List Int), k ≤ rules.length ∧ i = .int .i64 k ∧ Hid (zs = shadL rules k) ∧ zs.length ≤ k ∧ Below (w.heap.size + 1) w1 wr ∧ (Kd.int .i64).Own 3 wr (w.heap.size + 1) (fun q => w.heap.size + 1 ≤ q) v zs) (fun _ _ _ i _ => rules.length - (intOf i).toNat)
    case atStart => exact ⟨0, [], Nat.zero_le _, rfl, rfl, by simp, Below.refl _ _, Kd.Own.nil _ _ _ _ _⟩
    case round =>
      obtain ⟨k, zs, hk, rfl, hzs, hzl, hB, hO⟩ := hrel
      have hsz := hB.size
      obtain ⟨Av, cv, rfl, _, _⟩ := hO.form
      have hBw : Below w.heap.size w wr := HB2.out.trans (hB.mono (by omega))
      have kr := blk_cell ((hB.block w.heap.size (by omega)).trans HR1.out) 0
      simp only [List.getElem?_toArray, List.getElem?_cons_zero, List.getElem?_cons_succ] at kr
      by_cases hlt : k < rules.length
      · obtain ⟨ad, B0, d0, B3, d3, rfl, hok, ⟨g0, g1', g2, g3, g4⟩, e0, e1, e2, e3, e4⟩ := kRule.at_ (HR0.out.bel hBw) hlt
        have hKr := kRule.mk (x := rules[k]) g0 g1' g2 g3 g4
        have hcall := c_containsRule (some ad) (rules.take k) k c0 46 #[.pointer (some ⟨wr.heap.size, 0, none⟩)] (fun r => shadR r rules[k]) ok (wr.alloc (.cells #[.slice B0 rules[k].archs.length d0, .int .u32 rules[k].lo, .int .u32 rules[k].hi, .slice B3 rules[k].tests.length d3, .int .u32 rules[k].word] 51)) (((HR0.out.bel hBw).bel (below_al (Below.refl _ _) _)).take k) (by rw [List.length_take]; omega) eg_shadowed1 (fun x _ W cs hW hKx => c_shadowed1 x rules[k] ok ok cs _ wr.heap.size W hKx (Kd.bel (d := kRule) (Kd.al (d := kRule) hKr _) hW) (blk_bel hW (blk_new _ _)))
        have HY := Lib.hid (shadL_yes hlt)
        have HN := Lib.hid (shadL_no hlt)
        generalize ((rules.take k).any fun r => shadR r rules[k]) = sb at *
        have HCALL := Lib.hid hcall
        have h03 := g0.2.2.1
        have h33 := g3.2.2.1
        clear hcall hKr g0 g3
        have kr' := cell_al kr (.cells #[.slice B0 rules[k].archs.length d0, .int .u32 rules[k].lo, .int .u32 rules[k].hi, .slice B3 rules[k].tests.length d3, .int .u32 rules[k].word] 51)
        generalize rules[k] = rk at *
        go_wp2_with fail
        refine HCALL.out.mono ?_
        rintro e w2 ⟨rfl, hB2⟩
        have hB2' : Below wr.heap.size wr w2 := (below_al (Below.refl _ _) _).trans (hB2.mono (by simp))
        have hO2 := hO.bel hB2'
        have hB3 : Below (w.heap.size + 1) w1 w2 := hB.trans (hB2'.mono (by omega))
        have hs3 := hB3.size
        have HBE := Lib.hid hB3
        have HO2 := Lib.hid hO2
        clear hB2 hB2' hO hO2 hB3 HCALL kr' e0 e1 e2 e3 e4 kr
        cases sb
        · go_wp2_with fail
          go_roundw
          case rel => exact ⟨k + 1, zs, by omega, by go_num, by rw [HN.out (by first | exact trivial | rfl)]; exact hzs, by omega, HBE.out, HO2.out⟩
          case measure => simp [intOf]; omega
        · have hO3 := HO2.out.al (.cells #[.int .i64 k] 3)
          have hlit := int_lit (w := w2) (e := 3) (x := (k : Int)) (by show (-9223372036854775808 : Int) ≤ k ∧ (k : Int) < 9223372036854775808; omega)
          go_wp2_with (at_builtin; refine wp_append_kd rfl _ _ 63 3 _ 8 rfl Try.underlying63 infoInt rfl (.slice Av zs.length cv) zs (some ⟨w2.heap.size, 0, none⟩) 1 1 [(k : Int)] rfl rfl hO3 rfl hlit (fun _ _ h => h) (by unfold maxLen; omega) (by omega) (by simp; omega) (fun q hq => by simp at hq; omega) ?_; intro v1 w3 hO4 hg4 hat4)
          have hB4 : Below (w.heap.size + 1) w1 w3 := (HBE.out.alloc (by omega) _).grown hg4 (by simp; omega) (fun q hq => HO2.out.le q hq)
          go_roundw
          case rel => exact ⟨k + 1, _, by omega, by go_num, by rw [HY.out (by first | exact trivial | rfl), ← hzs.out]; exact rfl, by simp; omega, hB4, hO4⟩
          case measure => simp [intOf]; omega
      · obtain rfl : k = rules.length := by omega
        go_wp2_with fail
        go_ret2
        refine ⟨_, rfl, ?_, hBw⟩
        rw [← hzs.out]
        exact (Kd.int .i64).slice.mono (fun q hq => by omega) hO.K
  · rw [if_neg h0]
    have h330 := checkP_bad h0
    rw [h330]
    rw [h330] at hc
    clear h0 h330
    go_enter Try.func26, Try.ntmps26
    go_wp2_with fail
    refine hc.mono ?_
    rintro e w1 ⟨rfl, hB1⟩
    have hB2 := (below_al (Below.refl w.heap.size w) _).trans (hB1.mono (by simp))
    go_wp2_with fail
    go_ret2
    exact ⟨_, rfl, (Kd.Own.nil (Kd.int .i64) 3 w1 0 _).K, hB2⟩
end Go.Proofs.Ytiepnnjodmkolaa
