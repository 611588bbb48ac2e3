/- The walks of policy.program, Check, Size, Compile. -/
import Derived.Test.YtiepnnjodmkolaaC4
namespace Go.Proofs.Ytiepnnjodmkolaa
open Go.RowKit Go.Shelf
set_option linter.unusedVariables false
set_option linter.unusedSimpArgs false

def progP (p : Policy) : List Insn := p.rules.flatMap ofR ++ [insn 6 p.els]
theorem ofR_length (r : Rule) : (ofR r).length = (archBlk r.archs).length + 4 + 3 * r.tests.length := by
  simp only [ofR, List.length_mapIdx, baseOf, List.length_append, List.length_cons, List.length_nil, tests3_length]
  omega
theorem flat_length {l : List Rule} (h : l.any ruleBad = false) : (l.flatMap ofR).length ≤ 17 * l.length := by
  induction l with
  | nil => simp
  | cons r l ih =>
    rw [List.any_cons, Bool.or_eq_false_iff] at h
    have h1 := ih h.2
    have h2 := ofR_length r
    have h3 := archBlk_len r.archs
    have h4 := h.1
    simp only [ruleBad, Bool.or_eq_false_iff, decide_eq_false_iff_not] at h4
    simp only [List.flatMap_cons, List.length_append, List.length_cons]
    omega
theorem any_take {l : List Rule} (h : l.any ruleBad = false) (k : Nat) : (l.take k).any ruleBad = false := by
  rw [List.any_eq_false] at *
  exact fun x hx => h x (List.mem_of_mem_take hx)
theorem any_get {l : List Rule} (h : l.any ruleBad = false) {k : Nat} (hk : k < l.length) : ruleBad l[k] = false := by
  rw [List.any_eq_false] at h
  have := h _ (List.getElem_mem hk)
  simpa using this
theorem flat_take (l : List Rule) (k : Nat) (hk : k < l.length) : (l.take (k + 1)).flatMap ofR = (l.take k).flatMap ofR ++ ofR l[k] := by
  rw [List.take_succ_eq_append_getElem hk]
  simp only [List.flatMap_append, List.flatMap_cons, List.flatMap_nil, List.append_nil]

set_option maxHeartbeats 1000000 in
theorem c_program (x : Policy) (ok : Nat → Prop) (cs : List Value) (w : World) (hK : kPolicy.K w ok x cs) (hbad : x.rules.any ruleBad = false) (hlen : x.rules.length ≤ 6) :
    Calls Try.prog 29 #[.agg cs.toArray] w fun e w' => ∃ v, e = .returned v ∧ kInsn.slice.K w' (fun k => w.heap.size ≤ k) (progP x) [v] ∧ Below w.heap.size w w' := by
  obtain ⟨A0, c0, rfl, ⟨l0, m0, r0⟩, g1⟩ := kPolicy.opn hK
  obtain ⟨rules, els⟩ := x
  simp only at *
  have HBad := Lib.hid hbad
  clear hbad
  go_enter Try.func29, Try.ntmps29
  go_wp2_with fail
  generalize hW1 : (w.alloc (.cells #[.slice A0 rules.length c0, .int .u32 els] 25)) = W1
  have hBW1 : Below w.heap.size w W1 := by rw [← hW1]; exact below_al (Below.refl _ _) _
  have hsW1 : W1.heap.size = w.heap.size + 1 := by rw [← hW1]; simp
  have hR1 : W1.heap[w.heap.size]? = some (.cells #[.slice A0 rules.length c0, .int .u32 els] 25) := by rw [← hW1]; exact blk_new _ _
  clear hW1
  go_loopw [3, 5, 9] (fun v _ i wr => ∃ (k : Nat) (zs : List Insn), k ≤ rules.length ∧ i = .int .i64 k ∧ Hid (zs = (rules.take k).flatMap ofR) ∧ zs.length ≤ 102 ∧ Below (w.heap.size + 1) W1 wr ∧ kInsn.Own 39 wr (w.heap.size + 1) (fun q => w.heap.size + 1 ≤ q) v zs) (fun _ _ i _ => rules.length - (intOf i).toNat)
  case atStart => exact ⟨0, [], Nat.zero_le _, rfl, rfl, by simp, Below.refl _ _, Kd.Own.nil _ _ _ _ _⟩
  case round =>
    obtain ⟨k, zs, hk, rfl, hzs, hzl, hB, hO⟩ := hrel
    have hsz := hB.size
    obtain ⟨Av, cv, rfl, _, _⟩ := hO.form
    have hBw : Below w.heap.size w wr := hBW1.trans (hB.mono (by omega))
    by_cases hlt : k < rules.length
    · obtain ⟨ad, B0, d0, B3, d3, rfl, hok, ⟨h0, h1, h2, h3, h4⟩, e0, e1, e2, e3, e4⟩ := kRule.at_ (r0.bel hBw) hlt
      have hKr := kRule.mk (x := rules[k]) h0 h1 h2 h3 h4
      have hrb := any_get HBad.out hlt
      have hfl := flat_length (any_take HBad.out (k + 1))
      have htl : (rules.take (k + 1)).length ≤ rules.length := List.length_take_le' _ _
      rw [flat_take rules k hlt, ← hzs.out] at hfl
      go_wp2_with fail
      refine (c_of rules[k] ok _ _ (Kd.al (d := kRule) hKr _) hrb).mono ?_
      rintro e w2 ⟨v, rfl, hKv, hB2⟩
      obtain ⟨A2, c2, e2', l2, m2, r2⟩ := hKv
      simp only [List.cons.injEq, and_true] at e2'
      subst e2'
      have hB2' : Below wr.heap.size wr w2 := (below_al (Below.refl _ _) _).trans (hB2.mono (by simp))
      have hO2 := hO.bel hB2'
      have hB3 : Below (w.heap.size + 1) W1 w2 := hB.trans (hB2'.mono (by omega))
      have hs3 := hB3.size
      have hzs' : Hid (zs ++ ofR rules[k] = (rules.take (k + 1)).flatMap ofR) := by rw [flat_take rules k hlt, ← hzs.out]; exact rfl
      generalize (ofR rules[k]) = ys at *
      have hyl : zs.length + ys.length ≤ 102 := by rw [List.length_append] at hfl; omega
      clear hfl htl
      go_wp2_with (at_builtin; refine wp_append_kd rfl _ _ 32 39 _ 8 rfl Try.underlying32 infoInsn rfl (.slice Av zs.length cv) zs A2 ys.length c2 ys rfl rfl hO2 rfl r2 (fun _ _ h => h) (by unfold maxLen; omega) (by omega) (by omega) (fun q hq => by omega) ?_; intro v1 w3 hO3 hg3 hat3)
      have hB4 : Below (w.heap.size + 1) W1 w3 := hB3.grown hg3 (by omega) (fun q hq => hO2.le q hq)
      go_roundw
      case rel => exact ⟨k + 1, _, by omega, by go_num, hzs', by rw [List.length_append]; exact hyl, hB4, hO3⟩
      case measure => simp [intOf]; omega
    · obtain rfl : k = rules.length := by omega
      rw [List.take_length] at hzs
      have hR2 := (hB.block w.heap.size (by omega)).trans hR1
      have k1 := blk_cell hR2 1
      simp only [List.getElem?_toArray, List.getElem?_cons_zero, List.getElem?_cons_succ] at k1
      have hO2 := hO.al (.cells #[.int .u16 6, .int .u8 0, .int .u8 0, .int .u32 els] 39)
      have hlit := lit_row (w := wr) (e := 39) [insn 6 els] _ rfl (wf1 (insn_wf (by decide) g1)) (by simp)
      go_wp2_with (at_builtin; refine wp_append_kd rfl _ _ 32 39 _ 8 rfl Try.underlying32 infoInsn rfl (.slice Av zs.length cv) zs (some ⟨wr.heap.size, 0, none⟩) 1 1 [insn 6 els] rfl rfl hO2 rfl hlit (fun _ _ h => h) (by unfold maxLen; omega) (by omega) (by simp; omega) (fun q hq => by simp at hq; omega) ?_; intro v1 w3 hO3 hg3 hat3)
      have hB4 : Below w.heap.size w w3 := (hBw.alloc (by omega) _).grown hg3 (by simp; omega) (fun q hq => by have := hO2.le q hq; omega)
      go_ret
      have e : zs ++ [insn 6 els] = progP ⟨rules, els⟩ := by unfold progP; rw [hzs.out]
      rw [e] at hO3
      exact ⟨_, rfl, kInsn.slice.mono (fun q hq => by omega) hO3.K, hB4⟩

def checkP (p : Policy) : Int := if 6 < p.rules.length ∨ p.rules.any ruleBad = true then 330 else 0
theorem eg_ruleBad : ∀ args w, (callFunc 41 args).run Try.prog w = .ok (.enter 41 args) w := fun args w => by
  exact (enters_of Try.func41 (by kernel_rfl) rfl) args w
set_option maxHeartbeats 1000000 in
theorem c_check (x : Policy) (ok : Nat → Prop) (cs : List Value) (w : World) (hK : kPolicy.K w ok x cs) :
    Calls Try.prog 22 #[.agg cs.toArray] w fun e w' => e = .returned (.int .i64 (checkP x)) ∧ Below w.heap.size w w' := by
  obtain ⟨A0, c0, rfl, ⟨l0, m0, r0⟩, g1⟩ := kPolicy.opn hK
  obtain ⟨rules, els⟩ := x
  simp only at *
  have hc := c_containsRule A0 rules _ c0 41 #[] ruleBad ok _ (r0.bel (below_al (Below.refl w.heap.size w) (.cells #[.slice A0 rules.length c0, .int .u32 els] 25))) rfl eg_ruleBad (fun x _ W cs _ h => c_ruleBad x ok cs W h)
  have hn := r0.1
  obtain ⟨tb, htb⟩ : ∃ tb, tb = rules.any ruleBad := ⟨_, rfl⟩
  rw [← htb] at hc
  have HT := Lib.hid htb
  clear htb
  go_enter Try.func22, Try.ntmps22
  go_wp2_with (go_at_call 40; refine hc.mono ?_; rintro e w' ⟨rfl, hB'⟩; have hB2 := (below_al (Below.refl w.heap.size w) (.cells #[.slice A0 rules.length c0, .int .u32 els] 25)).trans (hB'.mono (by simp)); have hbl := (hB'.block w.heap.size (by simp)).trans (blk_new _ _); have k0 := blk_cell hbl 0; simp only [List.getElem?_toArray, List.getElem?_cons_zero, List.getElem?_cons_succ] at k0)
  all_goals
    go_ret
    refine ⟨ret_i ?_, hB2⟩
    unfold checkP
    rw [← HT.out]
  all_goals grind

theorem checkP_ok {p : Policy} (h : checkP p = 0) : p.rules.any ruleBad = false ∧ p.rules.length ≤ 6 := by
  unfold checkP at h
  split at h
  · simp at h
  · rename_i h'
    rw [not_or] at h'
    exact ⟨by simpa using h'.2, by omega⟩
theorem checkP_bad {p : Policy} (h : checkP p ≠ 0) : checkP p = 330 := by
  unfold checkP at h ⊢
  by_cases hh : 6 < p.rules.length ∨ p.rules.any ruleBad = true
  · rw [if_pos hh]
  · rw [if_neg hh] at h
    exact absurd rfl h
theorem progP_len {p : Policy} (h : checkP p = 0) : (progP p).length ≤ 103 := by
  obtain ⟨h1, h2⟩ := checkP_ok h
  have := flat_length h1
  simp only [progP, List.length_append, List.length_cons, List.length_nil]
  omega
/-- A policy's box, and what lies above it. -/
theorem box_al (w : World) (cs : Array Value) (t : TypeId) : (w.alloc (.cells cs t)).heap[w.heap.size]? = some (.cells cs t (0, 0)) := blk_new _ _

set_option maxHeartbeats 1000000 in
theorem c_size (x : Policy) (ok : Nat → Prop) (cs : List Value) (w : World) (hK : kPolicy.K w ok x cs) :
    Calls Try.prog 12 #[.agg cs.toArray] w fun e w' => e = .returned (.tuple #[.int .i64 (if checkP x = 0 then (progP x).length else 0), .int .i64 (checkP x)]) ∧ Below w.heap.size w w' := by
  have hK' := hK
  obtain ⟨A0, c0, rfl, ⟨l0, m0, r0⟩, g1⟩ := kPolicy.opn hK
  have hc := c_check x ok _ _ (Kd.al (d := kPolicy) hK (.cells #[.slice A0 x.rules.length c0, .int .u32 x.els] 25))
  have hn := r0.1
  by_cases h0 : checkP x = 0
  · rw [if_pos h0, h0]
    rw [h0] at hc
    obtain ⟨h1, h2⟩ := checkP_ok h0
    have hpl := progP_len h0
    have HP := Lib.hid (fun (w' : World) (h : kPolicy.K w' ok x [.slice A0 x.rules.length c0, .int .u32 x.els]) => c_program x ok _ w' h h1 h2)
    clear h0
    generalize (progP x) = ys at *
    go_enter Try.func12, Try.ntmps12
    go_wp2_with fail
    refine hc.mono ?_
    rintro e w1 ⟨rfl, hB1⟩
    have hB2 := (below_al (Below.refl w.heap.size w) _).trans (hB1.mono (by simp))
    have hbl := (hB1.block w.heap.size (by simp)).trans (box_al _ _ _)
    have k0 := blk_cell hbl 0
    have k1 := blk_cell hbl 1
    simp only [List.getElem?_toArray, List.getElem?_cons_zero, List.getElem?_cons_succ] at k0 k1
    have hp := HP.out w1 (Kd.bel (d := kPolicy) hK' hB2)
    go_wp2_with (go_at_call 29; refine hp.mono ?_; rintro e w3 ⟨v, rfl, hKv, hB3⟩; obtain ⟨A2, c2, e2', l2, m2, r2⟩ := hKv; simp only [List.cons.injEq, and_true] at e2'; subst e2')
    go_ret2
    exact ⟨rfl, hB2.trans (hB3.mono hB2.size)⟩
  · rw [if_neg h0]
    have h330 := checkP_bad h0
    rw [h330]
    rw [h330] at hc
    clear h0 h330
    go_enter Try.func12, Try.ntmps12
    go_wp2_with fail
    refine hc.mono ?_
    rintro e w1 ⟨rfl, hB1⟩
    have hB2 := (below_al (Below.refl w.heap.size w) _).trans (hB1.mono (by simp))
    go_wp2_with fail
    go_ret2
    exact ⟨rfl, hB2⟩

def compE (p : Policy) : Int := if checkP p = 0 then (if 64 < (progP p).length then 3 else 0) else 330
def compL (p : Policy) : List Insn := if checkP p = 0 then (if 64 < (progP p).length then [] else progP p) else []
set_option maxHeartbeats 1000000 in
theorem c_compile (x : Policy) (ok : Nat → Prop) (cs : List Value) (w : World) (hK : kPolicy.K w ok x cs) :
    Calls Try.prog 14 #[.agg cs.toArray] w fun e w' => ∃ v, e = .returned (.tuple #[v, .int .i64 (compE x)]) ∧ kInsn.slice.K w' (fun k => w.heap.size ≤ k) (compL x) [v] ∧ Below w.heap.size w w' := by
  have hK' := hK
  obtain ⟨A0, c0, rfl, ⟨l0, m0, r0⟩, g1⟩ := kPolicy.opn hK
  have hc := c_check x ok _ _ (Kd.al (d := kPolicy) hK (.cells #[.slice A0 x.rules.length c0, .int .u32 x.els] 25))
  have hn := r0.1
  have hnil : ∀ W : World, kInsn.slice.K W (fun k => w.heap.size ≤ k) [] [.slice none 0 0] := fun W => (Kd.Own.nil kInsn 39 W 0 _).K
  have HNIL := Lib.hid hnil
  clear hnil
  unfold compE compL
  by_cases h0 : checkP x = 0
  · rw [if_pos h0, if_pos h0]
    rw [h0] at hc
    obtain ⟨h1, h2⟩ := checkP_ok h0
    have hpl := progP_len h0
    have HP := Lib.hid (fun (w' : World) (h : kPolicy.K w' ok x [.slice A0 x.rules.length c0, .int .u32 x.els]) => c_program x ok _ w' h h1 h2)
    clear h0
    generalize (progP x) = ys at *
    by_cases h64 : 64 < ys.length
    all_goals
      first | rw [if_pos h64, if_pos h64] | rw [if_neg h64, if_neg h64]
      go_enter Try.func14, Try.ntmps14
      go_wp2_with fail
      refine hc.mono ?_
      rintro e w1 ⟨rfl, hB1⟩
      have hB2 := (below_al (Below.refl w.heap.size w) _).trans (hB1.mono (by simp))
      have hbl := (hB1.block w.heap.size (by simp)).trans (box_al _ _ _)
      have k0 := blk_cell hbl 0
      have k1 := blk_cell hbl 1
      simp only [List.getElem?_toArray, List.getElem?_cons_zero, List.getElem?_cons_succ] at k0 k1
      have hp := HP.out w1 (Kd.bel (d := kPolicy) hK' hB2)
      go_wp2_with (go_at_call 29; refine hp.mono ?_; rintro e w3 ⟨v, rfl, hKv, hB3⟩; have hKv' := hKv; obtain ⟨A2, c2, e2', l2, m2, r2⟩ := hKv; simp only [List.cons.injEq, and_true] at e2'; subst e2')
      go_ret2
      have hB4 := hB2.trans (hB3.mono hB2.size)
      first
      | exact ⟨_, rfl, HNIL.out _, hB4⟩
      | exact ⟨_, rfl, kInsn.slice.mono (fun q hq => by have := hB2.size; omega) hKv', hB4⟩
  · rw [if_neg h0, if_neg h0]
    have h330 := checkP_bad h0
    rw [h330] at hc
    clear h0 h330
    go_enter Try.func14, Try.ntmps14
    go_wp2_with fail
    refine hc.mono ?_
    rintro e w1 ⟨rfl, hB1⟩
    have hB2 := (below_al (Below.refl w.heap.size w) _).trans (hB1.mono (by simp))
    go_wp2_with fail
    go_ret2
    exact ⟨_, rfl, HNIL.out _, hB2⟩
end Go.Proofs.Ytiepnnjodmkolaa
