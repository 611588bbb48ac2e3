/- The walks of policy.holding and its iterator. -/
import Derived.Test.YtiepnnjodmkolaaG6
import Derived.Test.YtiepnnjodmkolaaG7
namespace Go.Proofs.Ytiepnnjodmkolaa
open Go.RowKit Go.Shelf
set_option linter.unusedVariables false
set_option linter.unusedSimpArgs false

set_option maxHeartbeats 1000000 in
theorem c_holding (A : Option Addr) (n c : Nat) (els : Int) (d : Data) (w : World) :
    Calls Try.prog 39 #[.agg #[.slice A n c, .int .u32 els], d.agg] w fun e w' => e = .returned (.func (.func 60) #[] #[.pointer (some ⟨w.heap.size, 0, none⟩), .pointer (some ⟨w.heap.size + 1, 0, none⟩)]) ∧ w'.heap[w.heap.size]? = some (.cells #[.slice A n c, .int .u32 els] 25) ∧ w'.heap[w.heap.size + 1]? = some (.cells d.cells.toArray 47) ∧ Below w.heap.size w w' := by
  obtain ⟨nr, arch, ip, a0, a1, a2, a3, a4, a5⟩ := d
  unfold Data.agg Data.cells
  go_enter Try.func39, Try.ntmps39
  go_wp2_with fail
  go_ret
  have h := blk_new (w.alloc (.cells #[.slice A n c, .int .u32 els] 25)) (.cells #[.int .u32 nr, .int .u32 arch, .int .u64 ip, .int .u64 a0, .int .u64 a1, .int .u64 a2, .int .u64 a3, .int .u64 a4, .int .u64 a5] 47)
  rw [World.size_alloc] at h
  exact ⟨rfl, blk_al (blk_new _ _) _, h, below_al (below_al (Below.refl _ _) _) _⟩

/-- The place of the first rule that holds. -/
def firstH (d : Data) (l : List Rule) : Option Nat := l.findIdx? (holdsR d)
theorem firstH_at {d : Data} {l : List Rule} {k : Nat} (hk : k < l.length) (hno : ∀ j (hj : j < l.length), j < k → holdsR d l[j] = false) (h : holdsR d l[k] = true) : firstH d l = some k := by
  unfold firstH
  rw [List.findIdx?_eq_some_iff_getElem]
  exact ⟨hk, h, fun j hj => by rw [hno j (by omega) hj]; simp⟩
theorem firstH_none {d : Data} {l : List Rule} (hno : ∀ j (hj : j < l.length), holdsR d l[j] = false) : firstH d l = none := by
  unfold firstH
  rw [List.findIdx?_eq_none_iff]
  intro x hx
  obtain ⟨i, hi, rfl⟩ := List.getElem_of_mem hx
  exact hno i hi
theorem firstH_lt {d : Data} {l : List Rule} {k : Nat} (h : firstH d l = some k) : k < l.length := by
  unfold firstH at h
  rw [List.findIdx?_eq_some_iff_getElem] at h
  exact h.1
set_option maxRecDepth 100000 in
set_option maxHeartbeats 4000000 in
theorem holding1_in (n : Nat) (hn : 1 ≤ n) (ly : Nat) (rules : List Rule) (els : Int) (d : Data) (hd : d.wf) (A : Option Addr) (c bp bd : Nat) (ok : Nat → Prop) (J : Bool → World → Prop) (W : World)
    (hbp : W.heap[bp]? = some (.cells #[.slice A rules.length c, .int .u32 els] 25)) (hbd : W.heap[bd]? = some (.cells d.cells.toArray 47)) (hrow : kRule.Row W ok A rules)
    (hJ : ∀ s A' B', J s A' → Below W.heap.size A' B' → J s B')
    (hY : ∀ k W1, firstH d rules = some k → J false W1 → YieldAt Fence.wide (n - 1) Try.prog ly #[.int .i64 (k : Nat)] W1 fun e W' => e = .returned (.bool false) ∧ J true W')
    (h0 : J false W) :
    CallsIn Fence.wide n Try.prog 60 #[.func (.yield ly) #[] #[], .pointer (some ⟨bp, 0, none⟩), .pointer (some ⟨bd, 0, none⟩)] W fun e W' => (∃ v, e = .returned v) ∧ J (firstH d rules).isSome W' := by
  have hro : Fence.wide.round = none := rfl
  refine callsIn_of_wp Try.func60 rfl trivial ?_ hro
  simp only [Try.ntmps60, List.size_toArray, List.length_cons, List.length_nil, Nat.reduceAdd, Nat.reduceSub, Array.replicate_succ, Array.replicate_zero, List.push_toArray, List.append_toArray, List.nil_append, List.cons_append]
  have kp : W.cell? ⟨bp, 0, none⟩ = some (.slice A rules.length c) := blk_cell hbp 0
  have hn := hrow.1
  have HBP := Lib.hid hbp
  have HBD := Lib.hid hbd
  have HJ := Lib.hid hJ
  have HY := Lib.hid hY
  have H0 := Lib.hid h0
  have HROW := Lib.hid hrow
  clear hbp hbd hJ hY h0 hrow
  gi_wp2
  gi_loopw [4, 5, 9] (fun _ _ i wr => ∃ (k : Nat), k ≤ rules.length ∧ i = .int .i64 k ∧ Hid (∀ j (hj : j < rules.length), j < k → holdsR d rules[j] = false) ∧ Hid (Below W.heap.size W wr)) (fun _ _ i _ => rules.length - (intOf i).toNat)
  case atStart => exact ⟨0, Nat.zero_le _, rfl, fun j _ hj => absurd hj (Nat.not_lt_zero _), Below.refl _ _⟩
  case round =>
    obtain ⟨k, hk, rfl, hno, hB⟩ := hrel
    by_cases hlt : k < rules.length
    · obtain ⟨ad, B0, d0, B3, d3, rfl, hok, ⟨h0, h1, h2, h3, h4⟩, e0, e1, e2, e3, e4⟩ := kRule.at_ (HROW.out.bel hB.out) hlt
      have hhold := c_holdsR rules[k] d hd ok _ _ (Kd.bel (d := kRule) (kRule.mk (x := rules[k]) h0 h1 h2 h3 h4) (below_al (Below.refl wr.heap.size wr) (.cells #[.slice B0 rules[k].archs.length d0, .int .u32 rules[k].lo, .int .u32 rules[k].hi, .slice B3 rules[k].tests.length d3, .int .u32 rules[k].word] 51)))
      have HYES : Hid (holdsR d rules[k] = true → firstH d rules = some k) := fun h => firstH_at hlt hno.out h
      have HNO : Hid (holdsR d rules[k] = false → ∀ j (hj : j < rules.length), j < k + 1 → holdsR d rules[j] = false) := fun h j hj hj' => by
        rcases Nat.lt_succ_iff_lt_or_eq.1 hj' with h' | rfl
        · exact hno.out j hj h'
        · exact h
      have HH := Lib.hid hhold
      have g0 := h0.2.2.1
      have g3 := h3.2.2.1
      clear hhold h0 h1 h2 h3 h4
      obtain ⟨nr, arch, ip, a0, a1, a2, a3, a4, a5⟩ := d
      have hbdW := blk_bel hB.out HBD.out
      simp only [Data.cells] at hbdW
      have d0' : (wr.alloc (.cells #[.slice B0 rules[k].archs.length d0, .int .u32 rules[k].lo, .int .u32 rules[k].hi, .slice B3 rules[k].tests.length d3, .int .u32 rules[k].word] 51)).cell? ⟨bd, 0, none⟩ = some (.int .u32 nr) := cell_al (blk_cell hbdW 0) (.cells #[.slice B0 rules[k].archs.length d0, .int .u32 rules[k].lo, .int .u32 rules[k].hi, .slice B3 rules[k].tests.length d3, .int .u32 rules[k].word] 51)
      have d1' : (wr.alloc (.cells #[.slice B0 rules[k].archs.length d0, .int .u32 rules[k].lo, .int .u32 rules[k].hi, .slice B3 rules[k].tests.length d3, .int .u32 rules[k].word] 51)).cell? ⟨bd, 1, none⟩ = some (.int .u32 arch) := cell_al (blk_cell hbdW 1) (.cells #[.slice B0 rules[k].archs.length d0, .int .u32 rules[k].lo, .int .u32 rules[k].hi, .slice B3 rules[k].tests.length d3, .int .u32 rules[k].word] 51)
      have d2' : (wr.alloc (.cells #[.slice B0 rules[k].archs.length d0, .int .u32 rules[k].lo, .int .u32 rules[k].hi, .slice B3 rules[k].tests.length d3, .int .u32 rules[k].word] 51)).cell? ⟨bd, 2, none⟩ = some (.int .u64 ip) := cell_al (blk_cell hbdW 2) (.cells #[.slice B0 rules[k].archs.length d0, .int .u32 rules[k].lo, .int .u32 rules[k].hi, .slice B3 rules[k].tests.length d3, .int .u32 rules[k].word] 51)
      have d3' : (wr.alloc (.cells #[.slice B0 rules[k].archs.length d0, .int .u32 rules[k].lo, .int .u32 rules[k].hi, .slice B3 rules[k].tests.length d3, .int .u32 rules[k].word] 51)).cell? ⟨bd, 3, none⟩ = some (.int .u64 a0) := cell_al (blk_cell hbdW 3) (.cells #[.slice B0 rules[k].archs.length d0, .int .u32 rules[k].lo, .int .u32 rules[k].hi, .slice B3 rules[k].tests.length d3, .int .u32 rules[k].word] 51)
      have d4' : (wr.alloc (.cells #[.slice B0 rules[k].archs.length d0, .int .u32 rules[k].lo, .int .u32 rules[k].hi, .slice B3 rules[k].tests.length d3, .int .u32 rules[k].word] 51)).cell? ⟨bd, 4, none⟩ = some (.int .u64 a1) := cell_al (blk_cell hbdW 4) (.cells #[.slice B0 rules[k].archs.length d0, .int .u32 rules[k].lo, .int .u32 rules[k].hi, .slice B3 rules[k].tests.length d3, .int .u32 rules[k].word] 51)
      have d5' : (wr.alloc (.cells #[.slice B0 rules[k].archs.length d0, .int .u32 rules[k].lo, .int .u32 rules[k].hi, .slice B3 rules[k].tests.length d3, .int .u32 rules[k].word] 51)).cell? ⟨bd, 5, none⟩ = some (.int .u64 a2) := cell_al (blk_cell hbdW 5) (.cells #[.slice B0 rules[k].archs.length d0, .int .u32 rules[k].lo, .int .u32 rules[k].hi, .slice B3 rules[k].tests.length d3, .int .u32 rules[k].word] 51)
      have d6' : (wr.alloc (.cells #[.slice B0 rules[k].archs.length d0, .int .u32 rules[k].lo, .int .u32 rules[k].hi, .slice B3 rules[k].tests.length d3, .int .u32 rules[k].word] 51)).cell? ⟨bd, 6, none⟩ = some (.int .u64 a3) := cell_al (blk_cell hbdW 6) (.cells #[.slice B0 rules[k].archs.length d0, .int .u32 rules[k].lo, .int .u32 rules[k].hi, .slice B3 rules[k].tests.length d3, .int .u32 rules[k].word] 51)
      have d7' : (wr.alloc (.cells #[.slice B0 rules[k].archs.length d0, .int .u32 rules[k].lo, .int .u32 rules[k].hi, .slice B3 rules[k].tests.length d3, .int .u32 rules[k].word] 51)).cell? ⟨bd, 7, none⟩ = some (.int .u64 a4) := cell_al (blk_cell hbdW 7) (.cells #[.slice B0 rules[k].archs.length d0, .int .u32 rules[k].lo, .int .u32 rules[k].hi, .slice B3 rules[k].tests.length d3, .int .u32 rules[k].word] 51)
      have d8' : (wr.alloc (.cells #[.slice B0 rules[k].archs.length d0, .int .u32 rules[k].lo, .int .u32 rules[k].hi, .slice B3 rules[k].tests.length d3, .int .u32 rules[k].word] 51)).cell? ⟨bd, 8, none⟩ = some (.int .u64 a5) := cell_al (blk_cell hbdW 8) (.cells #[.slice B0 rules[k].archs.length d0, .int .u32 rules[k].lo, .int .u32 rules[k].hi, .slice B3 rules[k].tests.length d3, .int .u32 rules[k].word] 51)
      clear hbdW
      gi_wp2_with fail
      refine ⟨trivial, ?_⟩
      refine (callsIn_wide.2 HH.out).mono ?_
      rintro e w2 ⟨rfl, hB2⟩
      have hB2' : Below wr.heap.size wr w2 := (below_al (Below.refl _ _) _).trans (hB2.mono (by simp))
      have HB2 := Lib.hid (below_tr hB.out hB2')
      clear HH hB2 hB2' d0' d1' d2' d3' d4' d5' d6' d7' d8' e0 e1 e2 e3 e4 kp
      generalize hhb : holdsR ⟨nr, arch, ip, a0, a1, a2, a3, a4, a5⟩ rules[k] = hb
      have HHB := Lib.hid hhb
      clear hhb
      cases hb with
      | false =>
        gi_wp2
        refine ⟨fun f h => (by cases h), ?_⟩
        gi_wp2
        go_roundw
        case rel => exact ⟨k + 1, by omega, by go_num, HNO.out HHB.out, HB2.out⟩
        case measure => simp [intOf]; omega
      | true =>
        have hf := HYES.out HHB.out
        obtain ⟨fn, tmps, assign, body, hy, hR⟩ := HY.out k w2 hf (HJ.out _ _ _ H0.out HB2.out)
        have HF := Lib.hid hf
        have HR := Lib.hid hR
        clear hR hf
        gi_wp2
        refine HR.out.mono ?_
        rintro e W5 ⟨rfl, hJ5⟩
        gi_wp2
        refine bodyPost_ret (results_none rfl _ _ _) rfl ?_
        exact ⟨⟨_, rfl⟩, by rw [HF.out]; exact hJ5⟩
    · obtain rfl : k = rules.length := by omega
      gi_wp2
      go_end0
      exact ⟨⟨_, rfl⟩, by rw [firstH_none (fun j hj => hno.out j hj hj)]; exact HJ.out _ _ _ H0.out hB.out⟩
end Go.Proofs.Ytiepnnjodmkolaa
