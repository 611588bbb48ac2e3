/- The walk of the laws' copied. -/
import Derived.Test.YtiepnnjodmkolaaH0
import Derived.Test.YtiepnnjodmkolaaF1
namespace Go.Proofs.Ytiepnnjodmkolaa
open Go.RowKit Go.Shelf
set_option linter.unusedVariables false
set_option linter.unusedSimpArgs false

theorem overP_no {p : Policy} (h : overP p = false) : p.rules.length ≤ 50 ∧ ∀ (k : Nat) (hk : k < p.rules.length), p.rules[k].archs.length ≤ 50 ∧ p.rules[k].tests.length ≤ 50 := by
  unfold overP at h
  rw [Bool.or_eq_false_iff, decide_eq_false_iff_not, List.any_eq_false] at h
  refine ⟨by omega, fun k hk => ?_⟩
  have := h.2 _ (List.getElem_mem hk)
  unfold ruleOver at this
  rw [decide_eq_true_iff] at this
  omega
/-- Two cells of block m, and what has been since a world. -/
structure Cop (W5 : World) (m : Nat) (x0 x3 : Value) (W : World) : Prop where
  bel : Below (m + 1) W5 W
  size : m + 1 ≤ W.heap.size
  c0 : W.cell? ⟨m, 0, none⟩ = some x0
  c3 : W.cell? ⟨m, 3, none⟩ = some x3
theorem Cop.alloc {W5 W : World} {m : Nat} {x0 x3 : Value} (h : Cop W5 m x0 x3 W) (o : Obj) : Cop W5 m x0 x3 (W.alloc o) := ⟨h.bel.alloc h.size o, by rw [World.size_alloc]; have := h.size; omega, cell_al h.c0 o, cell_al h.c3 o⟩
theorem Cop.grown {W5 W W' : World} {m : Nat} {x0 x3 : Value} (h : Cop W5 m x0 x3 W) {row : Option Nat} (hg : W.grownBy W' row) (hr : ∀ q, row = some q → m + 1 ≤ q) : Cop W5 m x0 x3 W' := by
  have hb : W'.heap[m]? = W.heap[m]? := hg.block m (by have := h.size; omega) (fun e => by have := hr m e.symm; omega)
  exact ⟨h.bel.grown hg h.size hr, Nat.le_trans h.size hg.size, (World.cell?_of_block (a := ⟨m, 0, none⟩) hb).trans h.c0, (World.cell?_of_block (a := ⟨m, 3, none⟩) hb).trans h.c3⟩
/-- Two rows in two blocks. -/
def Apart2 (v u : Value) : Prop := ∀ q, v.ownBlock = some q → u.ownBlock ≠ some q
theorem apart_l {v v1 u : Value} {s : Nat} (h : Apart2 v u) (hat : v1.ownBlock = v.ownBlock ∨ v1.ownBlock = some s) (hlt : ∀ q, u.ownBlock = some q → q < s) : Apart2 v1 u := fun q hq e => by
  rcases hat with hat | hat
  · exact h q (hat ▸ hq) e
  · rw [hat] at hq
    injection hq with hq
    have := hlt q e
    omega
theorem apart_r {v u u1 : Value} {s : Nat} (h : Apart2 v u) (hat : u1.ownBlock = u.ownBlock ∨ u1.ownBlock = some s) (hlt : ∀ q, v.ownBlock = some q → q < s) : Apart2 v u1 := fun q hq e => by
  rcases hat with hat | hat
  · exact h q hq (hat ▸ e)
  · rw [hat] at e
    injection e with e
    have := hlt q hq
    omega
theorem infoU32 : (Try.prog.info? 23).map (fun i => (i.zero, i.size, i.bytes)) = some (some (.int .u32 0), 1, 4) := by kernel_rfl
theorem infoTest : (Try.prog.info? 69).map (fun i => (i.zero, i.size, i.bytes)) = some (some (.agg #[.int .i64 0, .bool false, .int .u32 0, .int .u32 0]), 4, 24) := by kernel_rfl
theorem plain_test : kTest.Plain := fun _ _ _ _ _ _ h => h
/-- A row of one element, just laid. -/
theorem rule_row {e : TypeId} {w : World} {ok : Nat → Prop} {r : Rule} {cs : List Value} (h : kRule.K w ok r cs) (hok : ok w.heap.size) : kRule.Row (w.alloc (.cells cs.toArray e)) ok (some ⟨w.heap.size, 0, none⟩) [r] :=
  (own_row (Kd.Own.lit (d := kRule) (e := e) (base := 0) (n := 1) rfl (Kd.Reps.single h) (Nat.zero_le _) (by unfold maxLen; simp) hok)).2.2
theorem infoRule : (Try.prog.info? 51).map (fun i => (i.zero, i.size, i.bytes)) = some (some (.agg #[.slice none 0 0, .int .u32 0, .int .u32 0, .slice none 0 0, .int .u32 0]), 5, 64) := by kernel_rfl
set_option maxRecDepth 100000 in
set_option maxHeartbeats 8000000 in
theorem c_copied (x : Policy) (ok : Nat → Prop) (cs : List Value) (w : World) (hK : kPolicy.K w ok x cs) (hov : overP x = false) :
    Calls Try.prog 13 #[.agg cs.toArray] w fun e w' => ∃ ds : List Value, e = .returned (.agg ds.toArray) ∧ kPolicy.K w' (fun q => w.heap.size ≤ q) x ds ∧ Below w.heap.size w w' := by
  obtain ⟨A0, c0, rfl, ⟨l0, m0, r0⟩, g1⟩ := kPolicy.opn hK
  obtain ⟨hn, hov'⟩ := overP_no hov
  obtain ⟨rules, els⟩ := x
  simp only at *
  have HOV := Lib.hid hov'
  obtain ⟨n, hsz⟩ : ∃ n, w.heap.size = n := ⟨_, rfl⟩
  have HSZ := Lib.hid hsz
  have HR0 := Lib.hid r0
  have HB0 := Lib.hid (Below.refl w.heap.size w)
  clear hov hov' l0 m0 hK r0
  go_enter Try.func13, Try.ntmps13
  go_wp2_with fail
  obtain ⟨W1, hW1⟩ : ∃ W, W = (((w.alloc (.cells #[.slice A0 rules.length c0, .int .u32 els] 25)).alloc (.cells #[.slice none 0 0, .int .u32 0] 25)).alloc (.cells #[.slice none 0 0, .int .u32 els] 25)) := ⟨_, rfl⟩
  have hBW1 : Below w.heap.size w W1 := by rw [hW1]; exact below_al (below_al (below_al (Below.refl _ _) _) _) _
  have hs1 : W1.heap.size = n + 3 := by rw [hW1]; simp [HSZ.out]
  have hR1 : W1.heap[n + 1]? = some (.cells #[.slice none 0 0, .int .u32 0] 25) := by
    rw [hW1]
    have h := blk_al (blk_new (w.alloc (.cells #[.slice A0 rules.length c0, .int .u32 els] 25)) (.cells #[.slice none 0 0, .int .u32 0] 25)) (.cells #[.slice none 0 0, .int .u32 els] 25)
    rwa [World.size_alloc, HSZ.out] at h
  have hR2 : W1.heap[n + 2]? = some (.cells #[.slice none 0 0, .int .u32 els] 25) := by
    rw [hW1]
    have h := blk_new ((w.alloc (.cells #[.slice A0 rules.length c0, .int .u32 els] 25)).alloc (.cells #[.slice none 0 0, .int .u32 0] 25)) (.cells #[.slice none 0 0, .int .u32 els] 25)
    rwa [World.size_alloc, World.size_alloc, HSZ.out] at h
  rw [← hW1]
  clear hW1
  have HBW1 := Lib.hid hBW1
  have HS1 := Lib.hid hs1
  have HR1 := Lib.hid hR1
  have HR2 := Lib.hid hR2
  clear hBW1 hs1 hR1 hR2
  go_loopw [5, 12] (fun _ i wr => ∃ (k : Nat) (v : Value) (zs : List Rule), k ≤ rules.length ∧ i = .int .i64 k ∧ Hid (zs = rules.take k) ∧ Hid (wr.heap[n + 1]? = some (.cells #[.slice none 0 0, .int .u32 0] 25)) ∧ Hid (wr.heap[n + 2]? = some (.cells #[v, .int .u32 els] 25)) ∧ Below w.heap.size w wr ∧ n + 3 ≤ wr.heap.size ∧ kRule.Own 51 wr (n + 3) (fun q => n + 3 ≤ q) v zs) (fun _ i _ => rules.length - (intOf i).toNat)
  case atStart => exact ⟨0, _, [], Nat.zero_le _, rfl, rfl, HR1.out, HR2.out, HBW1.out, Nat.le_of_eq HS1.out.symm, Kd.Own.nil _ _ _ _ _⟩
  case round =>
    obtain ⟨k, v, zs, hk, rfl, HZS, hr1, hr2, hB, hs, hO⟩ := hrel
    by_cases hlt : k < rules.length
    · obtain ⟨ad, B0, d0, B3, d3, rfl, hok, ⟨h0, h1, h2, h3, h4⟩, e0, e1, e2, e3, e4⟩ := kRule.at_ (HR0.out.bel hB) hlt
      obtain ⟨ha50, ht50⟩ := HOV.out k hlt
      go_wp2_with fail
      clear e0 e1 e2 e3 e4
      obtain ⟨m, hm⟩ : ∃ m, wr.heap.size = m := ⟨_, rfl⟩
      have hkr := kRule.mk (x := rules[k]) h0 h1 h2 h3 h4
      obtain ⟨r, hr⟩ : ∃ r, rules[k] = r := ⟨_, rfl⟩
      rw [hr] at h0 h1 h2 h3 h4 ha50 ht50 ⊢
      have HRK := Lib.hid hr
      clear hkr hr
      obtain ⟨archs, lo, hi, tests, word⟩ := r
      simp only at h0 h1 h2 h3 h4 ha50 ht50 ⊢
      have hB5 := below_al hB (.cells #[.slice B0 archs.length d0, .int .u32 lo, .int .u32 hi, .slice B3 tests.length d3, .int .u32 word] 51)
      have hL5 := blk_new wr (.cells #[.slice B0 archs.length d0, .int .u32 lo, .int .u32 hi, .slice B3 tests.length d3, .int .u32 word] 51)
      have hA5 := h0.2.2.bel (below_al (Below.refl _ _) (.cells #[.slice B0 archs.length d0, .int .u32 lo, .int .u32 hi, .slice B3 tests.length d3, .int .u32 word] 51))
      have hT5 := h3.2.2.bel (below_al (Below.refl _ _) (.cells #[.slice B0 archs.length d0, .int .u32 lo, .int .u32 hi, .slice B3 tests.length d3, .int .u32 word] 51))
      have hz5 : (wr.alloc (.cells #[.slice B0 archs.length d0, .int .u32 lo, .int .u32 hi, .slice B3 tests.length d3, .int .u32 word] 51)).heap.size = m + 1 := by rw [World.size_alloc, hm]
      have hBr5 := below_al (Below.refl wr.heap.size wr) (.cells #[.slice B0 archs.length d0, .int .u32 lo, .int .u32 hi, .slice B3 tests.length d3, .int .u32 word] 51)
      obtain ⟨W5, hW5⟩ : ∃ W, W = (wr.alloc (.cells #[.slice B0 archs.length d0, .int .u32 lo, .int .u32 hi, .slice B3 tests.length d3, .int .u32 word] 51)) := ⟨_, rfl⟩
      rw [← hW5] at hB5 hL5 hA5 hT5 hz5 hBr5 ⊢
      rw [hm] at hL5 hs hBr5 ⊢
      clear hW5
      have HM := Lib.hid hm
      have HL5 := Lib.hid hL5
      have HA5 := Lib.hid hA5
      have HT5 := Lib.hid hT5
      have HZ5 := Lib.hid hz5
      have HB5 := Lib.hid hB5
      have HBR5 := Lib.hid hBr5
      have HO := Lib.hid hO
      have HRA := Lib.hid h0
      have HRT := Lib.hid h3
      clear hm hL5 hA5 hT5 hz5 hB5 hBr5 h0 h3 hB hok hO hsz
      have c0 := blk_cell HL5.out 0
      have c3 := blk_cell HL5.out 3
      simp only [List.getElem?_toArray, List.getElem?_cons_zero, List.getElem?_cons_succ] at c0 c3
      refine wp_region_till (fun w' => w'.cell? ⟨m, 0, none⟩ = some (.slice B0 archs.length d0) ∧ w'.cell? ⟨m, 3, none⟩ = some (.slice B3 tests.length d3)) (fun j => 9 ≤ j && j ≤ 11) 12 _ rfl rfl (by kernel_rfl) ⟨c0, c3⟩ (fun hH => ?_)
      refine anyTill_take (i := 1) (oi := ⟨some 17, _, _, _, _, _⟩) (v := ?_) rfl (by kernel_rfl) (by kernel_rfl) (by kernel_rfl) (by kernel_rfl) (fun _ _ _ h => h) (Or.inl ⟨by rfl, ?_⟩) (by assumption) ?_
      rotate_left
      · intro w hSw
        (try dsimp only at hSw)
        go_simp
        try with_reducible rfl
      (try simp only [Act.put, List.setIfInBounds_toArray, List.set_cons_zero, List.set_cons_succ])
      refine anyTill_take (i := 2) (oi := ⟨some 18, _, _, _, _, _⟩) (v := ?_) rfl (by kernel_rfl) (by kernel_rfl) (by kernel_rfl) (by kernel_rfl) (fun _ _ _ h => h) (Or.inl ⟨by rfl, ?_⟩) (by assumption) ?_
      rotate_left
      · intro w hSw
        (try dsimp only at hSw)
        go_simp
        try with_reducible rfl
      (try simp only [Act.put, List.setIfInBounds_toArray, List.set_cons_zero, List.set_cons_succ])
      refine anyTill_take (i := 5) (oi := ⟨some 21, _, _, _, _, _⟩) (v := ?_) rfl (by kernel_rfl) (by kernel_rfl) (by kernel_rfl) (by kernel_rfl) (fun _ _ _ h => h) (Or.inl ⟨by rfl, ?_⟩) (by assumption) ?_
      rotate_left
      · intro w hSw
        (try dsimp only at hSw)
        go_simp
        try with_reducible rfl
      (try simp only [Act.put, List.setIfInBounds_toArray, List.set_cons_zero, List.set_cons_succ])
      refine anyTill_take (i := 6) (oi := ⟨some 22, _, _, _, _, _⟩) (v := ?_) rfl (by kernel_rfl) (by kernel_rfl) (by kernel_rfl) (by kernel_rfl) (fun _ _ _ h => h) (Or.inl ⟨by rfl, ?_⟩) (by assumption) ?_
      rotate_left
      · intro w hSw
        (try dsimp only at hSw)
        go_simp
        try with_reducible rfl
      (try simp only [Act.put, List.setIfInBounds_toArray, List.set_cons_zero, List.set_cons_succ])
      have hcp : Cop W5 m (.slice B0 archs.length d0) (.slice B3 tests.length d3) W5.drew := ⟨below_d1 (Below.refl _ _), Nat.le_of_eq HZ5.out.symm, hH.1, hH.2⟩
      clear hH c0 c3
      have HC := Lib.hid hcp
      clear hcp
      generalize W5.drew = Wc0 at HC ⊢
      refine anyTill_each (rs := [0, 4]) (by kernel_rfl) (by simp) ?_
      refine (eachTill_cons (o := ⟨some 16, _, _, _, _, _⟩) rfl (fun K hK => ?_) (eachTill_cons (o := ⟨some 20, _, _, _, _, _⟩) rfl (fun K hK => ?_) eachTill_nil))
      · obtain ⟨s, hsw⟩ : ∃ s, Wc0.heap.size = s := ⟨_, rfl⟩
        go_simp
        have HC1 := Lib.hid (HC.out.alloc (.cells #[] 23))
        have HA := Lib.hid (own_empty (Kd.int .u32) 23 Wc0 (m + 1) (fun _ => True) s hsw (by have := HC.out.size; omega) trivial)
        obtain ⟨vA, hvA⟩ : ∃ v : Value, v = .slice (some ⟨s, 0, none⟩) 0 0 := ⟨_, rfl⟩
        refine hK.out _ _ (.inr ⟨HC1.out.c0, HC1.out.c3⟩) (fun hcl => ?_)
        (try simp only [Act.put, List.setIfInBounds_toArray, List.set_cons_zero, List.set_cons_succ])
        clear hcl hK K HC hsw
        have HC := HC1
        clear HC1
        rw [← hvA] at HA
        rw [← hvA]
        clear hvA
        generalize (Wc0.alloc (.cells #[] 23)) = Wc1 at *
        refine anyTill_each (rs := [3, 4]) (by kernel_rfl) (by simp) ?_
        refine (eachTill_cons (o := ⟨some 19, _, _, _, _, _⟩) rfl (fun K hK => ?_) (eachTill_cons (o := ⟨some 20, _, _, _, _, _⟩) rfl (fun K hK => ?_) eachTill_nil))
        · have hbel : Below W5.heap.size W5 Wc1 := by rw [HZ5.out]; exact HC.out.bel
          have hrow := Kd.Row.plain (plain_int .u32) (HA5.out.bel hbel)
          refine step_append_kd rfl (.tmp 16) (.tmp 18) 48 23 (.int .u32 0) 4 rfl Try.underlying48 infoU32 rfl vA [] B0 archs.length d0 archs rfl rfl HA.out rfl hrow (fun _ _ h => h) (by unfold maxLen; simp; omega) (by simp; omega) (by have := HC.out.size; omega) (fun _ _ => trivial) ?_
          intro uA Wc2 hO1 hg1 hat1
          rw [List.nil_append] at hO1
          have HC1 := Lib.hid (HC.out.grown hg1 HA.out.le)
          refine hK.out _ _ (.inr ⟨HC1.out.c0, HC1.out.c3⟩) (fun hcl => ?_)
          (try simp only [Act.put, List.setIfInBounds_toArray, List.set_cons_zero, List.set_cons_succ])
          have HA1 := Lib.hid hO1
          clear hcl hK K HC hO1 hg1 hat1 HA hbel hrow
          have HC := HC1
          have HA := HA1
          clear HC1 HA1
          refine anyTill_take (i := 8) (oi := ⟨some 24, _, _, _, _, _⟩) (v := ?_) rfl (by kernel_rfl) (by kernel_rfl) (by kernel_rfl) (by kernel_rfl) (fun _ _ _ h => h) (Or.inl ⟨by rfl, ?_⟩) ⟨HC.out.c0, HC.out.c3⟩ ?_
          rotate_left
          · intro w hSw
            (try dsimp only at hSw)
            go_simp
            try with_reducible rfl
          (try simp only [Act.put, List.setIfInBounds_toArray, List.set_cons_zero, List.set_cons_succ])
          refine anyTill_each (rs := [4]) (by kernel_rfl) (by simp) ?_
          refine (eachTill_cons (o := ⟨some 20, _, _, _, _, _⟩) rfl (fun K hK => ?_) eachTill_nil)
          obtain ⟨s, hsw⟩ : ∃ s, Wc2.heap.size = s := ⟨_, rfl⟩
          go_simp
          have HC1 := Lib.hid (HC.out.alloc (.cells #[] 69))
          have HT := Lib.hid (own_empty kTest 69 Wc2 (m + 1) (fun _ => True) s hsw (by have := HC.out.size; omega) trivial)
          obtain ⟨vT, hvT⟩ : ∃ v : Value, v = .slice (some ⟨s, 0, none⟩) 0 0 := ⟨_, rfl⟩
          have HA1 := Lib.hid (HA.out.al (.cells #[] 69))
          have HD : Hid (Apart2 uA vT) := by
            intro q hq e
            have hlt := HA.out.lt_ q hq
            rw [hvT] at e
            simp only [Value.ownBlock, Option.some.injEq] at e
            omega
          clear HA
          have HA := HA1
          clear HA1
          refine hK.out _ _ (.inr ⟨HC1.out.c0, HC1.out.c3⟩) (fun hcl => ?_)
          (try simp only [Act.put, List.setIfInBounds_toArray, List.set_cons_zero, List.set_cons_succ])
          clear hcl hK K HC hsw
          have HC := HC1
          clear HC1
          rw [← hvT] at HT
          rw [← hvT]
          clear hvT
          generalize (Wc2.alloc (.cells #[] 69)) = Wc3 at *
          refine anyTill_each (rs := [7]) (by kernel_rfl) (by simp) ?_
          refine (eachTill_cons (o := ⟨some 23, _, _, _, _, _⟩) rfl (fun K hK => ?_) eachTill_nil)
          have hbel : Below W5.heap.size W5 Wc3 := by rw [HZ5.out]; exact HC.out.bel
          have hrow := Kd.Row.plain (plain_test) (HT5.out.bel hbel)
          refine step_append_kd rfl (.tmp 20) (.tmp 22) 49 69 (.agg #[.int .i64 0, .bool false, .int .u32 0, .int .u32 0]) 24 rfl Try.underlying49 infoTest rfl vT [] B3 tests.length d3 tests rfl rfl HT.out rfl hrow (fun _ _ h => h) (by unfold maxLen; simp; omega) (by simp; omega) (by have := HC.out.size; omega) (fun _ _ => trivial) ?_
          intro uT Wc4 hO1 hg1 hat1
          rw [List.nil_append] at hO1
          have HC1 := Lib.hid (HC.out.grown hg1 HT.out.le)
          have HA1 := Lib.hid (HA.out.stay (plain_int .u32) hg1 (fun q hq e => HD.out q hq e))
          have HD1 := Lib.hid (apart_r HD.out hat1 HA.out.lt_)
          clear HA HD
          have HA := HA1
          clear HA1
          have HD := HD1
          clear HD1
          refine hK.out _ _ (.inr ⟨HC1.out.c0, HC1.out.c3⟩) (fun hcl => ?_)
          (try simp only [Act.put, List.setIfInBounds_toArray, List.set_cons_zero, List.set_cons_succ])
          have HT1 := Lib.hid hO1
          clear hcl hK K HC hO1 hg1 hat1 HT hbel hrow
          have HC := HC1
          have HT := HT1
          clear HC1 HT1
          obtain ⟨A9, c9, rfl, -, -⟩ := HA.out.form
          obtain ⟨A8, c8, rfl, -, -⟩ := HT.out.form
          have hb := (HC.out.bel.block m (by omega)).trans HL5.out
          have hz := HC.out.size
          have HBc := Lib.hid HC.out.bel
          have c0 := HC.out.c0
          have f0 := blk_free hb 0
          have hgA : ∀ q, (Value.slice A9 archs.length c9).ownBlock = some q → q ≠ m := fun q hq e => by have := HA.out.le q hq; omega
          have hgT : ∀ q, (Value.slice A8 tests.length c8).ownBlock = some q → q ≠ m := fun q hq e => by have := HT.out.le q hq; omega
          have HA9 := Lib.hid (HA.out.shift (ok' := fun q => m + 1 ≤ q) (plain_int .u32) (fun q hq => ⟨Below.heap_setCell Wc4 ⟨m, 0, none⟩ (.slice A9 archs.length c9) q (hgA q hq), HA.out.le q hq⟩))
          have HT9 := Lib.hid (HT.out.shift (ok' := fun q => m + 1 ≤ q) plain_test (fun q hq => ⟨Below.heap_setCell Wc4 ⟨m, 0, none⟩ (.slice A9 archs.length c9) q (hgT q hq), HT.out.le q hq⟩))
          have HB9 := Lib.hid (HBc.out.mono (Nat.le_succ m) |>.setCell (p := ⟨m, 0, none⟩) (Nat.le_refl m) (.slice A9 archs.length c9))
          have HR9 := Lib.hid (blk_set (j := 0) hb (.slice A9 archs.length c9))
          have HGA := Lib.hid hgA
          have HGT := Lib.hid hgT
          clear hgA hgT
          refine anyTill_each (rs := [9]) (by kernel_rfl) (by simp) ?_
          refine eachTill_cons (o := ⟨none, _, _, _, _, _⟩) rfl (fun K hK => ?_) eachTill_nil
          clear hb
          go_simp
          refine hK.out _ _ (.inl rfl) (fun hcl => ?_)
          (try simp only [Act.put, List.setIfInBounds_toArray, List.set_cons_zero, List.set_cons_succ])
          clear hcl hK K c0 f0 hz HA HT HC HD HBc
          generalize (Wc4.setCell ⟨m, 0, none⟩ (.slice A9 archs.length c9)) = W9 at *
          refine anyTill_each (rs := [10]) (by kernel_rfl) (by simp) ?_
          refine eachTill_cons (o := ⟨some 25, _, _, _, _, _⟩) rfl (fun K hK => ?_) eachTill_nil
          go_simp
          refine hK.out _ _ (.inl rfl) (fun hcl => ?_)
          (try simp only [Act.put, List.setIfInBounds_toArray, List.set_cons_zero, List.set_cons_succ])
          clear hcl hK K
          have c3 : W9.cell? ⟨m, 3, none⟩ = some (.slice B3 tests.length d3) := blk_cell HR9.out 3
          have f3 := blk_free HR9.out 3
          refine anyTill_each (rs := [11]) (by kernel_rfl) (by simp) ?_
          refine eachTill_cons (o := ⟨none, _, _, _, _, _⟩) rfl (fun K hK => ?_) eachTill_nil
          go_simp
          refine hK.out _ _ (.inl rfl) (fun hcl => ?_)
          (try simp only [Act.put, List.setIfInBounds_toArray, List.set_cons_zero, List.set_cons_succ])
          clear hcl hK K
          refine anyTill_done (by kernel_rfl) ?_ _
          have HAF := Lib.hid (HA9.out.shift (ok' := fun q => m + 1 ≤ q) (plain_int .u32) (fun q hq => ⟨Below.heap_setCell W9 ⟨m, 3, none⟩ (.slice A8 tests.length c8) q (HGA.out q hq), HA9.out.le q hq⟩))
          have HTF := Lib.hid (HT9.out.shift (ok' := fun q => m + 1 ≤ q) plain_test (fun q hq => ⟨Below.heap_setCell W9 ⟨m, 3, none⟩ (.slice A8 tests.length c8) q (HGT.out q hq), HT9.out.le q hq⟩))
          have HBF := Lib.hid (HB9.out.setCell (p := ⟨m, 3, none⟩) (Nat.le_refl m) (.slice A8 tests.length c8))
          have hRF := blk_set (j := 3) HR9.out (.slice A8 tests.length c8)
          simp only [List.setIfInBounds_toArray, List.set_cons_zero, List.set_cons_succ] at hRF
          have HRF := Lib.hid hRF
          clear hRF c3 f3 HA9 HT9 HB9 HR9 HGA HGT
          generalize (W9.setCell ⟨m, 3, none⟩ (.slice A8 tests.length c8)) = WF at *
          obtain ⟨Av, cv, rfl, -, -⟩ := HO.out.form
          have hk50 : zs.length ≤ 50 := by rw [HZS.out, List.length_take]; omega
          have hbF : Below wr.heap.size wr WF := by rw [HM.out]; exact HBR5.out.trans HBF.out
          have hbW : Below w.heap.size w WF := HB5.out.trans (HBF.out.mono (by rw [HSZ.out]; omega))
          have hOF := HO.out.bel hbF
          have hvm : ∀ q, (Value.slice Av zs.length cv).ownBlock = some q → q < m := fun q hq => by have := HO.out.lt_ q hq; rwa [HM.out] at this
          have hRr : Hid (kRule.K WF (fun q => m + 1 ≤ q) ⟨archs, lo, hi, tests, word⟩ [.slice A9 archs.length c9, .int .u32 lo, .int .u32 hi, .slice A8 tests.length c8, .int .u32 word]) := kRule.mk (x := ⟨archs, lo, hi, tests, word⟩) (own_row HAF.out) h1 h2 (own_row HTF.out) h4
          have hsF := hbW.size
          have hmF : m + 1 ≤ WF.heap.size := by have := blk_lt HRF.out; omega
          have hlit := rule_row (e := 51) hRr.out (by exact hmF)
          have r2 := blk_bel hbF hr2.out
          have r1 := blk_bel hbF hr1.out
          have t0 : WF.cell? ⟨n + 1 + 1, 0, none⟩ = some (.slice Av zs.length cv) := blk_cell r2 0
          have x0 : WF.cell? ⟨m, 0, none⟩ = some (.slice A9 archs.length c9) := blk_cell HRF.out 0
          have x1 : WF.cell? ⟨m, 1, none⟩ = some (.int .u32 lo) := blk_cell HRF.out 1
          have x2 : WF.cell? ⟨m, 2, none⟩ = some (.int .u32 hi) := blk_cell HRF.out 2
          have x3 : WF.cell? ⟨m, 3, none⟩ = some (.slice A8 tests.length c8) := blk_cell HRF.out 3
          have x4 : WF.cell? ⟨m, 4, none⟩ = some (.int .u32 word) := blk_cell HRF.out 4
          have hne : ∀ (x : Rule) (cs : List Value), kRule.K (WF.alloc (.cells #[.slice A9 archs.length c9, .int .u32 lo, .int .u32 hi, .slice A8 tests.length c8, .int .u32 word] 51)) (fun q => m + 1 ≤ q) x cs → kRule.K (WF.alloc (.cells #[.slice A9 archs.length c9, .int .u32 lo, .int .u32 hi, .slice A8 tests.length c8, .int .u32 word] 51)) (fun q => n + 3 ≤ q ∧ some q ≠ (Value.slice Av zs.length cv).ownBlock) x cs := fun x cs h => kRule.mono (fun q hq => ⟨by omega, fun e => by have := hvm q e.symm; omega⟩) h
          have HNE := Lib.hid hne
          have HVM := Lib.hid hvm
          have HR1' := Lib.hid r1
          have HR2' := Lib.hid r2
          have HOF := Lib.hid (hOF.al (.cells #[.slice A9 archs.length c9, .int .u32 lo, .int .u32 hi, .slice A8 tests.length c8, .int .u32 word] 51))
          have HBW := Lib.hid hbW
          have HLIT := Lib.hid hlit
          clear hne hvm r1 r2 hOF hbW hbF hlit HRF HBF HAF HTF HO HBR5 HB5 HA5 HT5 HL5 HZ5 hr1 hr2 hRr HRA HRT
          go_wp2_with (at_builtin; refine wp_append_kd rfl _ _ 22 51 _ 64 rfl Try.underlying22 infoRule rfl (.slice Av zs.length cv) zs (some ⟨WF.heap.size, 0, none⟩) 1 1 [⟨archs, lo, hi, tests, word⟩] rfl rfl HOF.out rfl HLIT.out HNE.out (by unfold maxLen; omega) (by omega) (by rw [World.size_alloc]; omega) (fun q hq => by rw [World.size_alloc] at hq; omega) ?_; intro v1 w3 hO3 hg3 hat3; have hq2 := (hg3.block (n + 2) (by rw [World.size_alloc]; omega) (fun e => by have := HOF.out.le _ e.symm; omega)).trans (blk_al HR2'.out _); have hq1 := (hg3.block (n + 1) (by rw [World.size_alloc]; omega) (fun e => by have := HOF.out.le _ e.symm; omega)).trans (blk_al HR1'.out _); have t0' : w3.cell? ⟨n + 1 + 1, 0, none⟩ = some (.slice Av zs.length cv) := blk_cell hq2 0; have f0' : w3.frozen? ⟨n + 1 + 1, 0, none⟩ = false := blk_free hq2 0; obtain ⟨Av1, cv1, rfl, -, -⟩ := hO3.form; have HO3 := Lib.hid hO3; have HG3 := Lib.hid hg3; have HQ2 := Lib.hid hq2; have HQ1 := Lib.hid hq1; clear hO3 hg3 hq1 hq2 hat3 t0 x0 x1 x2 x3 x4)
          have hfin : Hid (zs ++ [⟨archs, lo, hi, tests, word⟩] = rules.take (k + 1)) := by rw [HZS.out, List.take_succ_eq_append_getElem hlt, HRK.out]; exact rfl
          have hO4 := HO3.out
          simp only [List.length_append, List.length_cons, List.length_nil, Nat.zero_add] at hO4
          have hB4 : Below w.heap.size w w3 := (HBW.out.alloc (by rw [HSZ.out]; omega) _).grown HG3.out (by rw [World.size_alloc, HSZ.out]; omega) (fun q hq => by have := HOF.out.le q hq; rw [HSZ.out]; omega)
          have hs3 := HG3.out.size
          rw [World.size_alloc] at hs3
          go_roundw
          case rel =>
            refine ⟨k + 1, _, _, by omega, by go_num, hfin, ?_, blk_set (j := 0) HQ2.out _, ?_, ?_, hO4.far (p := ⟨n + 2, 0, none⟩) (fun q hq => by show q ≠ n + 2; omega) _⟩
            · exact blk_far HQ1.out (p := ⟨n + 2, 0, none⟩) (by show n + 1 ≠ n + 2; omega) _
            · exact hB4.setCell (p := ⟨n + 2, 0, none⟩) (by show w.heap.size ≤ n + 2; rw [HSZ.out]; omega) _
            · rw [World.size_setCell]; omega
          case measure => simp [intOf]; omega
        · obtain ⟨s, hsw⟩ : ∃ s, Wc1.heap.size = s := ⟨_, rfl⟩
          go_simp
          have HC1 := Lib.hid (HC.out.alloc (.cells #[] 69))
          have HT := Lib.hid (own_empty kTest 69 Wc1 (m + 1) (fun _ => True) s hsw (by have := HC.out.size; omega) trivial)
          obtain ⟨vT, hvT⟩ : ∃ v : Value, v = .slice (some ⟨s, 0, none⟩) 0 0 := ⟨_, rfl⟩
          have HA1 := Lib.hid (HA.out.al (.cells #[] 69))
          have HD : Hid (Apart2 vA vT) := by
            intro q hq e
            have hlt := HA.out.lt_ q hq
            rw [hvT] at e
            simp only [Value.ownBlock, Option.some.injEq] at e
            omega
          clear HA
          have HA := HA1
          clear HA1
          refine hK.out _ _ (.inr ⟨HC1.out.c0, HC1.out.c3⟩) (fun hcl => ?_)
          (try simp only [Act.put, List.setIfInBounds_toArray, List.set_cons_zero, List.set_cons_succ])
          clear hcl hK K HC hsw
          have HC := HC1
          clear HC1
          rw [← hvT] at HT
          rw [← hvT]
          clear hvT
          generalize (Wc1.alloc (.cells #[] 69)) = Wc2 at *
          refine anyTill_each (rs := [3]) (by kernel_rfl) (by simp) ?_
          refine (eachTill_cons (o := ⟨some 19, _, _, _, _, _⟩) rfl (fun K hK => ?_) eachTill_nil)
          have hbel : Below W5.heap.size W5 Wc2 := by rw [HZ5.out]; exact HC.out.bel
          have hrow := Kd.Row.plain (plain_int .u32) (HA5.out.bel hbel)
          refine step_append_kd rfl (.tmp 16) (.tmp 18) 48 23 (.int .u32 0) 4 rfl Try.underlying48 infoU32 rfl vA [] B0 archs.length d0 archs rfl rfl HA.out rfl hrow (fun _ _ h => h) (by unfold maxLen; simp; omega) (by simp; omega) (by have := HC.out.size; omega) (fun _ _ => trivial) ?_
          intro uA Wc3 hO1 hg1 hat1
          rw [List.nil_append] at hO1
          have HC1 := Lib.hid (HC.out.grown hg1 HA.out.le)
          have HT1 := Lib.hid (HT.out.stay (plain_test) hg1 (fun q hq e => HD.out q e hq))
          have HD1 := Lib.hid (apart_l HD.out hat1 HT.out.lt_)
          clear HT HD
          have HT := HT1
          clear HT1
          have HD := HD1
          clear HD1
          refine hK.out _ _ (.inr ⟨HC1.out.c0, HC1.out.c3⟩) (fun hcl => ?_)
          (try simp only [Act.put, List.setIfInBounds_toArray, List.set_cons_zero, List.set_cons_succ])
          have HA1 := Lib.hid hO1
          clear hcl hK K HC hO1 hg1 hat1 HA hbel hrow
          have HC := HC1
          have HA := HA1
          clear HC1 HA1
          refine anyTill_take (i := 8) (oi := ⟨some 24, _, _, _, _, _⟩) (v := ?_) rfl (by kernel_rfl) (by kernel_rfl) (by kernel_rfl) (by kernel_rfl) (fun _ _ _ h => h) (Or.inl ⟨by rfl, ?_⟩) ⟨HC.out.c0, HC.out.c3⟩ ?_
          rotate_left
          · intro w hSw
            (try dsimp only at hSw)
            go_simp
            try with_reducible rfl
          (try simp only [Act.put, List.setIfInBounds_toArray, List.set_cons_zero, List.set_cons_succ])
          refine anyTill_each (rs := [7]) (by kernel_rfl) (by simp) ?_
          refine (eachTill_cons (o := ⟨some 23, _, _, _, _, _⟩) rfl (fun K hK => ?_) eachTill_nil)
          have hbel : Below W5.heap.size W5 Wc3 := by rw [HZ5.out]; exact HC.out.bel
          have hrow := Kd.Row.plain (plain_test) (HT5.out.bel hbel)
          refine step_append_kd rfl (.tmp 20) (.tmp 22) 49 69 (.agg #[.int .i64 0, .bool false, .int .u32 0, .int .u32 0]) 24 rfl Try.underlying49 infoTest rfl vT [] B3 tests.length d3 tests rfl rfl HT.out rfl hrow (fun _ _ h => h) (by unfold maxLen; simp; omega) (by simp; omega) (by have := HC.out.size; omega) (fun _ _ => trivial) ?_
          intro uT Wc4 hO1 hg1 hat1
          rw [List.nil_append] at hO1
          have HC1 := Lib.hid (HC.out.grown hg1 HT.out.le)
          have HA1 := Lib.hid (HA.out.stay (plain_int .u32) hg1 (fun q hq e => HD.out q hq e))
          have HD1 := Lib.hid (apart_r HD.out hat1 HA.out.lt_)
          clear HA HD
          have HA := HA1
          clear HA1
          have HD := HD1
          clear HD1
          refine hK.out _ _ (.inr ⟨HC1.out.c0, HC1.out.c3⟩) (fun hcl => ?_)
          (try simp only [Act.put, List.setIfInBounds_toArray, List.set_cons_zero, List.set_cons_succ])
          have HT1 := Lib.hid hO1
          clear hcl hK K HC hO1 hg1 hat1 HT hbel hrow
          have HC := HC1
          have HT := HT1
          clear HC1 HT1
          obtain ⟨A9, c9, rfl, -, -⟩ := HA.out.form
          obtain ⟨A8, c8, rfl, -, -⟩ := HT.out.form
          have hb := (HC.out.bel.block m (by omega)).trans HL5.out
          have hz := HC.out.size
          have HBc := Lib.hid HC.out.bel
          have c0 := HC.out.c0
          have f0 := blk_free hb 0
          have hgA : ∀ q, (Value.slice A9 archs.length c9).ownBlock = some q → q ≠ m := fun q hq e => by have := HA.out.le q hq; omega
          have hgT : ∀ q, (Value.slice A8 tests.length c8).ownBlock = some q → q ≠ m := fun q hq e => by have := HT.out.le q hq; omega
          have HA9 := Lib.hid (HA.out.shift (ok' := fun q => m + 1 ≤ q) (plain_int .u32) (fun q hq => ⟨Below.heap_setCell Wc4 ⟨m, 0, none⟩ (.slice A9 archs.length c9) q (hgA q hq), HA.out.le q hq⟩))
          have HT9 := Lib.hid (HT.out.shift (ok' := fun q => m + 1 ≤ q) plain_test (fun q hq => ⟨Below.heap_setCell Wc4 ⟨m, 0, none⟩ (.slice A9 archs.length c9) q (hgT q hq), HT.out.le q hq⟩))
          have HB9 := Lib.hid (HBc.out.mono (Nat.le_succ m) |>.setCell (p := ⟨m, 0, none⟩) (Nat.le_refl m) (.slice A9 archs.length c9))
          have HR9 := Lib.hid (blk_set (j := 0) hb (.slice A9 archs.length c9))
          have HGA := Lib.hid hgA
          have HGT := Lib.hid hgT
          clear hgA hgT
          refine anyTill_each (rs := [9]) (by kernel_rfl) (by simp) ?_
          refine eachTill_cons (o := ⟨none, _, _, _, _, _⟩) rfl (fun K hK => ?_) eachTill_nil
          clear hb
          go_simp
          refine hK.out _ _ (.inl rfl) (fun hcl => ?_)
          (try simp only [Act.put, List.setIfInBounds_toArray, List.set_cons_zero, List.set_cons_succ])
          clear hcl hK K c0 f0 hz HA HT HC HD HBc
          generalize (Wc4.setCell ⟨m, 0, none⟩ (.slice A9 archs.length c9)) = W9 at *
          refine anyTill_each (rs := [10]) (by kernel_rfl) (by simp) ?_
          refine eachTill_cons (o := ⟨some 25, _, _, _, _, _⟩) rfl (fun K hK => ?_) eachTill_nil
          go_simp
          refine hK.out _ _ (.inl rfl) (fun hcl => ?_)
          (try simp only [Act.put, List.setIfInBounds_toArray, List.set_cons_zero, List.set_cons_succ])
          clear hcl hK K
          have c3 : W9.cell? ⟨m, 3, none⟩ = some (.slice B3 tests.length d3) := blk_cell HR9.out 3
          have f3 := blk_free HR9.out 3
          refine anyTill_each (rs := [11]) (by kernel_rfl) (by simp) ?_
          refine eachTill_cons (o := ⟨none, _, _, _, _, _⟩) rfl (fun K hK => ?_) eachTill_nil
          go_simp
          refine hK.out _ _ (.inl rfl) (fun hcl => ?_)
          (try simp only [Act.put, List.setIfInBounds_toArray, List.set_cons_zero, List.set_cons_succ])
          clear hcl hK K
          refine anyTill_done (by kernel_rfl) ?_ _
          have HAF := Lib.hid (HA9.out.shift (ok' := fun q => m + 1 ≤ q) (plain_int .u32) (fun q hq => ⟨Below.heap_setCell W9 ⟨m, 3, none⟩ (.slice A8 tests.length c8) q (HGA.out q hq), HA9.out.le q hq⟩))
          have HTF := Lib.hid (HT9.out.shift (ok' := fun q => m + 1 ≤ q) plain_test (fun q hq => ⟨Below.heap_setCell W9 ⟨m, 3, none⟩ (.slice A8 tests.length c8) q (HGT.out q hq), HT9.out.le q hq⟩))
          have HBF := Lib.hid (HB9.out.setCell (p := ⟨m, 3, none⟩) (Nat.le_refl m) (.slice A8 tests.length c8))
          have hRF := blk_set (j := 3) HR9.out (.slice A8 tests.length c8)
          simp only [List.setIfInBounds_toArray, List.set_cons_zero, List.set_cons_succ] at hRF
          have HRF := Lib.hid hRF
          clear hRF c3 f3 HA9 HT9 HB9 HR9 HGA HGT
          generalize (W9.setCell ⟨m, 3, none⟩ (.slice A8 tests.length c8)) = WF at *
          obtain ⟨Av, cv, rfl, -, -⟩ := HO.out.form
          have hk50 : zs.length ≤ 50 := by rw [HZS.out, List.length_take]; omega
          have hbF : Below wr.heap.size wr WF := by rw [HM.out]; exact HBR5.out.trans HBF.out
          have hbW : Below w.heap.size w WF := HB5.out.trans (HBF.out.mono (by rw [HSZ.out]; omega))
          have hOF := HO.out.bel hbF
          have hvm : ∀ q, (Value.slice Av zs.length cv).ownBlock = some q → q < m := fun q hq => by have := HO.out.lt_ q hq; rwa [HM.out] at this
          have hRr : Hid (kRule.K WF (fun q => m + 1 ≤ q) ⟨archs, lo, hi, tests, word⟩ [.slice A9 archs.length c9, .int .u32 lo, .int .u32 hi, .slice A8 tests.length c8, .int .u32 word]) := kRule.mk (x := ⟨archs, lo, hi, tests, word⟩) (own_row HAF.out) h1 h2 (own_row HTF.out) h4
          have hsF := hbW.size
          have hmF : m + 1 ≤ WF.heap.size := by have := blk_lt HRF.out; omega
          have hlit := rule_row (e := 51) hRr.out (by exact hmF)
          have r2 := blk_bel hbF hr2.out
          have r1 := blk_bel hbF hr1.out
          have t0 : WF.cell? ⟨n + 1 + 1, 0, none⟩ = some (.slice Av zs.length cv) := blk_cell r2 0
          have x0 : WF.cell? ⟨m, 0, none⟩ = some (.slice A9 archs.length c9) := blk_cell HRF.out 0
          have x1 : WF.cell? ⟨m, 1, none⟩ = some (.int .u32 lo) := blk_cell HRF.out 1
          have x2 : WF.cell? ⟨m, 2, none⟩ = some (.int .u32 hi) := blk_cell HRF.out 2
          have x3 : WF.cell? ⟨m, 3, none⟩ = some (.slice A8 tests.length c8) := blk_cell HRF.out 3
          have x4 : WF.cell? ⟨m, 4, none⟩ = some (.int .u32 word) := blk_cell HRF.out 4
          have hne : ∀ (x : Rule) (cs : List Value), kRule.K (WF.alloc (.cells #[.slice A9 archs.length c9, .int .u32 lo, .int .u32 hi, .slice A8 tests.length c8, .int .u32 word] 51)) (fun q => m + 1 ≤ q) x cs → kRule.K (WF.alloc (.cells #[.slice A9 archs.length c9, .int .u32 lo, .int .u32 hi, .slice A8 tests.length c8, .int .u32 word] 51)) (fun q => n + 3 ≤ q ∧ some q ≠ (Value.slice Av zs.length cv).ownBlock) x cs := fun x cs h => kRule.mono (fun q hq => ⟨by omega, fun e => by have := hvm q e.symm; omega⟩) h
          have HNE := Lib.hid hne
          have HVM := Lib.hid hvm
          have HR1' := Lib.hid r1
          have HR2' := Lib.hid r2
          have HOF := Lib.hid (hOF.al (.cells #[.slice A9 archs.length c9, .int .u32 lo, .int .u32 hi, .slice A8 tests.length c8, .int .u32 word] 51))
          have HBW := Lib.hid hbW
          have HLIT := Lib.hid hlit
          clear hne hvm r1 r2 hOF hbW hbF hlit HRF HBF HAF HTF HO HBR5 HB5 HA5 HT5 HL5 HZ5 hr1 hr2 hRr HRA HRT
          go_wp2_with (at_builtin; refine wp_append_kd rfl _ _ 22 51 _ 64 rfl Try.underlying22 infoRule rfl (.slice Av zs.length cv) zs (some ⟨WF.heap.size, 0, none⟩) 1 1 [⟨archs, lo, hi, tests, word⟩] rfl rfl HOF.out rfl HLIT.out HNE.out (by unfold maxLen; omega) (by omega) (by rw [World.size_alloc]; omega) (fun q hq => by rw [World.size_alloc] at hq; omega) ?_; intro v1 w3 hO3 hg3 hat3; have hq2 := (hg3.block (n + 2) (by rw [World.size_alloc]; omega) (fun e => by have := HOF.out.le _ e.symm; omega)).trans (blk_al HR2'.out _); have hq1 := (hg3.block (n + 1) (by rw [World.size_alloc]; omega) (fun e => by have := HOF.out.le _ e.symm; omega)).trans (blk_al HR1'.out _); have t0' : w3.cell? ⟨n + 1 + 1, 0, none⟩ = some (.slice Av zs.length cv) := blk_cell hq2 0; have f0' : w3.frozen? ⟨n + 1 + 1, 0, none⟩ = false := blk_free hq2 0; obtain ⟨Av1, cv1, rfl, -, -⟩ := hO3.form; have HO3 := Lib.hid hO3; have HG3 := Lib.hid hg3; have HQ2 := Lib.hid hq2; have HQ1 := Lib.hid hq1; clear hO3 hg3 hq1 hq2 hat3 t0 x0 x1 x2 x3 x4)
          have hfin : Hid (zs ++ [⟨archs, lo, hi, tests, word⟩] = rules.take (k + 1)) := by rw [HZS.out, List.take_succ_eq_append_getElem hlt, HRK.out]; exact rfl
          have hO4 := HO3.out
          simp only [List.length_append, List.length_cons, List.length_nil, Nat.zero_add] at hO4
          have hB4 : Below w.heap.size w w3 := (HBW.out.alloc (by rw [HSZ.out]; omega) _).grown HG3.out (by rw [World.size_alloc, HSZ.out]; omega) (fun q hq => by have := HOF.out.le q hq; rw [HSZ.out]; omega)
          have hs3 := HG3.out.size
          rw [World.size_alloc] at hs3
          go_roundw
          case rel =>
            refine ⟨k + 1, _, _, by omega, by go_num, hfin, ?_, blk_set (j := 0) HQ2.out _, ?_, ?_, hO4.far (p := ⟨n + 2, 0, none⟩) (fun q hq => by show q ≠ n + 2; omega) _⟩
            · exact blk_far HQ1.out (p := ⟨n + 2, 0, none⟩) (by show n + 1 ≠ n + 2; omega) _
            · exact hB4.setCell (p := ⟨n + 2, 0, none⟩) (by show w.heap.size ≤ n + 2; rw [HSZ.out]; omega) _
            · rw [World.size_setCell]; omega
          case measure => simp [intOf]; omega
      · obtain ⟨s, hsw⟩ : ∃ s, Wc0.heap.size = s := ⟨_, rfl⟩
        go_simp
        have HC1 := Lib.hid (HC.out.alloc (.cells #[] 69))
        have HT := Lib.hid (own_empty kTest 69 Wc0 (m + 1) (fun _ => True) s hsw (by have := HC.out.size; omega) trivial)
        obtain ⟨vT, hvT⟩ : ∃ v : Value, v = .slice (some ⟨s, 0, none⟩) 0 0 := ⟨_, rfl⟩
        refine hK.out _ _ (.inr ⟨HC1.out.c0, HC1.out.c3⟩) (fun hcl => ?_)
        (try simp only [Act.put, List.setIfInBounds_toArray, List.set_cons_zero, List.set_cons_succ])
        clear hcl hK K HC hsw
        have HC := HC1
        clear HC1
        rw [← hvT] at HT
        rw [← hvT]
        clear hvT
        generalize (Wc0.alloc (.cells #[] 69)) = Wc1 at *
        refine anyTill_each (rs := [0]) (by kernel_rfl) (by simp) ?_
        refine (eachTill_cons (o := ⟨some 16, _, _, _, _, _⟩) rfl (fun K hK => ?_) eachTill_nil)
        obtain ⟨s, hsw⟩ : ∃ s, Wc1.heap.size = s := ⟨_, rfl⟩
        go_simp
        have HC1 := Lib.hid (HC.out.alloc (.cells #[] 23))
        have HA := Lib.hid (own_empty (Kd.int .u32) 23 Wc1 (m + 1) (fun _ => True) s hsw (by have := HC.out.size; omega) trivial)
        obtain ⟨vA, hvA⟩ : ∃ v : Value, v = .slice (some ⟨s, 0, none⟩) 0 0 := ⟨_, rfl⟩
        have HT1 := Lib.hid (HT.out.al (.cells #[] 23))
        have HD : Hid (Apart2 vA vT) := by
          intro q hq e
          have hlt := HT.out.lt_ q e
          rw [hvA] at hq
          simp only [Value.ownBlock, Option.some.injEq] at hq
          omega
        clear HT
        have HT := HT1
        clear HT1
        refine hK.out _ _ (.inr ⟨HC1.out.c0, HC1.out.c3⟩) (fun hcl => ?_)
        (try simp only [Act.put, List.setIfInBounds_toArray, List.set_cons_zero, List.set_cons_succ])
        clear hcl hK K HC hsw
        have HC := HC1
        clear HC1
        rw [← hvA] at HA
        rw [← hvA]
        clear hvA
        generalize (Wc1.alloc (.cells #[] 23)) = Wc2 at *
        refine anyTill_each (rs := [3]) (by kernel_rfl) (by simp) ?_
        refine (eachTill_cons (o := ⟨some 19, _, _, _, _, _⟩) rfl (fun K hK => ?_) eachTill_nil)
        have hbel : Below W5.heap.size W5 Wc2 := by rw [HZ5.out]; exact HC.out.bel
        have hrow := Kd.Row.plain (plain_int .u32) (HA5.out.bel hbel)
        refine step_append_kd rfl (.tmp 16) (.tmp 18) 48 23 (.int .u32 0) 4 rfl Try.underlying48 infoU32 rfl vA [] B0 archs.length d0 archs rfl rfl HA.out rfl hrow (fun _ _ h => h) (by unfold maxLen; simp; omega) (by simp; omega) (by have := HC.out.size; omega) (fun _ _ => trivial) ?_
        intro uA Wc3 hO1 hg1 hat1
        rw [List.nil_append] at hO1
        have HC1 := Lib.hid (HC.out.grown hg1 HA.out.le)
        have HT1 := Lib.hid (HT.out.stay (plain_test) hg1 (fun q hq e => HD.out q e hq))
        have HD1 := Lib.hid (apart_l HD.out hat1 HT.out.lt_)
        clear HT HD
        have HT := HT1
        clear HT1
        have HD := HD1
        clear HD1
        refine hK.out _ _ (.inr ⟨HC1.out.c0, HC1.out.c3⟩) (fun hcl => ?_)
        (try simp only [Act.put, List.setIfInBounds_toArray, List.set_cons_zero, List.set_cons_succ])
        have HA1 := Lib.hid hO1
        clear hcl hK K HC hO1 hg1 hat1 HA hbel hrow
        have HC := HC1
        have HA := HA1
        clear HC1 HA1
        refine anyTill_take (i := 8) (oi := ⟨some 24, _, _, _, _, _⟩) (v := ?_) rfl (by kernel_rfl) (by kernel_rfl) (by kernel_rfl) (by kernel_rfl) (fun _ _ _ h => h) (Or.inl ⟨by rfl, ?_⟩) ⟨HC.out.c0, HC.out.c3⟩ ?_
        rotate_left
        · intro w hSw
          (try dsimp only at hSw)
          go_simp
          try with_reducible rfl
        (try simp only [Act.put, List.setIfInBounds_toArray, List.set_cons_zero, List.set_cons_succ])
        refine anyTill_each (rs := [7]) (by kernel_rfl) (by simp) ?_
        refine (eachTill_cons (o := ⟨some 23, _, _, _, _, _⟩) rfl (fun K hK => ?_) eachTill_nil)
        have hbel : Below W5.heap.size W5 Wc3 := by rw [HZ5.out]; exact HC.out.bel
        have hrow := Kd.Row.plain (plain_test) (HT5.out.bel hbel)
        refine step_append_kd rfl (.tmp 20) (.tmp 22) 49 69 (.agg #[.int .i64 0, .bool false, .int .u32 0, .int .u32 0]) 24 rfl Try.underlying49 infoTest rfl vT [] B3 tests.length d3 tests rfl rfl HT.out rfl hrow (fun _ _ h => h) (by unfold maxLen; simp; omega) (by simp; omega) (by have := HC.out.size; omega) (fun _ _ => trivial) ?_
        intro uT Wc4 hO1 hg1 hat1
        rw [List.nil_append] at hO1
        have HC1 := Lib.hid (HC.out.grown hg1 HT.out.le)
        have HA1 := Lib.hid (HA.out.stay (plain_int .u32) hg1 (fun q hq e => HD.out q hq e))
        have HD1 := Lib.hid (apart_r HD.out hat1 HA.out.lt_)
        clear HA HD
        have HA := HA1
        clear HA1
        have HD := HD1
        clear HD1
        refine hK.out _ _ (.inr ⟨HC1.out.c0, HC1.out.c3⟩) (fun hcl => ?_)
        (try simp only [Act.put, List.setIfInBounds_toArray, List.set_cons_zero, List.set_cons_succ])
        have HT1 := Lib.hid hO1
        clear hcl hK K HC hO1 hg1 hat1 HT hbel hrow
        have HC := HC1
        have HT := HT1
        clear HC1 HT1
        obtain ⟨A9, c9, rfl, -, -⟩ := HA.out.form
        obtain ⟨A8, c8, rfl, -, -⟩ := HT.out.form
        have hb := (HC.out.bel.block m (by omega)).trans HL5.out
        have hz := HC.out.size
        have HBc := Lib.hid HC.out.bel
        have c0 := HC.out.c0
        have f0 := blk_free hb 0
        have hgA : ∀ q, (Value.slice A9 archs.length c9).ownBlock = some q → q ≠ m := fun q hq e => by have := HA.out.le q hq; omega
        have hgT : ∀ q, (Value.slice A8 tests.length c8).ownBlock = some q → q ≠ m := fun q hq e => by have := HT.out.le q hq; omega
        have HA9 := Lib.hid (HA.out.shift (ok' := fun q => m + 1 ≤ q) (plain_int .u32) (fun q hq => ⟨Below.heap_setCell Wc4 ⟨m, 0, none⟩ (.slice A9 archs.length c9) q (hgA q hq), HA.out.le q hq⟩))
        have HT9 := Lib.hid (HT.out.shift (ok' := fun q => m + 1 ≤ q) plain_test (fun q hq => ⟨Below.heap_setCell Wc4 ⟨m, 0, none⟩ (.slice A9 archs.length c9) q (hgT q hq), HT.out.le q hq⟩))
        have HB9 := Lib.hid (HBc.out.mono (Nat.le_succ m) |>.setCell (p := ⟨m, 0, none⟩) (Nat.le_refl m) (.slice A9 archs.length c9))
        have HR9 := Lib.hid (blk_set (j := 0) hb (.slice A9 archs.length c9))
        have HGA := Lib.hid hgA
        have HGT := Lib.hid hgT
        clear hgA hgT
        refine anyTill_each (rs := [9]) (by kernel_rfl) (by simp) ?_
        refine eachTill_cons (o := ⟨none, _, _, _, _, _⟩) rfl (fun K hK => ?_) eachTill_nil
        clear hb
        go_simp
        refine hK.out _ _ (.inl rfl) (fun hcl => ?_)
        (try simp only [Act.put, List.setIfInBounds_toArray, List.set_cons_zero, List.set_cons_succ])
        clear hcl hK K c0 f0 hz HA HT HC HD HBc
        generalize (Wc4.setCell ⟨m, 0, none⟩ (.slice A9 archs.length c9)) = W9 at *
        refine anyTill_each (rs := [10]) (by kernel_rfl) (by simp) ?_
        refine eachTill_cons (o := ⟨some 25, _, _, _, _, _⟩) rfl (fun K hK => ?_) eachTill_nil
        go_simp
        refine hK.out _ _ (.inl rfl) (fun hcl => ?_)
        (try simp only [Act.put, List.setIfInBounds_toArray, List.set_cons_zero, List.set_cons_succ])
        clear hcl hK K
        have c3 : W9.cell? ⟨m, 3, none⟩ = some (.slice B3 tests.length d3) := blk_cell HR9.out 3
        have f3 := blk_free HR9.out 3
        refine anyTill_each (rs := [11]) (by kernel_rfl) (by simp) ?_
        refine eachTill_cons (o := ⟨none, _, _, _, _, _⟩) rfl (fun K hK => ?_) eachTill_nil
        go_simp
        refine hK.out _ _ (.inl rfl) (fun hcl => ?_)
        (try simp only [Act.put, List.setIfInBounds_toArray, List.set_cons_zero, List.set_cons_succ])
        clear hcl hK K
        refine anyTill_done (by kernel_rfl) ?_ _
        have HAF := Lib.hid (HA9.out.shift (ok' := fun q => m + 1 ≤ q) (plain_int .u32) (fun q hq => ⟨Below.heap_setCell W9 ⟨m, 3, none⟩ (.slice A8 tests.length c8) q (HGA.out q hq), HA9.out.le q hq⟩))
        have HTF := Lib.hid (HT9.out.shift (ok' := fun q => m + 1 ≤ q) plain_test (fun q hq => ⟨Below.heap_setCell W9 ⟨m, 3, none⟩ (.slice A8 tests.length c8) q (HGT.out q hq), HT9.out.le q hq⟩))
        have HBF := Lib.hid (HB9.out.setCell (p := ⟨m, 3, none⟩) (Nat.le_refl m) (.slice A8 tests.length c8))
        have hRF := blk_set (j := 3) HR9.out (.slice A8 tests.length c8)
        simp only [List.setIfInBounds_toArray, List.set_cons_zero, List.set_cons_succ] at hRF
        have HRF := Lib.hid hRF
        clear hRF c3 f3 HA9 HT9 HB9 HR9 HGA HGT
        generalize (W9.setCell ⟨m, 3, none⟩ (.slice A8 tests.length c8)) = WF at *
        obtain ⟨Av, cv, rfl, -, -⟩ := HO.out.form
        have hk50 : zs.length ≤ 50 := by rw [HZS.out, List.length_take]; omega
        have hbF : Below wr.heap.size wr WF := by rw [HM.out]; exact HBR5.out.trans HBF.out
        have hbW : Below w.heap.size w WF := HB5.out.trans (HBF.out.mono (by rw [HSZ.out]; omega))
        have hOF := HO.out.bel hbF
        have hvm : ∀ q, (Value.slice Av zs.length cv).ownBlock = some q → q < m := fun q hq => by have := HO.out.lt_ q hq; rwa [HM.out] at this
        have hRr : Hid (kRule.K WF (fun q => m + 1 ≤ q) ⟨archs, lo, hi, tests, word⟩ [.slice A9 archs.length c9, .int .u32 lo, .int .u32 hi, .slice A8 tests.length c8, .int .u32 word]) := kRule.mk (x := ⟨archs, lo, hi, tests, word⟩) (own_row HAF.out) h1 h2 (own_row HTF.out) h4
        have hsF := hbW.size
        have hmF : m + 1 ≤ WF.heap.size := by have := blk_lt HRF.out; omega
        have hlit := rule_row (e := 51) hRr.out (by exact hmF)
        have r2 := blk_bel hbF hr2.out
        have r1 := blk_bel hbF hr1.out
        have t0 : WF.cell? ⟨n + 1 + 1, 0, none⟩ = some (.slice Av zs.length cv) := blk_cell r2 0
        have x0 : WF.cell? ⟨m, 0, none⟩ = some (.slice A9 archs.length c9) := blk_cell HRF.out 0
        have x1 : WF.cell? ⟨m, 1, none⟩ = some (.int .u32 lo) := blk_cell HRF.out 1
        have x2 : WF.cell? ⟨m, 2, none⟩ = some (.int .u32 hi) := blk_cell HRF.out 2
        have x3 : WF.cell? ⟨m, 3, none⟩ = some (.slice A8 tests.length c8) := blk_cell HRF.out 3
        have x4 : WF.cell? ⟨m, 4, none⟩ = some (.int .u32 word) := blk_cell HRF.out 4
        have hne : ∀ (x : Rule) (cs : List Value), kRule.K (WF.alloc (.cells #[.slice A9 archs.length c9, .int .u32 lo, .int .u32 hi, .slice A8 tests.length c8, .int .u32 word] 51)) (fun q => m + 1 ≤ q) x cs → kRule.K (WF.alloc (.cells #[.slice A9 archs.length c9, .int .u32 lo, .int .u32 hi, .slice A8 tests.length c8, .int .u32 word] 51)) (fun q => n + 3 ≤ q ∧ some q ≠ (Value.slice Av zs.length cv).ownBlock) x cs := fun x cs h => kRule.mono (fun q hq => ⟨by omega, fun e => by have := hvm q e.symm; omega⟩) h
        have HNE := Lib.hid hne
        have HVM := Lib.hid hvm
        have HR1' := Lib.hid r1
        have HR2' := Lib.hid r2
        have HOF := Lib.hid (hOF.al (.cells #[.slice A9 archs.length c9, .int .u32 lo, .int .u32 hi, .slice A8 tests.length c8, .int .u32 word] 51))
        have HBW := Lib.hid hbW
        have HLIT := Lib.hid hlit
        clear hne hvm r1 r2 hOF hbW hbF hlit HRF HBF HAF HTF HO HBR5 HB5 HA5 HT5 HL5 HZ5 hr1 hr2 hRr HRA HRT
        go_wp2_with (at_builtin; refine wp_append_kd rfl _ _ 22 51 _ 64 rfl Try.underlying22 infoRule rfl (.slice Av zs.length cv) zs (some ⟨WF.heap.size, 0, none⟩) 1 1 [⟨archs, lo, hi, tests, word⟩] rfl rfl HOF.out rfl HLIT.out HNE.out (by unfold maxLen; omega) (by omega) (by rw [World.size_alloc]; omega) (fun q hq => by rw [World.size_alloc] at hq; omega) ?_; intro v1 w3 hO3 hg3 hat3; have hq2 := (hg3.block (n + 2) (by rw [World.size_alloc]; omega) (fun e => by have := HOF.out.le _ e.symm; omega)).trans (blk_al HR2'.out _); have hq1 := (hg3.block (n + 1) (by rw [World.size_alloc]; omega) (fun e => by have := HOF.out.le _ e.symm; omega)).trans (blk_al HR1'.out _); have t0' : w3.cell? ⟨n + 1 + 1, 0, none⟩ = some (.slice Av zs.length cv) := blk_cell hq2 0; have f0' : w3.frozen? ⟨n + 1 + 1, 0, none⟩ = false := blk_free hq2 0; obtain ⟨Av1, cv1, rfl, -, -⟩ := hO3.form; have HO3 := Lib.hid hO3; have HG3 := Lib.hid hg3; have HQ2 := Lib.hid hq2; have HQ1 := Lib.hid hq1; clear hO3 hg3 hq1 hq2 hat3 t0 x0 x1 x2 x3 x4)
        have hfin : Hid (zs ++ [⟨archs, lo, hi, tests, word⟩] = rules.take (k + 1)) := by rw [HZS.out, List.take_succ_eq_append_getElem hlt, HRK.out]; exact rfl
        have hO4 := HO3.out
        simp only [List.length_append, List.length_cons, List.length_nil, Nat.zero_add] at hO4
        have hB4 : Below w.heap.size w w3 := (HBW.out.alloc (by rw [HSZ.out]; omega) _).grown HG3.out (by rw [World.size_alloc, HSZ.out]; omega) (fun q hq => by have := HOF.out.le q hq; rw [HSZ.out]; omega)
        have hs3 := HG3.out.size
        rw [World.size_alloc] at hs3
        go_roundw
        case rel =>
          refine ⟨k + 1, _, _, by omega, by go_num, hfin, ?_, blk_set (j := 0) HQ2.out _, ?_, ?_, hO4.far (p := ⟨n + 2, 0, none⟩) (fun q hq => by show q ≠ n + 2; omega) _⟩
          · exact blk_far HQ1.out (p := ⟨n + 2, 0, none⟩) (by show n + 1 ≠ n + 2; omega) _
          · exact hB4.setCell (p := ⟨n + 2, 0, none⟩) (by show w.heap.size ≤ n + 2; rw [HSZ.out]; omega) _
          · rw [World.size_setCell]; omega
        case measure => simp [intOf]; omega
    · obtain rfl : k = rules.length := by omega
      rw [List.take_length] at HZS
      obtain rfl := HZS.out
      obtain ⟨Av, cv, rfl, -, -⟩ := hO.form
      have t0 : wr.cell? ⟨n + 1 + 1, 0, none⟩ = _ := blk_cell hr2.out 0
      have t1 : wr.cell? ⟨n + 1 + 1, 1, none⟩ = _ := blk_cell hr2.out 1
      have s0 : wr.cell? ⟨n + 1, 0, none⟩ = _ := blk_cell hr1.out 0
      have s1 : wr.cell? ⟨n + 1, 1, none⟩ = _ := blk_cell hr1.out 1
      have f0 : wr.frozen? ⟨n + 1, 0, none⟩ = false := blk_free hr1.out 0
      have f1 : wr.frozen? ⟨n + 1, 1, none⟩ = false := blk_free hr1.out 1
      simp only [List.getElem?_toArray, List.getElem?_cons_zero, List.getElem?_cons_succ] at t0 t1 s0 s1
      go_wp2_with fail
      have hR9 : ((wr.setCell ⟨n + 1, 0, none⟩ (.slice Av zs.length cv)).setCell ⟨n + 1, 1, none⟩ (.int .u32 els)).heap[n + 1]? = some (.cells #[.slice Av zs.length cv, .int .u32 els] 25 (0, 0)) := by
        have h := blk_set (j := 1) (blk_set (j := 0) hr1.out (.slice Av zs.length cv)) (.int .u32 els)
        simpa only [List.setIfInBounds_toArray, List.set_cons_zero, List.set_cons_succ] using h
      have hO9 := (hO.far (p := ⟨n + 1, 0, none⟩) (fun q hq => by show q ≠ n + 1; omega) (.slice Av zs.length cv)).far (p := ⟨n + 1, 1, none⟩) (fun q hq => by show q ≠ n + 1; omega) (.int .u32 els)
      have hB9 := (hB.setCell (p := ⟨n + 1, 0, none⟩) (by show w.heap.size ≤ n + 1; omega) (.slice Av zs.length cv)).setCell (p := ⟨n + 1, 1, none⟩) (by show w.heap.size ≤ n + 1; omega) (.int .u32 els)
      refine bodyPost_ret (results_cell_row rfl _ _ _ _ _ _ _ rfl hR9 Try.underlying25 rfl (by kernel_rfl)) rfl ?_
      exact ⟨[.slice Av zs.length cv, .int .u32 els], rfl, kPolicy.mono (fun q hq => by omega) (kPolicy.mk (x := ⟨zs, els⟩) (own_row hO9) g1), by rw [HSZ.out] at hB9; exact hB9⟩
end Go.Proofs.Ytiepnnjodmkolaa
