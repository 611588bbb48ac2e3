/- The walk of the reference's Says. -/
import Derived.Test.YtiepnnjodmkolaaJ3
import Derived.Test.YtiepnnjodmkolaaG9
namespace Go.Proofs.Ytiepnnjodmkolaa
open Go.RowKit Go.Shelf
set_option linter.unusedVariables false
set_option linter.unusedSimpArgs false

set_option maxRecDepth 100000 in
set_option maxHeartbeats 8000000 in
theorem c_refSays (x : Policy) (d : Data) (hd : d.wf) (ok : Nat → Prop) (cs : List Value) (w : World) (hK : kPolicy.K w ok x cs) :
    Calls Try.prog 23 #[.agg cs.toArray, d.agg] w fun e w' => e = .returned (.tuple #[.int .u32 (saysW x d), .int .i64 (saysAt x d)]) ∧ Below w.heap.size w w' := by
  obtain ⟨A0, c0, rfl, ⟨l0, m0, r0⟩, g1⟩ := kPolicy.opn hK
  obtain ⟨rules, els⟩ := x
  have hn0 := r0.1
  have R0 := Lib.hid r0
  have hsome := fun (k : Nat) (hk : k < rules.length) (hno : ∀ j (hj : j < rules.length), j < k → holdsR d rules[j] = false) (h : holdsR d rules[k] = true) => says_some (x := ⟨rules, els⟩) (d := d) (firstH_at hk hno h)
  have hnone := fun (hno : ∀ j (hj : j < rules.length), holdsR d rules[j] = false) => says_none (x := ⟨rules, els⟩) (d := d) (firstH_none hno)
  have hhold := fun r cs w hK => c_refHolds r d hd ok cs w hK
  generalize saysW ⟨rules, els⟩ d = sw at *
  generalize saysAt ⟨rules, els⟩ d = sa at *
  have HSOME := Lib.hid hsome
  have HNONE := Lib.hid hnone
  have HHOLD := Lib.hid hhold
  clear l0 m0 r0 hK hsome hnone hhold
  obtain ⟨n, hn⟩ : ∃ n, w.heap.size = n := ⟨_, rfl⟩
  obtain ⟨dd, hdd⟩ : ∃ dd, d = dd := ⟨_, rfl⟩
  obtain ⟨nr, arch, ip, a0, a1, a2, a3, a4, a5⟩ := d
  have hdagg : dd.agg = .agg #[.int .u32 nr, .int .u32 arch, .int .u64 ip, .int .u64 a0, .int .u64 a1, .int .u64 a2, .int .u64 a3, .int .u64 a4, .int .u64 a5] := by rw [← hdd]; rfl
  rw [hdd] at HSOME HNONE HHOLD ⊢
  rw [hdagg] at HHOLD ⊢
  clear hdagg hdd hd
  obtain ⟨W1, hW1⟩ : ∃ W, W = ((w.alloc (.cells #[.slice A0 rules.length c0, .int .u32 els] 25)).alloc (.cells #[.int .u32 nr, .int .u32 arch, .int .u64 ip, .int .u64 a0, .int .u64 a1, .int .u64 a2, .int .u64 a3, .int .u64 a4, .int .u64 a5] 47)) := ⟨_, rfl⟩
  have hB1 : Below w.heap.size w W1 := by rw [hW1]; exact below_al (below_al (Below.refl _ _) _) _
  have hR1 : W1.heap[n]? = some (.cells #[.slice A0 rules.length c0, .int .u32 els] 25) := by rw [hW1, ← hn]; exact blk_al (blk_new _ _) _
  have hD1 : W1.heap[n + 1]? = some (.cells #[.int .u32 nr, .int .u32 arch, .int .u64 ip, .int .u64 a0, .int .u64 a1, .int .u64 a2, .int .u64 a3, .int .u64 a4, .int .u64 a5] 47) := by
    rw [hW1, ← hn]
    have h := blk_new (w.alloc (.cells #[.slice A0 rules.length c0, .int .u32 els] 25)) (.cells #[.int .u32 nr, .int .u32 arch, .int .u64 ip, .int .u64 a0, .int .u64 a1, .int .u64 a2, .int .u64 a3, .int .u64 a4, .int .u64 a5] 47)
    rwa [World.size_alloc] at h
  have HB1 := Lib.hid hB1
  have HR1 := Lib.hid hR1
  have HD1 := Lib.hid hD1
  have HN := Lib.hid hn
  have HDC : Hid (∀ w', Below W1.heap.size W1 w' → (w'.cell? ⟨n + 1, 0, none⟩ = some (.int .u32 nr) ∧ w'.cell? ⟨n + 1, 1, none⟩ = some (.int .u32 arch) ∧ w'.cell? ⟨n + 1, 2, none⟩ = some (.int .u64 ip) ∧ w'.cell? ⟨n + 1, 3, none⟩ = some (.int .u64 a0) ∧ w'.cell? ⟨n + 1, 4, none⟩ = some (.int .u64 a1) ∧ w'.cell? ⟨n + 1, 5, none⟩ = some (.int .u64 a2) ∧ w'.cell? ⟨n + 1, 6, none⟩ = some (.int .u64 a3) ∧ w'.cell? ⟨n + 1, 7, none⟩ = some (.int .u64 a4) ∧ w'.cell? ⟨n + 1, 8, none⟩ = some (.int .u64 a5))) := fun W h => ⟨blk_cell (blk_bel h HD1.out) 0, blk_cell (blk_bel h HD1.out) 1, blk_cell (blk_bel h HD1.out) 2, blk_cell (blk_bel h HD1.out) 3, blk_cell (blk_bel h HD1.out) 4, blk_cell (blk_bel h HD1.out) 5, blk_cell (blk_bel h HD1.out) 6, blk_cell (blk_bel h HD1.out) 7, blk_cell (blk_bel h HD1.out) 8⟩
  clear hB1 hR1 hD1
  go_enter Try.func23, Try.ntmps23
  go_wp2_with fail
  rw [← hW1]
  clear hW1 hn
  go_loopw [6] (fun i wr => ∃ (k : Nat), k ≤ rules.length ∧ i = .int .i64 k ∧ Hid (∀ j (hj : j < rules.length), j < k → holdsR dd rules[j] = false) ∧ Hid (Below W1.heap.size W1 wr)) (fun i _ => rules.length - (intOf i).toNat)
  case atStart => exact ⟨0, Nat.zero_le _, rfl, fun j _ hj => absurd hj (Nat.not_lt_zero _), Below.refl _ _⟩
  case round =>
    obtain ⟨k, hk, rfl, hno, hB⟩ := hrel
    have q0 : wr.cell? ⟨n, 0, none⟩ = some (.slice A0 rules.length c0) := blk_cell (blk_bel hB.out HR1.out) 0
    have HBW := Lib.hid (HB1.out.trans (hB.out.mono HB1.out.size))
    by_cases hlt : k < rules.length
    · obtain ⟨ad, B0, d0, B3, d3, rfl, hok, ⟨h0, h1, h2, h3, h4⟩, e0, e1, e2, e3, e4⟩ := kRule.at_ (R0.out.bel HBW.out) hlt
      have HKR := Lib.hid (kRule.mk (x := rules[k]) h0 h1 h2 h3 h4)
      have HS := Lib.hid (HSOME.out k hlt hno.out)
      have HN' : Hid (holdsR dd rules[k] = false → ∀ j (hj : j < rules.length), j < k + 1 → holdsR dd rules[j] = false) := fun h j hj hj' => by
        rcases Nat.lt_succ_iff_lt_or_eq.1 hj' with h' | rfl
        · exact hno.out j hj h'
        · exact h
      have hgp : ({ rules := rules, els := els } : Policy).rules[k]! = rules[k] := getElem!_pos rules k hlt
      rw [hgp] at HS
      clear hgp
      have g0 := h0.2.2.1
      have g3 := h3.2.2.1
      clear h0 h1 h2 h3 h4
      generalize rules[k] = r at *
      have hk0 : (0 : Int) ≤ (k : Int) := by omega
      have hk1 : (k : Int) < (rules.length : Int) := by omega
      have HSB : Hid (∀ w', Below wr.heap.size wr w' → (fun w' => w'.cell? ⟨n, 0, none⟩ = some (.slice (some ad) rules.length c0) ∧ w'.cell? (ad.add (k * 5)) = some (.slice B0 r.archs.length d0) ∧ w'.cell? ⟨(ad.add (k * 5)).block, (ad.add (k * 5)).off + 1, none⟩ = some (.int .u32 r.lo) ∧ w'.cell? ⟨(ad.add (k * 5)).block, (ad.add (k * 5)).off + 2, none⟩ = some (.int .u32 r.hi) ∧ w'.cell? ⟨(ad.add (k * 5)).block, (ad.add (k * 5)).off + 3, none⟩ = some (.slice B3 r.tests.length d3) ∧ w'.cell? ⟨(ad.add (k * 5)).block, (ad.add (k * 5)).off + 4, none⟩ = some (.int .u32 r.word) ∧ w'.cell? ⟨n + 1, 0, none⟩ = some (.int .u32 nr) ∧ w'.cell? ⟨n + 1, 1, none⟩ = some (.int .u32 arch) ∧ w'.cell? ⟨n + 1, 2, none⟩ = some (.int .u64 ip) ∧ w'.cell? ⟨n + 1, 3, none⟩ = some (.int .u64 a0) ∧ w'.cell? ⟨n + 1, 4, none⟩ = some (.int .u64 a1) ∧ w'.cell? ⟨n + 1, 5, none⟩ = some (.int .u64 a2) ∧ w'.cell? ⟨n + 1, 6, none⟩ = some (.int .u64 a3) ∧ w'.cell? ⟨n + 1, 7, none⟩ = some (.int .u64 a4) ∧ w'.cell? ⟨n + 1, 8, none⟩ = some (.int .u64 a5)) w') := fun w' h => by
        obtain ⟨y0, y1, y2, y3, y4, y5, y6, y7, y8⟩ := HDC.out w' (below_tr hB.out h)
        exact ⟨cell_bel h q0, cell_bel h e0, cell_bel h e1, cell_bel h e2, cell_bel h e3, cell_bel h e4, y0, y1, y2, y3, y4, y5, y6, y7, y8⟩
      clear e0 e1 e2 e3 e4
      go_wp2_with fail
      go_region_held3 (fun w' => w'.cell? ⟨n, 0, none⟩ = some (.slice (some ad) rules.length c0) ∧ w'.cell? (ad.add (k * 5)) = some (.slice B0 r.archs.length d0) ∧ w'.cell? ⟨(ad.add (k * 5)).block, (ad.add (k * 5)).off + 1, none⟩ = some (.int .u32 r.lo) ∧ w'.cell? ⟨(ad.add (k * 5)).block, (ad.add (k * 5)).off + 2, none⟩ = some (.int .u32 r.hi) ∧ w'.cell? ⟨(ad.add (k * 5)).block, (ad.add (k * 5)).off + 3, none⟩ = some (.slice B3 r.tests.length d3) ∧ w'.cell? ⟨(ad.add (k * 5)).block, (ad.add (k * 5)).off + 4, none⟩ = some (.int .u32 r.word) ∧ w'.cell? ⟨n + 1, 0, none⟩ = some (.int .u32 nr) ∧ w'.cell? ⟨n + 1, 1, none⟩ = some (.int .u32 arch) ∧ w'.cell? ⟨n + 1, 2, none⟩ = some (.int .u64 ip) ∧ w'.cell? ⟨n + 1, 3, none⟩ = some (.int .u64 a0) ∧ w'.cell? ⟨n + 1, 4, none⟩ = some (.int .u64 a1) ∧ w'.cell? ⟨n + 1, 5, none⟩ = some (.int .u64 a2) ∧ w'.cell? ⟨n + 1, 6, none⟩ = some (.int .u64 a3) ∧ w'.cell? ⟨n + 1, 7, none⟩ = some (.int .u64 a4) ∧ w'.cell? ⟨n + 1, 8, none⟩ = some (.int .u64 a5))
        (first | exact HSB.out _ hb6 | exact HSB.out _ (below_d1 (Below.refl _ _)) | exact HSB.out _ (Below.refl _ _))
        (first
        | (go_at_call 20; (with_reducible refine (HHOLD.out r _ _ (Kd.bel (d := kRule) HKR.out (below_d1 (Below.refl _ _)))).mono ?_); rintro e w6 ⟨rfl, hb6'⟩; have hb6 : Below wr.heap.size wr w6 := undrew hb6'))
      rename_i hHeld
      have he4 : w6.cell? ⟨(ad.add (k * 5)).block, (ad.add (k * 5)).off + 4, none⟩ = some (.int .u32 r.word) := (HSB.out _ hb6).2.2.2.2.2.1
      have q6 : w6.cell? ⟨n, 0, none⟩ = some (.slice (some ad) rules.length c0) := (HSB.out _ hb6).1
      have HB6 := Lib.hid (below_tr hB.out hb6)
      clear hHeld hb6 hb6' HSB q0
      obtain ⟨hv, hvd⟩ : ∃ b, holdsR dd r = b := ⟨_, rfl⟩
      rw [hvd] at HS HN' ⊢
      cases hv with
      | true =>
        obtain ⟨-, e1, e2⟩ := HS.out rfl
        subst e1 e2
        go_wp2_with fail
        go_ret2
        exact ⟨rfl, HB1.out.trans (HB6.out.mono HB1.out.size)⟩
      | false =>
        have HN2 := Lib.hid (HN'.out rfl)
        clear he4 q6
        go_wp2_with fail
        go_roundw
        case rel => exact ⟨k + 1, by omega, by go_num, HN2.out, HB6.out⟩
        case measure => simp [intOf]; omega
    · obtain rfl : k = rules.length := by omega
      obtain ⟨e1, e2⟩ := HNONE.out (fun j hj => hno.out j hj hj)
      have e1' := e1.symm
      clear e1
      subst e1' e2
      have q1 : wr.cell? ⟨n, 1, none⟩ = _ := blk_cell (blk_bel hB.out HR1.out) 1
      simp only [List.getElem?_toArray, List.getElem?_cons_zero, List.getElem?_cons_succ] at q1
      go_wp2_with fail
      go_ret2
      exact ⟨rfl, HBW.out⟩
end Go.Proofs.Ytiepnnjodmkolaa
