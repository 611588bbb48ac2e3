/- The walk of policy.Says. -/
import Derived.Test.YtiepnnjodmkolaaG8
import Derived.Test.YtiepnnjodmkolaaC5
namespace Go.Proofs.Ytiepnnjodmkolaa
open Go.RowKit Go.Shelf
set_option linter.unusedVariables false
set_option linter.unusedSimpArgs false

attribute [local go_sem] Oper.semAt_some
/-- What a policy that may be says. -/
def saysW (x : Policy) (d : Data) : Int := match firstH d x.rules with
  | some k => x.rules[k]!.word
  | none => x.els
def saysAt (x : Policy) (d : Data) : Int := match firstH d x.rules with
  | some k => (k : Int)
  | none => -1
theorem five (w : World) (n : Nat) (hn : w.heap.size = n) (o0 o1 o2 o3 o4 : Obj) : ∃ W, W = ((((w.alloc o0).alloc o1).alloc o2).alloc o3).alloc o4 ∧ Below n w W ∧ W.heap[n]? = some o0 ∧ W.heap[n + 1]? = some o1 ∧ W.heap[n + 2]? = some o2 ∧ W.heap[n + 3]? = some o3 ∧ W.heap[n + 4]? = some o4 ∧ W.heap.size = n + 5 := by
  subst hn
  refine ⟨_, rfl, below_al (below_al (below_al (below_al (below_al (Below.refl _ _) _) _) _) _) _, blk_al (blk_al (blk_al (blk_al (blk_new _ _) _) _) _) _, ?_, ?_, ?_, ?_, ?_⟩
  · have h := blk_new (w.alloc o0) o1
    rw [World.size_alloc] at h
    exact blk_al (blk_al (blk_al h _) _) _
  · have h := blk_new ((w.alloc o0).alloc o1) o2
    rw [World.size_alloc, World.size_alloc] at h
    exact blk_al (blk_al h _) _
  · have h := blk_new (((w.alloc o0).alloc o1).alloc o2) o3
    rw [World.size_alloc, World.size_alloc, World.size_alloc] at h
    exact blk_al h _
  · have h := blk_new ((((w.alloc o0).alloc o1).alloc o2).alloc o3) o4
    rwa [World.size_alloc, World.size_alloc, World.size_alloc, World.size_alloc] at h
  · simp
/-- Three results of one cell each. -/
theorem three_cells (w : World) (n : Nat) (u2 u3 u4 x2 x3 x4 : Value) (t2 t3 t4 : TypeId) (h2 : w.heap[n + 2]? = some (.cells #[u2] t2 (0, 0))) (h3 : w.heap[n + 3]? = some (.cells #[u3] t3 (0, 0))) (h4 : w.heap[n + 4]? = some (.cells #[u4] t4 (0, 0))) :
    ∃ W, W = (((w.setCell ⟨n + 2, 0, none⟩ x2).setCell ⟨n + 3, 0, none⟩ x3).setCell ⟨n + 4, 0, none⟩ x4) ∧ Below n w W ∧ W.cell? ⟨n + 2, 0, none⟩ = some x2 ∧ W.cell? ⟨n + 3, 0, none⟩ = some x3 ∧ W.cell? ⟨n + 4, 0, none⟩ = some x4 := by
  refine ⟨_, rfl, (((Below.refl n w).setCell (p := ⟨n + 2, 0, none⟩) (by show n ≤ n + 2; omega) x2).setCell (p := ⟨n + 3, 0, none⟩) (by show n ≤ n + 3; omega) x3).setCell (p := ⟨n + 4, 0, none⟩) (by show n ≤ n + 4; omega) x4, ?_, ?_, ?_⟩
  · exact blk_cell (blk_far (blk_far (blk_set (j := 0) h2 x2) (p := ⟨n + 3, 0, none⟩) (by show n + 2 ≠ n + 3; omega) x3) (p := ⟨n + 4, 0, none⟩) (by show n + 2 ≠ n + 4; omega) x4) 0
  · exact blk_cell (blk_far (blk_set (j := 0) (blk_far h3 (p := ⟨n + 2, 0, none⟩) (by show n + 3 ≠ n + 2; omega) x2) x3) (p := ⟨n + 4, 0, none⟩) (by show n + 3 ≠ n + 4; omega) x4) 0
  · exact blk_cell (blk_set (j := 0) (blk_far (blk_far h4 (p := ⟨n + 2, 0, none⟩) (by show n + 4 ≠ n + 2; omega) x2) (p := ⟨n + 3, 0, none⟩) (by show n + 4 ≠ n + 3; omega) x3) x4) 0
set_option maxRecDepth 100000 in
set_option maxHeartbeats 4000000 in
theorem c_says_no (x : Policy) (d : Data) (ok : Nat → Prop) (cs : List Value) (w : World) (hK : kPolicy.K w ok x cs) (hc : checkP x ≠ 0) :
    Calls Try.prog 21 #[.agg cs.toArray, d.agg] w fun e w' => e = .returned (.tuple #[.int .u32 0, .int .i64 0, .int .i64 330]) ∧ Below w.heap.size w w' := by
  have hK' := hK
  obtain ⟨A0, c0, rfl, ⟨l0, m0, r0⟩, g1⟩ := kPolicy.opn hK
  obtain ⟨nr, arch, ip, a0, a1, a2, a3, a4, a5⟩ := d
  unfold Data.agg
  obtain ⟨n, hn⟩ : ∃ n, w.heap.size = n := ⟨_, rfl⟩
  obtain ⟨W5, hW5, hB5, -, -, h2, h3, h4, -⟩ := five w n hn (.cells #[.slice A0 x.rules.length c0, .int .u32 x.els] 25) (.cells #[.int .u32 nr, .int .u32 arch, .int .u64 ip, .int .u64 a0, .int .u64 a1, .int .u64 a2, .int .u64 a3, .int .u64 a4, .int .u64 a5] 47) (.cells #[.int .u32 0] 23) (.cells #[.int .i64 0] 3) (.cells #[.int .i64 0] 28)
  have hck := c_check x ok _ W5 (Kd.bel (d := kPolicy) hK' (by rw [hn]; exact hB5))
  rw [checkP_bad hc] at hck
  have HCK := Lib.hid hck
  have HW5 := Lib.hid hW5
  have HB5 := Lib.hid hB5
  have H2 := Lib.hid h2
  have H3 := Lib.hid h3
  have H4 := Lib.hid h4
  clear hck hc hK hK' r0 hW5 hB5 h2 h3 h4
  go_enter Try.func21, Try.ntmps21
  go_wp2_with fail
  rw [← HW5.out]
  refine HCK.out.mono ?_
  rintro e w1 ⟨rfl, hB1⟩
  have b2 := blk_bel hB1 H2.out
  have b3 := blk_bel hB1 H3.out
  have b4 := blk_bel hB1 H4.out
  have c2 : w1.cell? ⟨n + 1 + 1, 0, none⟩ = some (.int .u32 0) := blk_cell b2 0
  have c3 : w1.cell? ⟨n + 1 + 1 + 1, 0, none⟩ = some (.int .i64 0) := blk_cell b3 0
  have c4 : w1.cell? ⟨n + 1 + 1 + 1 + 1, 0, none⟩ = some (.int .i64 0) := blk_cell b4 0
  have f2 : w1.frozen? ⟨n + 1 + 1, 0, none⟩ = false := blk_free b2 0
  have f3 : w1.frozen? ⟨n + 1 + 1 + 1, 0, none⟩ = false := blk_free b3 0
  have f4 : w1.frozen? ⟨n + 1 + 1 + 1 + 1, 0, none⟩ = false := blk_free b4 0
  have HB1 := Lib.hid (HB5.out.trans (hB1.mono (by have := HB5.out.size; rw [hn] at this; exact this)))
  obtain ⟨W9, hW9, hB9, k2, k3, k4⟩ := three_cells w1 n _ _ _ (.int .u32 0) (.int .i64 0) (.int .i64 330) _ _ _ b2 b3 b4
  have HW9 := Lib.hid hW9
  have HK := Lib.hid (And.intro k2 (And.intro k3 k4))
  have HB9 := Lib.hid (HB1.out.trans hB9)
  clear hB1 b2 b3 b4 hW9 hB9 k2 k3 k4
  go_wp2_with fail
  rw [show (((w1.setCell ⟨n + 1 + 1, 0, none⟩ (.int .u32 0)).setCell ⟨n + 1 + 1 + 1, 0, none⟩ (.int .i64 0)).setCell ⟨n + 1 + 1 + 1 + 1, 0, none⟩ (.int .i64 330)) = W9 from HW9.out.symm]
  obtain ⟨k2, k3, k4⟩ := HK.out
  refine bodyPost_ret (v := .tuple #[.int .u32 0, .int .i64 0, .int .i64 330]) (by simp [results, Try.results21, go_sem, k2, k3, k4]) rfl ⟨rfl, ?_⟩
  rw [hn]
  exact HB9.out
theorem says_some {x : Policy} {d : Data} {k : Nat} (h : firstH d x.rules = some k) : k < x.rules.length ∧ saysW x d = x.rules[k]!.word ∧ saysAt x d = (k : Int) := by
  refine ⟨firstH_lt h, ?_, ?_⟩
  · unfold saysW; rw [h]
  · unfold saysAt; rw [h]
theorem says_none {x : Policy} {d : Data} (h : firstH d x.rules = none) : saysW x d = x.els ∧ saysAt x d = -1 := by
  constructor
  · unfold saysW; rw [h]
  · unfold saysAt; rw [h]
/-- What the caller holds: before the round, behind it. -/
def SaysI (w w2 : World) (n : Nat) (x y : Value) : Bool → World → Prop
  | false, W => Below w2.heap.size w2 W
  | true, W => Below n w W ∧ W.heap[n + 2]? = some (.cells #[x] 23) ∧ W.heap[n + 3]? = some (.cells #[y] 3) ∧ W.heap[n + 4]? = some (.cells #[.int .i64 0] 28)
theorem SaysI.abides {w w2 : World} {n : Nat} {x y : Value} (hn : n + 4 < w2.heap.size) : ∀ s A B, SaysI w w2 n x y s A → Below w2.heap.size A B → SaysI w w2 n x y s B := by
  intro s A B h hB
  cases s with
  | false => exact Below.trans h hB
  | true =>
    obtain ⟨h0, h1, h2, h3⟩ := h
    exact ⟨h0.trans (hB.mono (by omega)), (hB.block _ (by omega)).trans h1, (hB.block _ (by omega)).trans h2, (hB.block _ (by omega)).trans h3⟩
theorem SaysI.put {w w2 W : World} {n : Nat} {u2 u3 u4 x y : Value} (hn : n + 4 < w2.heap.size) (hw : Below n w w2) (hB : Below w2.heap.size w2 W) (h2 : w2.heap[n + 2]? = some (.cells #[u2] 23 (0, 0))) (h3 : w2.heap[n + 3]? = some (.cells #[u3] 3 (0, 0))) (h4 : w2.heap[n + 4]? = some (.cells #[u4] 28 (0, 0))) :
    SaysI w w2 n x y true (((W.setCell ⟨n + 2, 0, none⟩ x).setCell ⟨n + 3, 0, none⟩ y).setCell ⟨n + 4, 0, none⟩ (.int .i64 0)) := by
  have k2 := blk_bel hB h2
  have k3 := blk_bel hB h3
  have k4 := blk_bel hB h4
  refine ⟨?_, ?_, ?_, ?_⟩
  · exact (((hw.trans (hB.mono (by omega))).setCell (p := ⟨n + 2, 0, none⟩) (by show n ≤ n + 2; omega) x).setCell (p := ⟨n + 3, 0, none⟩) (by show n ≤ n + 3; omega) y).setCell (p := ⟨n + 4, 0, none⟩) (by show n ≤ n + 4; omega) _
  · exact blk_far (blk_far (blk_set (j := 0) k2 x) (p := ⟨n + 3, 0, none⟩) (by show n + 2 ≠ n + 3; omega) y) (p := ⟨n + 4, 0, none⟩) (by show n + 2 ≠ n + 4; omega) _
  · exact blk_far (blk_set (j := 0) (blk_far k3 (p := ⟨n + 2, 0, none⟩) (by show n + 3 ≠ n + 2; omega) x) y) (p := ⟨n + 4, 0, none⟩) (by show n + 3 ≠ n + 4; omega) _
  · exact blk_set (j := 0) (blk_far (blk_far k4 (p := ⟨n + 2, 0, none⟩) (by show n + 4 ≠ n + 2; omega) x) (p := ⟨n + 3, 0, none⟩) (by show n + 4 ≠ n + 3; omega) y) _
set_option maxRecDepth 100000 in
set_option maxHeartbeats 4000000 in
theorem c_says_yes (x : Policy) (d : Data) (hd : d.wf) (ok : Nat → Prop) (cs : List Value) (w : World) (hK : kPolicy.K w ok x cs) (hc : checkP x = 0) :
    Calls Try.prog 21 #[.agg cs.toArray, d.agg] w fun e w' => e = .returned (.tuple #[.int .u32 (saysW x d), .int .i64 (saysAt x d), .int .i64 0]) ∧ Below w.heap.size w w' := by
  have hK' := hK
  obtain ⟨A0, c0, rfl, ⟨l0, m0, r0⟩, g1⟩ := kPolicy.opn hK
  obtain ⟨rules, els⟩ := x
  obtain ⟨o, ho⟩ : ∃ o, firstH d rules = o := ⟨_, rfl⟩
  have hsome := fun (k : Nat) (h : o = some k) => says_some (x := ⟨rules, els⟩) (d := d) (k := k) (ho.trans h)
  have hnone := fun (h : o = none) => says_none (x := ⟨rules, els⟩) (d := d) (ho.trans h)
  generalize saysW ⟨rules, els⟩ d = sw at *
  generalize saysAt ⟨rules, els⟩ d = sa at *
  have hhd := fun W => c_holding A0 rules.length c0 els d W
  have hit := fun l J W bp bd hbp hbd hrow hJ hY h0 => holding1_in 2 (by omega) l rules els d hd A0 c0 bp bd ok J W hbp hbd hrow hJ hY h0
  simp only [ho] at hit
  have HSOME := Lib.hid hsome
  have HNONE := Lib.hid hnone
  clear hsome hnone ho
  have hwf := hd
  obtain ⟨nr, arch, ip, a0, a1, a2, a3, a4, a5⟩ := d
  unfold Data.agg at *
  simp only at *
  obtain ⟨n, hn⟩ : ∃ n, w.heap.size = n := ⟨_, rfl⟩
  obtain ⟨W5, hW5, hB5, h0, h1, h2, h3, h4, hs5⟩ := five w n hn (.cells #[.slice A0 rules.length c0, .int .u32 els] 25) (.cells #[.int .u32 nr, .int .u32 arch, .int .u64 ip, .int .u64 a0, .int .u64 a1, .int .u64 a2, .int .u64 a3, .int .u64 a4, .int .u64 a5] 47) (.cells #[.int .u32 0] 23) (.cells #[.int .i64 0] 3) (.cells #[.int .i64 0] 28)
  have hck := c_check ⟨rules, els⟩ ok _ W5 (Kd.bel (d := kPolicy) hK' (by rw [hn]; exact hB5))
  rw [hc] at hck
  have HCK := Lib.hid hck
  have HW5 := Lib.hid hW5
  have HB5 := Lib.hid hB5
  have H0 := Lib.hid h0
  have H1 := Lib.hid h1
  have H2 := Lib.hid h2
  have H3 := Lib.hid h3
  have H4 := Lib.hid h4
  have HS5 := Lib.hid hs5
  have HHD := Lib.hid hhd
  have HIT := Lib.hid hit
  have HR0 := Lib.hid r0
  have HN := Lib.hid hn
  have r0len := r0.1
  clear hck hc hK hK' r0 hW5 hB5 h0 h1 h2 h3 h4 hs5 hhd hit hd hwf
  refine (callsIn_wide (n := 3)).1 ?_
  have hro : Fence.wide.round = none := rfl
  refine callsIn_of_wp_marks Try.func21 rfl trivial ?_ hro
  simp only [Try.ntmps21, List.size_toArray, List.length_cons, List.length_nil, Nat.reduceAdd, Nat.reduceSub, Array.replicate_succ, Array.replicate_zero, List.push_toArray, List.append_toArray, List.nil_append, List.cons_append]
  gi_wp2_with fail
  refine ⟨trivial, ?_⟩
  rw [← HW5.out]
  refine (callsIn_wide.2 HCK.out).mono ?_
  rintro e w1 ⟨rfl, hB1⟩
  have b0 := blk_bel hB1 H0.out
  have b1 := blk_bel hB1 H1.out
  have x0 : w1.cell? ⟨n, 0, none⟩ = some (.slice A0 rules.length c0) := blk_cell b0 0
  have x1 : w1.cell? ⟨n, 1, none⟩ = some (.int .u32 els) := blk_cell b0 1
  have y0 : w1.cell? ⟨n + 1, 0, none⟩ = some (.int .u32 nr) := blk_cell b1 0
  have y1 : w1.cell? ⟨n + 1, 1, none⟩ = some (.int .u32 arch) := blk_cell b1 1
  have y2 : w1.cell? ⟨n + 1, 2, none⟩ = some (.int .u64 ip) := blk_cell b1 2
  have y3 : w1.cell? ⟨n + 1, 3, none⟩ = some (.int .u64 a0) := blk_cell b1 3
  have y4 : w1.cell? ⟨n + 1, 4, none⟩ = some (.int .u64 a1) := blk_cell b1 4
  have y5 : w1.cell? ⟨n + 1, 5, none⟩ = some (.int .u64 a2) := blk_cell b1 5
  have y6 : w1.cell? ⟨n + 1, 6, none⟩ = some (.int .u64 a3) := blk_cell b1 6
  have y7 : w1.cell? ⟨n + 1, 7, none⟩ = some (.int .u64 a4) := blk_cell b1 7
  have y8 : w1.cell? ⟨n + 1, 8, none⟩ = some (.int .u64 a5) := blk_cell b1 8
  have HB1 := Lib.hid hB1
  clear hB1 b0 b1
  gi_wp2_with fail
  refine ⟨trivial, ?_⟩
  refine (callsIn_wide.2 (HHD.out _)).mono ?_
  rintro e w2 ⟨rfl, hp2, hd2, hB2⟩
  have HP2 := Lib.hid hp2
  have HD2 := Lib.hid hd2
  have HB2 := Lib.hid (below_tr HB1.out hB2)
  clear hp2 hd2 hB2 x0 x1 y0 y1 y2 y3 y4 y5 y6 y7 y8
  gi_wp2_with fail
  have h12 := HB1.out.size
  have hs5' := HS5.out
  have hs2 : w1.heap.size + 2 ≤ w2.heap.size := by have := blk_lt HD2.out; omega
  have hn4 : n + 4 < w2.heap.size := by omega
  have HN4 := Lib.hid hn4
  have K2 := Lib.hid (blk_bel HB2.out H2.out)
  have K3 := Lib.hid (blk_bel HB2.out H3.out)
  have K4 := Lib.hid (blk_bel HB2.out H4.out)
  have K0 := Lib.hid (blk_bel HB2.out H0.out)
  have HBW2 := Lib.hid (HB5.out.trans (HB2.out.mono (by omega)))
  clear h12 hs5' hs2 hn4
  refine wpIn_range_once (α := Nat) (by omega) (gf := 60) (lb := #[.pointer (some ⟨w1.heap.size, 0, none⟩), .pointer (some ⟨w1.heap.size + 1, 0, none⟩)]) rfl (enters_of Try.func60 (by kernel_rfl) rfl)
    (encs := fun k => #[.int .i64 (k : Nat)]) (fun _ => rfl) o
    (fun l J W hW hJ hY h0 => HIT.out l J W w1.heap.size (w1.heap.size + 1) (blk_bel hW HP2.out) (blk_bel hW HD2.out) (HR0.out.bel ((by rw [HN.out]; exact HBW2.out : Below w.heap.size w w2).trans (hW.mono (by rw [HN.out]; have := HN4.out; omega)))) hJ hY h0)
    (SaysI w w2 n (.int .u32 sw) (.int .i64 sa)) (SaysI.abides HN4.out) (Below.refl _ _)
    (fun k => { tmps := #[.agg #[.slice A0 rules.length c0, .int .u32 els], .agg #[.int .u32 nr, .int .u32 arch, .int .u64 ip, .int .u64 a0, .int .u64 a1, .int .u64 a2, .int .u64 a3, .int .u64 a4, .int .u64 a5], .pointer (some ⟨n, 0, none⟩), .pointer (some ⟨n + 1, 0, none⟩), .pointer (some ⟨n + 1 + 1, 0, none⟩), .pointer (some ⟨n + 1 + 1 + 1, 0, none⟩), .pointer (some ⟨n + 1 + 1 + 1 + 1, 0, none⟩), .int .i64 0, .int .i64 k, .agg #[.slice A0 rules.length c0, .int .u32 els], .int .i64 0, .int .i64 0, .bool false, undef, .agg #[.slice A0 rules.length c0, .int .u32 els], .agg #[.int .u32 nr, .int .u32 arch, .int .u64 ip, .int .u64 a0, .int .u64 a1, .int .u64 a2, .int .u64 a3, .int .u64 a4, .int .u64 a5], .func (.func 60) #[] #[.pointer (some ⟨w1.heap.size, 0, none⟩), .pointer (some ⟨w1.heap.size + 1, 0, none⟩)], .int .i64 k, undef, undef, undef, undef, undef, undef, undef, undef, undef], defers := [] }) ?assign ?body ?done ?stop
  case assign =>
    intro l k W K hK
    gi_wp2
    exact hK
  case body =>
    intro l k W hk hI
    have hW : Below w2.heap.size w2 W := hI
    obtain ⟨hlt, rfl, rfl⟩ := HSOME.out k hk
    have hwW : Below w.heap.size w W := (by rw [HN.out]; exact HBW2.out : Below w.heap.size w w2).trans (hW.mono (by rw [HN.out]; have := HN4.out; omega))
    obtain ⟨ad, B0, d0, B3, d3, rfl, hok, -, e0, e1, e2, e3, e4⟩ := kRule.at_ (HR0.out.bel hwW) hlt
    rw [getElem!_pos rules k hlt]
    have hhW := SaysI.put (w := w) (x := .int .u32 rules[k].word) (y := .int .i64 k) HN4.out HBW2.out hW K2.out K3.out K4.out
    have x0 : W.cell? ⟨n, 0, none⟩ = some (.slice (some ad) rules.length c0) := blk_cell (blk_bel hW K0.out) 0
    have q2 : W.cell? ⟨n + 1 + 1, 0, none⟩ = some (.int .u32 0) := blk_cell (blk_bel hW K2.out) 0
    have q3 : W.cell? ⟨n + 1 + 1 + 1, 0, none⟩ = some (.int .i64 0) := blk_cell (blk_bel hW K3.out) 0
    have q4 : W.cell? ⟨n + 1 + 1 + 1 + 1, 0, none⟩ = some (.int .i64 0) := blk_cell (blk_bel hW K4.out) 0
    have f2 : W.frozen? ⟨n + 1 + 1, 0, none⟩ = false := blk_free (blk_bel hW K2.out) 0
    have f3 : W.frozen? ⟨n + 1 + 1 + 1, 0, none⟩ = false := blk_free (blk_bel hW K3.out) 0
    have f4 : W.frozen? ⟨n + 1 + 1 + 1 + 1, 0, none⟩ = false := blk_free (blk_bel hW K4.out) 0
    have hn := r0len
    have HHW := Lib.hid hhW
    clear hhW hwW hW hI e0 e1 e2 e3
    gi_wp2
    exact ⟨((KeepsOthers.setCell _ _ _).trans (KeepsOthers.setCell _ _ _)).trans (KeepsOthers.setCell _ _ _), HHW.out⟩
  case done =>
    intro hk D W hD hI hK
    have hW : Below w2.heap.size w2 W := hI
    have hsw := (HNONE.out hk).1.symm
    have hsa := (HNONE.out hk).2.symm
    subst hsw hsa
    have hhW := SaysI.put (w := w) (x := .int .u32 els) (y := .int .i64 (-1)) HN4.out HBW2.out hW K2.out K3.out K4.out
    have x1 : W.cell? ⟨n, 1, none⟩ = some (.int .u32 els) := blk_cell (blk_bel hW K0.out) 1
    have q2 : W.cell? ⟨n + 1 + 1, 0, none⟩ = some (.int .u32 0) := blk_cell (blk_bel hW K2.out) 0
    have q3 : W.cell? ⟨n + 1 + 1 + 1, 0, none⟩ = some (.int .i64 0) := blk_cell (blk_bel hW K3.out) 0
    have q4 : W.cell? ⟨n + 1 + 1 + 1 + 1, 0, none⟩ = some (.int .i64 0) := blk_cell (blk_bel hW K4.out) 0
    have f2 : W.frozen? ⟨n + 1 + 1, 0, none⟩ = false := blk_free (blk_bel hW K2.out) 0
    have f3 : W.frozen? ⟨n + 1 + 1 + 1, 0, none⟩ = false := blk_free (blk_bel hW K3.out) 0
    have f4 : W.frozen? ⟨n + 1 + 1 + 1 + 1, 0, none⟩ = false := blk_free (blk_bel hW K4.out) 0
    have HHW := Lib.hid hhW
    have HK := Lib.hid hK
    clear hhW hW hI hK
    have HK9 : Hid ((((W.setCell ⟨n + 2, 0, none⟩ (.int .u32 els)).setCell ⟨n + 3, 0, none⟩ (.int .i64 (-1))).setCell ⟨n + 4, 0, none⟩ (.int .i64 0)).heap[D]? = some (.deferred (some []))) := by
      have h4 := HN4.out
      exact blk_far (blk_far (blk_far HK.out (p := ⟨n + 2, 0, none⟩) (by show D ≠ n + 2; omega) _) (p := ⟨n + 3, 0, none⟩) (by show D ≠ n + 3; omega) _) (p := ⟨n + 4, 0, none⟩) (by show D ≠ n + 4; omega) _
    gi_wp2
    refine ⟨by simp, .inl ⟨_, _, rfl, run_takeDeferred HK9.out, ?_⟩⟩
    have hI9 := SaysI.abides HN4.out _ _ _ HHW.out (below_put (B := w2.heap.size) _ _ (.deferred none) hD HK9.out)
    clear HHW HK HK9
    obtain ⟨hb9, z2, z3, z4⟩ := hI9
    have k2 := blk_cell z2 0
    have k3 := blk_cell z3 0
    have k4 := blk_cell z4 0
    simp only [List.getElem?_toArray, List.getElem?_cons_zero] at k2 k3 k4
    refine ⟨.tuple #[.int .u32 els, .int .i64 (-1), .int .i64 0], by simp [results, Try.results21, go_sem, k2, k3, k4], rfl, ?_⟩
    first | exact hb9 | (rw [HN.out]; exact hb9)
  case stop =>
    intro k hk D W hD hI hK
    gi_wp2
    refine ⟨by simp, .inl ⟨_, _, rfl, run_takeDeferred hK, ?_⟩⟩
    have hI9 := SaysI.abides HN4.out _ _ _ hI (below_put (B := w2.heap.size) _ _ (.deferred none) hD hK)
    clear hI hK
    obtain ⟨hb9, z2, z3, z4⟩ := hI9
    have k2 := blk_cell z2 0
    have k3 := blk_cell z3 0
    have k4 := blk_cell z4 0
    simp only [List.getElem?_toArray, List.getElem?_cons_zero] at k2 k3 k4
    refine ⟨.tuple #[.int .u32 sw, .int .i64 sa, .int .i64 0], by simp [results, Try.results21, go_sem, k2, k3, k4], rfl, ?_⟩
    first | exact hb9 | (rw [HN.out]; exact hb9)
end Go.Proofs.Ytiepnnjodmkolaa
