/- The walks of the reference's children and Find. -/
import Derived.Test.YtbojjjiggppnaaaGreatM5
import Derived.Test.YtbojjjiggppnaaaGreatBB
import Derived.Deep.Cut
namespace Go.Proofs.YtbojjjiggppnaaaGreat
open Go.RowKit Go.Shelf
set_option linter.unusedVariables false
set_option linter.unusedSimpArgs false

theorem kids_step {xs : List Node} {k : Nat} (hk : k < xs.length) (t : Int) : kids (xs.take (k + 1)) t = kids (xs.take k) t + (if xs[k].parent = t then 1 else 0) := by
  unfold kids
  rw [List.take_succ_eq_append_getElem hk, List.countP_append]
  simp [List.countP_cons]
set_option maxHeartbeats 2000000 in
theorem c_children (xs : List Node) (c : Nat) (A : Option Addr) (t : Int) (ok : Nat → Prop) (w : World) (hC : kNode.Row w ok A xs) :
    Calls Tryz.prog 101 #[.agg #[.slice A xs.length c], .int .i64 t] w fun e w' => e = .returned (.int .i64 (kids xs t)) ∧ Below w.heap.size w w' := by
  have hB1 : Below w.heap.size w (w.alloc (.cells #[.slice A xs.length c] 31)) := below_al (Below.refl _ _) _
  have hxn := hC.1
  have HR := Lib.hid (hC.bel hB1)
  have HB1 := Lib.hid hB1
  have HX := Lib.hid (blk_new w (.cells #[.slice A xs.length c] 31))
  clear hC hB1
  go_enter Tryz.func101, Tryz.ntmps101
  go_wp2_with fail
  generalize (w.alloc (.cells #[.slice A xs.length c] 31)) = W1 at *
  go_loopw [5, 6] (fun s i wr => ∃ k : Nat, k ≤ xs.length ∧ i = .int .i64 k ∧ s = .int .i64 (kids (xs.take k) t) ∧ Below W1.heap.size W1 wr) (fun _ i _ => xs.length - (intOf i).toNat)
  case atStart => exact ⟨0, Nat.zero_le _, rfl, by simp [kids], Below.refl _ _⟩
  case round =>
    obtain ⟨k, hk, rfl, rfl, hB⟩ := hrel
    have hx : wr.cell? ⟨w.heap.size, 0, none⟩ = some (.slice A xs.length c) := cell_bel hB (blk_cell HX.out 0)
    by_cases hlt : k < xs.length
    · obtain ⟨ad, A2, c2, rfl, hok, -, e0, e1, e2, e3, e4, e5, e6⟩ := kNode.at_ (HR.out.bel hB) hlt
      have hk0 : (0 : Int) ≤ (k : Int) := by omega
      have hk1 : (k : Int) < (xs.length : Int) := by omega
      have HS := Lib.hid (kids_step hlt t)
      have hle := kids_le (xs.take k) t
      rw [List.length_take] at hle
      generalize xs[k] = x at *
      generalize kids (xs.take k) t = kv at *
      clear e0 e2 e3 e4 e5 e6
      by_cases hp : x.parent = t
      · have HS' : Hid (kids (xs.take (k + 1)) t = kv + 1) := by rw [HS.out, if_pos hp]; exact rfl
        have hp' : (x.parent == t) = true := by rw [beq_iff_eq]; exact hp
        generalize x.parent = pp at *
        clear HS hp
        go_wp2_with fail
        go_roundw
        case rel => exact ⟨k + 1, by omega, by go_num, by rw [HS'.out]; go_num, hB⟩
        case measure => simp [intOf]; omega
      · have HS' : Hid (kids (xs.take (k + 1)) t = kv) := by rw [HS.out, if_neg hp]; exact rfl
        have hp' : (x.parent == t) = false := by rw [beq_eq_false_iff_ne]; exact hp
        generalize x.parent = pp at *
        clear HS hp
        go_wp2_with fail
        go_roundw
        case rel => exact ⟨k + 1, by omega, by go_num, by rw [HS'.out], hB⟩
        case measure => simp [intOf]; omega
    · obtain rfl : k = xs.length := by omega
      rw [List.take_length]
      go_wp2_with fail
      go_ret
      exact ⟨rfl, HB1.out.trans (hB.mono HB1.out.size)⟩
theorem results_ct {P : Program} {fn : Func} {p u : Tmp} {ty : TypeId} (h : fn.results = #[.cell p ty, .tmp u]) (tmps : Array Value) (w : World) (g : Nat) (t : TypeId) (cs : Array Value) (fr : Nat × Nat) (d : TypeDesc)
    (hp : tmps.getD p undef = .pointer (some ⟨g, 0, none⟩)) (hg : w.heap[g]? = some (.cells cs t fr))
    (hu : P.underlying ty = some d) (hd : (match d with | .struct _ | .array _ _ => true | _ => false) = true) (hi : (P.info? ty).map (·.size) = some cs.size) :
    (results fn tmps).run P w = .ok (.tuple #[.agg cs, tmps.getD u undef]) w := by
  have hp' : tmps[p]?.getD undef = .pointer (some ⟨g, 0, none⟩) := by simpa using hp
  simp [results, h, hp', asAddr, run_loadVar_row w g t ty cs fr d hg hu hd hi]
theorem zNode_K (w : World) (ok : Nat → Prop) : kNode.K w ok zNode [.int .i64 0, .int .i64 0, .slice none 0 0, .int .i64 0, .int .i64 0, .int .u64 0, .int .u64 0] :=
  kNode.mk (x := zNode) (A2 := none) (c2 := 0) ⟨by decide, by decide⟩ ⟨by decide, by decide⟩ ⟨by decide, by decide, Kd.Row.nil _ _ _ _⟩ ⟨by decide, by decide⟩ ⟨by decide, by decide⟩ ⟨by decide, by decide⟩ ⟨by decide, by decide⟩
theorem find_first {xs : List Node} {t : Int} {k : Nat} (hk : k < xs.length) (h : xs[k].id = t) (hno : ∀ j (hj : j < xs.length), j < k → xs[j].id ≠ t) : findN xs t = some xs[k] := by
  unfold findN
  rw [List.find?_eq_some_iff_getElem]
  exact ⟨by simp [h], k, hk, rfl, fun j hj => by simpa using hno j (by omega) hj⟩
theorem find_none {xs : List Node} {t : Int} (hno : ∀ j (hj : j < xs.length), xs[j].id ≠ t) : findN xs t = none := by
  unfold findN
  rw [List.find?_eq_none]
  intro x hx
  obtain ⟨k, hk, rfl⟩ := List.getElem_of_mem hx
  simpa using hno k hk
set_option maxHeartbeats 2000000 in
theorem c_refFind (xs : List Node) (c : Nat) (A : Option Addr) (t : Int) (ok : Nat → Prop) (w : World) (hC : kNode.Row w ok A xs) :
    Calls Tryz.prog 46 #[.agg #[.slice A xs.length c], .int .i64 t] w fun e w' => ∃ ds : List Value, e = .returned (.tuple #[.agg ds.toArray, .bool (findN xs t).isSome]) ∧ kNode.K w' ok ((findN xs t).getD zNode) ds ∧ Below w.heap.size w w' := by
  have hxn := hC.1
  obtain ⟨n, hn⟩ : ∃ n, w.heap.size = n := ⟨_, rfl⟩
  have hB1 : Below w.heap.size w ((w.alloc (.cells #[.slice A xs.length c] 31)).alloc (.cells #[.int .i64 0, .int .i64 0, .slice none 0 0, .int .i64 0, .int .i64 0, .int .u64 0, .int .u64 0] 65)) := below_al (below_al (Below.refl _ _) _) _
  have f1 : ((w.alloc (.cells #[.slice A xs.length c] 31)).alloc (.cells #[.int .i64 0, .int .i64 0, .slice none 0 0, .int .i64 0, .int .i64 0, .int .u64 0, .int .u64 0] 65)).heap[n]? = some (.cells #[.slice A xs.length c] 31) := by rw [← hn]; exact blk_al (blk_new _ _) _
  have f2 : ((w.alloc (.cells #[.slice A xs.length c] 31)).alloc (.cells #[.int .i64 0, .int .i64 0, .slice none 0 0, .int .i64 0, .int .i64 0, .int .u64 0, .int .u64 0] 65)).heap[n + 1]? = some (.cells #[.int .i64 0, .int .i64 0, .slice none 0 0, .int .i64 0, .int .i64 0, .int .u64 0, .int .u64 0] 65) := by
    have h := blk_new (w.alloc (.cells #[.slice A xs.length c] 31)) (.cells #[.int .i64 0, .int .i64 0, .slice none 0 0, .int .i64 0, .int .i64 0, .int .u64 0, .int .u64 0] 65)
    rwa [World.size_alloc, hn] at h
  have HR := Lib.hid (hC.bound.bel hB1)
  have HB1 := Lib.hid hB1
  have F1 := Lib.hid f1
  have F2 := Lib.hid f2
  have HN := Lib.hid hn
  clear hC hB1 f1 f2
  go_enter Tryz.func46, Tryz.ntmps46
  go_wp2_with fail
  generalize ((w.alloc (.cells #[.slice A xs.length c] 31)).alloc (.cells #[.int .i64 0, .int .i64 0, .slice none 0 0, .int .i64 0, .int .i64 0, .int .u64 0, .int .u64 0] 65)) = W1 at *
  clear hn
  go_loopw [6] (fun i wr => ∃ k : Nat, k ≤ xs.length ∧ i = .int .i64 k ∧ Hid (∀ j (hj : j < xs.length), j < k → xs[j].id ≠ t) ∧ wr = W1) (fun i _ => xs.length - (intOf i).toNat)
  case atStart => exact ⟨0, Nat.zero_le _, rfl, fun j _ h => absurd h (Nat.not_lt_zero _), rfl⟩
  case round =>
    obtain ⟨k, hk, rfl, hno, rfl⟩ := hrel
    have hx : wr.cell? ⟨n, 0, none⟩ = some (.slice A xs.length c) := blk_cell F1.out 0
    by_cases hlt : k < xs.length
    · obtain ⟨ad, A2, c2, rfl, hok, ⟨g0, g1, g2, g3, g4, g5, g6⟩, e0, e1, e2, e3, e4, e5, e6⟩ := kNode.at_ HR.out hlt
      have hk0 : (0 : Int) ≤ (k : Int) := by omega
      have hk1 : (k : Int) < (xs.length : Int) := by omega
      have q2 := g2.2.2.1
      by_cases hp : xs[k].id = t
      · have HF := Lib.hid (find_first hlt hp hno.out)
        have HK := Lib.hid (kNode.mk (x := xs[k]) g0 g1 g2 g3 g4 g5 g6)
        clear hno g0 g1 g2 g3 g4 g5 g6
        have hp' : (xs[k].id == t) = true := by rw [beq_iff_eq]; exact hp
        clear hp
        generalize xs[k] = x at *
        go_upto_region 5 with fail
        go_wp2_with (first | (refine wpList_store_row (w := wr) rfl _ _ _ rfl (n + 1) #[.int .i64 x.id, .int .i64 x.parent, .slice A2 x.program.length c2, .int .i64 x.size, .int .i64 x.count, .int .u64 x.one, .int .u64 x.two] rfl rfl _ _ F2.out (by kernel_rfl) (by rfl) (by kernel_rfl) ?_; intro W6 hW6))
        refine bodyPost_ret (results_ct rfl _ _ (n + 1) _ #[.int .i64 x.id, .int .i64 x.parent, .slice A2 x.program.length c2, .int .i64 x.size, .int .i64 x.count, .int .u64 x.one, .int .u64 x.two] _ _ rfl hW6.here Tryz.underlying65 rfl (by kernel_rfl)) rfl ?_
        refine ⟨[.int .i64 x.id, .int .i64 x.parent, .slice A2 x.program.length c2, .int .i64 x.size, .int .i64 x.count, .int .u64 x.one, .int .u64 x.two], by rw [HF.out]; rfl, ?_, HB1.out.trans (hW6.bel.mono (by rw [HN.out]; omega))⟩
        rw [HF.out]
        exact kNode.mono (fun q hq => hq.1) (Kd.move (d := kNode) HK.out (fun q hq _ => hW6.far q (by have := hq.2; rw [HN.out] at this; omega)))
      · have hno' : Hid (∀ j (hj : j < xs.length), j < k + 1 → xs[j].id ≠ t) := fun j hj hjk => by
          rcases Nat.lt_succ_iff_lt_or_eq.1 hjk with h | rfl
          · exact hno.out j hj h
          · exact hp
        have hp' : (xs[k].id == t) = false := by rw [beq_eq_false_iff_ne]; exact hp
        clear hp hno g0 g1 g2 g3 g4 g5 g6
        generalize xs[k] = x at *
        go_wp2_with fail
        go_roundw
        case rel => exact ⟨k + 1, by omega, by go_num, hno', by first | exact trivial | rfl⟩
        case measure => simp [intOf]; omega
    · obtain rfl : k = xs.length := by omega
      have HF := Lib.hid (find_none (fun j hj => hno.out j hj hj))
      clear hno
      go_upto_region 6 with fail
      go_wp2_with (first | (refine wpList_store_row (w := wr) rfl _ _ _ rfl (n + 1) #[.int .i64 0, .int .i64 0, .slice none 0 0, .int .i64 0, .int .i64 0, .int .u64 0, .int .u64 0] rfl rfl _ _ F2.out (by kernel_rfl) (by rfl) (by kernel_rfl) ?_; intro W6 hW6))
      refine bodyPost_ret (results_ct rfl _ _ (n + 1) _ #[.int .i64 0, .int .i64 0, .slice none 0 0, .int .i64 0, .int .i64 0, .int .u64 0, .int .u64 0] _ _ rfl hW6.here Tryz.underlying65 rfl (by kernel_rfl)) rfl ?_
      refine ⟨[.int .i64 0, .int .i64 0, .slice none 0 0, .int .i64 0, .int .i64 0, .int .u64 0, .int .u64 0], by rw [HF.out]; rfl, ?_, HB1.out.trans (hW6.bel.mono (by rw [HN.out]; omega))⟩
      rw [HF.out]
      exact zNode_K _ _
end Go.Proofs.YtbojjjiggppnaaaGreat
