/- The walks of a policy's program: put, arches, of, program. -/
import Derived.Test.YtiepnnjodmkolaaC2
import Derived.Test.YtiepnnjodmkolaaBA
namespace Go.Proofs.Ytiepnnjodmkolaa
open Go.RowKit Go.Shelf
set_option linter.unusedVariables false
set_option linter.unusedSimpArgs false

theorem infoInsn : (Try.prog.info? 39).map (fun i => (i.zero, i.size, i.bytes)) = some (some (.agg #[.int .u16 0, .int .u8 0, .int .u8 0, .int .u32 0]), 4, 8) := by kernel_rfl
theorem add0 (g n : Nat) : (⟨g, 0, none⟩ : Addr).add n = ⟨g, n, none⟩ := by unfold Addr.add; split <;> simp_all
/-- An element of a row of the call's own. -/
theorem own_insn {w : World} {e : TypeId} {base g n c : Nat} {ok : Nat → Prop} {xs : List Insn} (h : kInsn.Own e w base ok (.slice (some ⟨g, 0, none⟩) n c) xs) {i : Nat} (hi : i < xs.length) : xs[i].wf ∧ w.cell? ⟨g, i * 4, none⟩ = some (.int .u16 xs[i].code) ∧ w.cell? ⟨g, i * 4 + 1, none⟩ = some (.int .u8 xs[i].jt) ∧ w.cell? ⟨g, i * 4 + 2, none⟩ = some (.int .u8 xs[i].jf) ∧ w.cell? ⟨g, i * 4 + 3, none⟩ = some (.int .u32 xs[i].k) ∧ ∀ j, w.frozen? ⟨g, j, none⟩ = false := by
  obtain ⟨g', c', e1, _, _, _, hf⟩ := h.at_ (by omega)
  simp only [Value.slice.injEq, Option.some.injEq, Addr.mk.injEq, and_true] at e1
  obtain ⟨rfl, _⟩ := e1
  obtain ⟨A, c', e1, _, _, hrow⟩ := h.K
  simp only [List.cons.injEq, Value.slice.injEq, and_true] at e1
  obtain ⟨rfl, _⟩ := e1
  obtain ⟨ad, e1, _, hw, e0, e1', e2, e3⟩ := kInsn.at_ hrow hi
  injection e1 with e1
  subst e1
  simp only [add0] at e0 e1' e2 e3
  exact ⟨hw, e0, e1', e2, e3, hf⟩
theorem kInsn_any {w w' : World} {ok ok' : Nat → Prop} {x : Insn} {cs : List Value} (h : kInsn.K w ok x cs) : kInsn.K w' ok' x cs := h
/-- What a block of instructions holds: a row of the call's own, behind one cell. -/
def Blk (w : World) (b : Nat) (ok : Nat → Prop) (xs : List Insn) : Prop :=
  ∃ v, w.heap[b]? = some (.cells #[v] 115 (0, 0)) ∧ kInsn.Own 39 w (b + 1) (fun k => b < k ∧ ok k) v xs
def okAny : Nat → Prop := fun _ => True
theorem Blk.bel {w w1 : World} {b : Nat} {ok : Nat → Prop} {xs : List Insn} (h : Blk w b ok xs) (hb : Below w.heap.size w w1) : Blk w1 b ok xs := by
  obtain ⟨v, h1, h2⟩ := h
  exact ⟨v, blk_bel hb h1, h2.bel hb⟩
theorem Blk.mono {w : World} {b : Nat} {ok ok' : Nat → Prop} {xs : List Insn} (h : Blk w b ok xs) (hk : ∀ k, k < w.heap.size → ok k → ok' k) : Blk w b ok' xs := by
  obtain ⟨v, h1, h2⟩ := h
  exact ⟨v, h1, Kd.Own.mono (fun k hk' => ⟨hk'.1.1, hk k hk'.2 hk'.1.2⟩) h2.bound⟩
theorem Blk.lt {w : World} {b : Nat} {ok : Nat → Prop} {xs : List Insn} (h : Blk w b ok xs) : b < w.heap.size := by
  obtain ⟨v, h1, h2⟩ := h
  exact blk_lt h1
set_option maxHeartbeats 400000 in
theorem c_put (b : Nat) (ok : Nat → Prop) (A : Option Addr) (m c : Nat) (ys xs : List Insn) (okS : Nat → Prop) (w : World) (hb : Blk w b ok xs) (hR : kInsn.Row w okS A ys) (hm : m = ys.length) (hl : xs.length + m ≤ 1000000) (hokn : ∀ k, w.heap.size ≤ k → ok k) :
    Calls Try.prog 71 #[.pointer (some ⟨b, 0, none⟩), .slice A m c] w fun e w' => e = .returned (.tuple #[]) ∧ Blk w' b ok (xs ++ ys) ∧ Below b w w' ∧ w.heap.size ≤ w'.heap.size ∧ Hid (∀ k, k < w.heap.size → k ≠ b → ¬ ok k → w'.heap[k]? = w.heap[k]?) := by
  subst hm
  obtain ⟨v, hblk, hO⟩ := hb
  obtain ⟨Av, cv, rfl, _, _⟩ := hO.form
  have hcell : w.cell? ⟨b, 0, none⟩ = some (.slice Av xs.length cv) := blk_cell hblk 0
  have hsz : b < w.heap.size := blk_lt hblk
  have hne : some b ≠ (Value.slice Av xs.length cv).ownBlock := hO.ne (by omega)
  have HN := Lib.hid hne
  have HK := Lib.hid hokn
  clear hne hokn
  go_enter Try.func71, Try.ntmps71
  go_wp2_with (first | (at_builtin; refine wp_append_kd rfl _ _ 32 39 _ 8 rfl Try.underlying32 infoInsn rfl (.slice Av xs.length cv) xs A ys.length c ys rfl rfl hO rfl hR (fun _ _ h => h) (by unfold maxLen; omega) (by omega) (by omega) (fun k hk => ⟨by omega, HK.out k hk⟩) ?_; intro v1 w1 hO1 hg1 hat1; obtain ⟨A1, c1, rfl, _, _⟩ := hO1.form; have hb1 := (hg1.block b hsz HN.out).trans hblk; have hc1 := blk_cell hb1 0; have hf1 := blk_free hb1 0))
  go_end0
  simp only [List.length_append] at hO1
  have hB1 : Below b w w1 := (Below.refl b w).grown hg1 (by omega) (fun k hk => by have := hO.le k hk; omega)
  refine ⟨rfl, ⟨_, blk_set hb1 _, hO1.far (p := ⟨b, 0, none⟩) (fun k hk => by show k ≠ b; omega) _⟩, hB1.setCell (p := ⟨b, 0, none⟩) (Nat.le_refl _) _, ?_, ?_⟩
  · have := hg1.size
    simp only [World.size_setCell]
    exact this
  · intro k hk hkb hko
    rw [Below.heap_setCell _ _ _ _ (by show k ≠ b; exact hkb)]
    exact hg1.block k hk (fun e => hko (hO.ok_ k e.symm).2)

/-- An instruction of a code and a number. -/
def insn (code k : Int) : Insn := ⟨code, 0, 0, k⟩
/-- A row of instructions, just laid. -/
theorem lit_row {w : World} {e : TypeId} (xs : List Insn) (cells : Array Value) (hc : cells = (xs.flatMap Insn.cells).toArray) (hw : ∀ x ∈ xs, x.wf) (hm : xs.length ≤ 1000) : kInsn.Row (w.alloc (.cells cells e)) (fun _ => True) (some ⟨w.heap.size, 0, none⟩) xs := by
  subst hc
  have hr : Kd.Reps (kInsn.K w (fun _ => True)) xs (xs.flatMap Insn.cells) := by
    clear hm
    induction xs with
    | nil => rfl
    | cons x xs ih => exact ⟨x.cells, xs.flatMap Insn.cells, by simp, ⟨rfl, hw x (by simp)⟩, ih (fun y hy => hw y (by simp [hy]))⟩
  have h := (Kd.Own.lit (d := kInsn) (e := e) (base := 0) (n := xs.length) rfl hr (Nat.zero_le _) (by unfold maxLen; omega) trivial).K
  obtain ⟨A, c, e1, _, _, h⟩ := h
  simp only [List.cons.injEq, Value.slice.injEq, and_true] at e1
  rw [e1.1]
  exact h
theorem wf1 {x : Insn} (h : x.wf) : ∀ y ∈ [x], y.wf := fun y hy => by rw [List.mem_singleton.1 hy]; exact h
theorem insn_wf {c k : Int} (hc : 0 ≤ c ∧ c < 65536) (hk : 0 ≤ k ∧ k < 4294967296) : (insn c k).wf := ⟨hc, (by decide : (0 : Int) ≤ 0 ∧ (0 : Int) < 256), (by decide : (0 : Int) ≤ 0 ∧ (0 : Int) < 256), hk⟩
def archIns (l : List Int) : List Insn := l.zipIdx.map fun p => ⟨21, ((l.length : Int) - p.2) % 256, 0, p.1⟩
theorem archIns_length (l : List Int) : (archIns l).length = l.length := by simp [archIns]
theorem archIns_take (l : List Int) (k : Nat) (hk : k < l.length) : (archIns l).take (k + 1) = (archIns l).take k ++ [⟨21, ((l.length : Int) - k) % 256, 0, l[k]⟩] := by
  rw [List.take_succ_eq_append_getElem (by rw [archIns_length]; exact hk)]
  simp [archIns]
def archBlk (l : List Int) : List Insn := if l.length = 0 then [] else insn 32 4 :: (archIns l ++ [insn 5 0])
set_option maxHeartbeats 1000000 in
theorem c_arches (b : Nat) (A : Option Addr) (c : Nat) (l : List Int) (w : World) (hb : Blk w b okAny []) (hR : (Kd.int .u32).Row w (fun k => k < b) A l) (hl : l.length ≤ 1000) :
    Calls Try.prog 70 #[.pointer (some ⟨b, 0, none⟩), .slice A l.length c] w fun e w' => e = .returned (.tuple #[]) ∧ Blk w' b okAny (archBlk l) ∧ Below b w w' ∧ w.heap.size ≤ w'.heap.size := by
  by_cases h0 : l.length = 0
  · obtain rfl : l = [] := List.eq_nil_of_length_eq_zero h0
    go_enter Try.func70, Try.ntmps70
    go_wp2
    refine bodyPost_ret (results_none rfl _ _ _) rfl ?_
    exact ⟨rfl, hb, Below.refl _ _, Nat.le_refl _⟩
  · have h0' : ((l.length : Int) == 0) = false := by rw [beq_eq_false_iff_ne]; omega
    have HL := Lib.hid h0
    have hbs : b < w.heap.size := hb.lt
    have hn := hR.1
    clear h0
    go_enter Try.func70, Try.ntmps70
    go_wp2_with fail
    refine (c_put b okAny _ 1 1 [insn 32 4] [] _ _ (hb.bel (below_al (Below.refl _ _) _)) (lit_row [insn 32 4] _ rfl (wf1 (insn_wf (by decide) (by decide))) (by decide)) rfl (by decide) (fun _ _ => trivial)).mono ?_
    rintro e w1 ⟨rfl, hb1, hB1, hs1, _⟩
    have hB1' : Below b w w1 := ((Below.refl b w).alloc (by omega) _).trans hB1
    go_wp2_with fail
    go_loopw [15] (fun i wr => ∃ k : Nat, k ≤ l.length ∧ i = .int .i64 k ∧ Below b w wr ∧ w.heap.size ≤ wr.heap.size ∧ Blk wr b okAny (insn 32 4 :: (archIns l).take k)) (fun i _ => l.length - (intOf i).toNat)
    case atStart => exact ⟨0, Nat.zero_le _, rfl, hB1', by have := hs1; simp at this; omega, by simpa using hb1⟩
    case round =>
      obtain ⟨k, hk, rfl, hB, hs, hb2⟩ := hrel
      by_cases hlt : k < l.length
      · obtain ⟨ad, rfl, hok, hr, c0⟩ := Kd.int_at (hR.move (fun k hk _ => hB.block k hk)) hlt
        go_wp2_with fail
        have hwf : (⟨21, ((l.length : Int) - k) % 256, 0, l[k]⟩ : Insn).wf := ⟨(by decide : (0 : Int) ≤ 21 ∧ (21 : Int) < 65536), ⟨Int.emod_nonneg _ (by decide), Int.emod_lt_of_pos _ (by decide)⟩, (by decide : (0 : Int) ≤ 0 ∧ (0 : Int) < 256), hr⟩
        have hbs2 := hb2.lt
        refine (c_put b okAny _ 1 1 [⟨21, ((l.length : Int) - k) % 256, 0, l[k]⟩] _ _ _ (hb2.bel (below_al (Below.refl _ _) _)) (lit_row [⟨21, ((l.length : Int) - k) % 256, 0, l[k]⟩] _ rfl (wf1 hwf) (by simp)) rfl (by simp [archIns]; omega) (fun _ _ => trivial)).mono ?_
        rintro e w2 ⟨rfl, hb4, hB4, hs4, _⟩
        have h4 := (hB.alloc (by omega) _).trans hB4
        rw [List.cons_append, ← archIns_take l k hlt] at hb4
        have hs5 := h4.size
        clear hs4 hB4 hb2
        go_wp2_with fail
        go_roundw
        case rel => exact ⟨k + 1, by omega, by go_num, h4, hs5, hb4⟩
        case measure => simp [intOf]; omega
      · obtain rfl : k = l.length := by omega
        have hb3 : Blk wr b okAny (insn 32 4 :: archIns l) := by rw [List.take_of_length_le (by simp [archIns])] at hb2; exact hb2
        have hbs2 := hb3.lt
        go_wp2_with fail
        refine (c_put b okAny _ 1 1 [insn 5 0] _ _ _ (hb3.bel (below_al (Below.refl _ _) _)) (lit_row [insn 5 0] _ rfl (wf1 (insn_wf (by decide) (by decide))) (by decide)) rfl (by simp [archIns]; omega) (fun _ _ => trivial)).mono ?_
        rintro e w2 ⟨rfl, hb4, hB4, hs4, _⟩
        go_wp2_with fail
        go_end0
        have h4 := (hB.alloc (by omega) _).trans hB4
        exact ⟨rfl, by unfold archBlk; rw [if_neg HL.out]; exact hb4, h4, h4.size⟩

def offs (t : Test) : Int := 16 + 8 * t.arg + if t.high then 4 else 0
set_option maxHeartbeats 400000 in
theorem c_offset (x : Test) (w : World) (h0 : 0 ≤ x.arg) (h6 : x.arg < 6) :
    Calls Try.prog 54 #[x.agg] w fun e w' => e = .returned (.int .u32 (offs x)) ∧ Below w.heap.size w w' := by
  obtain ⟨a, h, m, v⟩ := x
  unfold Test.agg offs
  simp only at h0 h6
  cases h <;>
  · go_enter Try.func54, Try.ntmps54
    go_wp2
    go_ret
    refine ⟨ret_i ?_, (Below.refl _ _).alloc (Nat.le_refl _) _⟩
    simp
    try omega

def tests3 (l : List Test) : List Insn := l.flatMap fun t => [insn 32 (offs t), insn 84 t.mask, insn 21 t.value]
def baseOf (r : Rule) : List Insn := archBlk r.archs ++ [insn 32 0, insn 53 r.lo, insn 37 r.hi] ++ tests3 r.tests ++ [insn 6 r.word]
def patch (first n i : Nat) (x : Insn) : Insn :=
  if x.code = 5 then { x with k := (n : Int) - 1 - i } else if x.code = 37 then { x with jt := (n : Int) - 1 - i }
  else if x.code = 53 ∨ (x.code = 21 ∧ first < i) then { x with jf := (n : Int) - 1 - i } else x
def ofR (r : Rule) : List Insn := (baseOf r).mapIdx fun i x => patch r.archs.length (baseOf r).length i x

end Go.Proofs.Ytiepnnjodmkolaa
