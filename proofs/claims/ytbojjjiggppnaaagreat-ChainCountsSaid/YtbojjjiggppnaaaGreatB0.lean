/- What a value's cells say, kind by kind, with the blocks that it reaches: the words that the walks of this seat share. No program in sight. -/
import Derived.Below
import Derived.Maps.AppendAt
import Derived.OwnWalk
import Derived.Laws.OwnMore
import Derived.Deep.OwnRows
import Derived.Deep.Slices
import Derived.Deep.Draws
import Derived.Deep.QuietTactic
import Derived.BigQuiet
import Derived.Deep.LoopGhost
import Derived.OpenShut
import Derived.WalkKit
import Derived.KernelRfl
import Derived.RowKit3
import Derived.ArgAppend
import Derived.Lib.SliceRun
import Derived.Shelf.Abstract
import Derived.Lib.Hide
import Derived.Outline
namespace Go.Proofs.YtbojjjiggppnaaaGreat
open Go.RowKit

/-! ### worlds -/
theorem below_al {w W : World} (h : Below w.heap.size w W) (o : Obj) : Below w.heap.size w (W.alloc o) := h.alloc h.size o
theorem below_dN {B : Nat} {w W : World} (h : Below B w W) (n : Nat) : Below B w (W.drewN n) := ⟨h.os, h.tape, h.output, h.size, h.block⟩
theorem below_d1 {B : Nat} {w W : World} (h : Below B w W) : Below B w W.drew := ⟨h.os, h.tape, h.output, h.size, h.block⟩
/-- First up to w1, from below; then on. -/
theorem below_then {B : Nat} {w w1 w2 : World} (h : Below B w w1) (hB : B ≤ w1.heap.size) (k : Below w1.heap.size w1 w2) : Below B w w2 :=
  h.trans (k.mono hB)
theorem below_tr {w w1 w2 : World} (h : Below w.heap.size w w1) (k : Below w1.heap.size w1 w2) : Below w.heap.size w w2 := below_then h h.size k
theorem cell_bel {w w1 : World} (h : Below w.heap.size w w1) {a : Addr} {v : Value} (hc : w.cell? a = some v) : w1.cell? a = some v := (h.cell (World.block_lt_of_cell? w a hc)).trans hc
theorem blk_lt {w : World} {b : Nat} {o : Obj} (h : w.heap[b]? = some o) : b < w.heap.size := (Array.getElem?_eq_some_iff.1 h).1
theorem blk_bel {w w1 : World} (h : Below w.heap.size w w1) {b : Nat} {o : Obj} (hb : w.heap[b]? = some o) : w1.heap[b]? = some o := (h.block b (blk_lt hb)).trans hb
theorem blk_cell {w : World} {b : Nat} {cs : Array Value} {t : TypeId} {f : Nat × Nat} (hb : w.heap[b]? = some (.cells cs t f)) (j : Nat) : w.cell? ⟨b, j, none⟩ = cs[j]? := by simp [World.cell?, hb]
theorem blk_free {w : World} {b : Nat} {cs : Array Value} {t : TypeId} (hb : w.heap[b]? = some (.cells cs t (0, 0))) (j : Nat) : w.frozen? ⟨b, j, none⟩ = false := by simp [World.frozen?, hb]
theorem blk_new (w : World) (o : Obj) : (w.alloc o).heap[w.heap.size]? = some o := heap_alloc_new w o
theorem blk_set {w : World} {b j : Nat} {cs : Array Value} {t : TypeId} {f : Nat × Nat} (hb : w.heap[b]? = some (.cells cs t f)) (u : Value) : (w.setCell ⟨b, j, none⟩ u).heap[b]? = some (.cells (cs.setIfInBounds j u) t f) := by
  simp [World.setCell, Array.getElem?_modify, hb]
theorem blk_far {w : World} {b : Nat} {o : Obj} (hb : w.heap[b]? = some o) {p : Addr} (hne : b ≠ p.block) (u : Value) : (w.setCell p u).heap[b]? = some o := (Below.heap_setCell w p u b hne).trans hb
theorem blk_al {w : World} {b : Nat} {o : Obj} (hb : w.heap[b]? = some o) (o' : Obj) : (w.alloc o').heap[b]? = some o := (Below.heap_alloc w o' b (blk_lt hb)).trans hb
theorem blk_dN {w : World} {b : Nat} {o : Obj} (hb : w.heap[b]? = some o) (n : Nat) : (w.drewN n).heap[b]? = some o := hb
theorem size_dN (w : World) (n : Nat) : (w.drewN n).heap.size = w.heap.size := rfl

/-- A draw ahead counts for nothing. -/
theorem undrew {B : Nat} {w w' : World} (h : Below B w.drew w') : Below B w w' := ⟨h.os, h.tape, h.output, h.size, h.block⟩
theorem undrewN {B n : Nat} {w w' : World} (h : Below B (w.drewN n) w') : Below B w w' := ⟨h.os, h.tape, h.output, h.size, h.block⟩

theorem cell_al {w : World} {a : Addr} {v : Value} (h : w.cell? a = some v) (o : Obj) : (w.alloc o).cell? a = some v := cell_bel (below_al (Below.refl _ _) o) h

theorem max2_int (k k' : IntKind) (x y : Int) : Builtin.max2 (.int k x) (.int k' y) = pure (.int k (if x < y then y else x)) := by simp only [Builtin.max2, gt_iff_lt]
theorem min2_int (k k' : IntKind) (x y : Int) : Builtin.min2 (.int k x) (.int k' y) = pure (.int k (if y < x then y else x)) := by simp only [Builtin.min2]
theorem max_two (ats : Array TypeId) (ty : TypeId) (a b : Value) : Builtin.max_ ats ty #[a, b] = (Builtin.max2 a b >>= fun s => pure s) := by simp only [Builtin.max_, List.foldlM_cons, List.foldlM_nil]
theorem min_two (ats : Array TypeId) (ty : TypeId) (a b : Value) : Builtin.min_ ats ty #[a, b] = (Builtin.min2 a b >>= fun s => pure s) := by simp only [Builtin.min_, List.foldlM_cons, List.foldlM_nil]

/-- max in a region that only reads. -/
theorem quiet_max {P : Program} {C : World → Prop} {K : Act → Prop} {o : Oper} {a : Act} {x y : Operand} {ts : Array TypeId} {k : IntKind} {m n : Int} (ho : o.op = .call { callee := .builtin .max, args := #[x, y], argTypes := ts })
    (hx : a.eval x = .int k m) (hy : a.eval y = .int k n) (h : K (a.put o.dst (.int k (if m < n then n else m)))) : o.quiet P a C K := by
  refine ⟨_, fun w _ => ?_, h⟩
  unfold Oper.quietAt execOp
  simp only [ho, resolve, invoke, builtin, Sem.run_bind, Sem.run_pure, Result.andThen_ok, List.map_toArray, List.map_cons, List.map_nil, hx, hy, max_two, max2_int]
  exact ⟨rfl, rfl⟩

/-! ### endings -/
theorem ret_b {a b : Bool} (h : a = b) : Ending.returned (.bool a) = Ending.returned (.bool b) := by rw [h]
theorem ret_i {k : IntKind} {a b : Int} (h : a = b) : Ending.returned (.int k a) = Ending.returned (.int k b) := by rw [h]
theorem ret_eq {a b : Value} (h : a = b) : Ending.returned a = Ending.returned b := by rw [h]

/-! ### kinds -/
/-- ok: which blocks the value may lead to. -/
structure Kd (α : Type) where
  sz : Nat
  pos : 0 < sz
  K : World → (Nat → Prop) → α → List Value → Prop
  len : ∀ {w ok x cs}, K w ok x cs → cs.length = sz
  one : ∀ {w ok x cs}, K w ok x cs → ∀ u ∈ cs, u.oneCell' = true
  step : ∀ {w w1 : World} {ok x cs}, K w ok x cs → (∀ k, ok k → k < w.heap.size → w1.heap[k]? = w.heap[k]?) → K w1 (fun k => ok k ∧ k < w.heap.size) x cs
  mono : ∀ {w ok ok' x cs}, (∀ k, ok k → ok' k) → K w ok x cs → K w ok' x cs

namespace Kd
section
variable {α : Type} {d : Kd α} {w w1 : World} {ok ok' : Nat → Prop} {x : α} {cs : List Value}
theorem bound (h : d.K w ok x cs) : d.K w (fun k => ok k ∧ k < w.heap.size) x cs := d.step h (fun _ _ _ => rfl)
theorem move (h : d.K w ok x cs) (hm : ∀ k, ok k → k < w.heap.size → w1.heap[k]? = w.heap[k]?) : d.K w1 ok x cs := d.mono (fun _ hk => hk.1) (d.step h hm)
theorem bel (h : d.K w ok x cs) (hb : Below w.heap.size w w1) : d.K w1 ok x cs := d.move h (fun k _ hk => hb.block k hk)
theorem al (h : d.K w ok x cs) (o : Obj) : d.K (w.alloc o) ok x cs := d.bel h (below_al (Below.refl _ _) o)
theorem dN (h : d.K w ok x cs) (n : Nat) : d.K (w.drewN n) ok x cs := d.bel h (below_dN (Below.refl _ _) n)
theorem far (h : d.K w ok x cs) {p : Addr} (hp : ∀ k, ok k → k ≠ p.block) (u : Value) : d.K (w.setCell p u) ok x cs := d.move h (fun k ho _ => Below.heap_setCell w p u k (hp k ho))
theorem grown (h : d.K w ok x cs) {row : Option Nat} (hg : w.grownBy w1 row) (hr : ∀ k, ok k → some k ≠ row) : d.K w1 ok x cs := d.move h (fun k ho hk => hg.block k hk (hr k ho))
/-- What was there leads to no new block. -/
theorem old (h : d.K w ok x cs) {b : Nat} (hb : w.heap.size ≤ b) : d.K w (fun k => ok k ∧ k ≠ b) x cs := d.mono (fun k hk => ⟨hk.1, by have := hk.2; omega⟩) (d.bound h)
end

/-- Elements in line. -/
def Row {α : Type} (d : Kd α) (w : World) (ok : Nat → Prop) (A : Option Addr) (xs : List α) : Prop :=
  xs.length ≤ 9223372036854775807 ∧ ∀ (i : Nat) (x : α), xs[i]? = some x → ∃ ad cs, A = some ad ∧ ok ad.block ∧ d.K w ok x cs ∧ ∀ (j : Nat) (u : Value), cs[j]? = some u → w.cell? (ad.add (i * d.sz + j)) = some u

theorem add_block (ad : Addr) (n : Nat) : (ad.add n).block = ad.block := by unfold Addr.add; split <;> rfl
theorem add_field (ad : Addr) (m j : Nat) (hj : 0 < j) : ad.add (m + j) = ⟨(ad.add m).block, (ad.add m).off + j, none⟩ := by
  unfold Addr.add
  by_cases hm : m = 0
  · subst hm
    simp [Nat.ne_of_gt hj]
  · simp [hm, Nat.add_assoc]
section
variable {α : Type} {d : Kd α} {w w1 : World} {ok ok' : Nat → Prop} {A : Option Addr} {xs : List α}
theorem Row.nil (d : Kd α) (w : World) (ok : Nat → Prop) (A : Option Addr) : d.Row w ok A [] := ⟨by simp, fun i x h => by simp at h⟩
theorem Row.step (h : d.Row w ok A xs) (hm : ∀ k, ok k → k < w.heap.size → w1.heap[k]? = w.heap[k]?) : d.Row w1 (fun k => ok k ∧ k < w.heap.size) A xs :=
  ⟨h.1, fun i x hx => by
    obtain ⟨ad, cs, e, hok, hK, hc⟩ := h.2 i x hx
    have hlt : ad.block < w.heap.size := by
      have h0 := hc 0 (cs[0]'(by rw [d.len hK]; exact d.pos)) (List.getElem?_eq_getElem _)
      have := World.block_lt_of_cell? w _ h0
      rwa [add_block] at this
    refine ⟨ad, cs, e, ⟨hok, hlt⟩, d.step hK hm, fun j u hu => ?_⟩
    have := hc j u hu
    rw [← this]
    exact World.cell?_of_block (w := w) (by rw [add_block]; exact hm _ hok hlt)⟩
theorem Row.mono (hk : ∀ k, ok k → ok' k) (h : d.Row w ok A xs) : d.Row w ok' A xs :=
  ⟨h.1, fun i x hx => by
    obtain ⟨ad, cs, e, hok, hK, hc⟩ := h.2 i x hx
    exact ⟨ad, cs, e, hk _ hok, d.mono hk hK, hc⟩⟩
theorem Row.move (h : d.Row w ok A xs) (hm : ∀ k, ok k → k < w.heap.size → w1.heap[k]? = w.heap[k]?) : d.Row w1 ok A xs := Row.mono (fun _ hk => hk.1) (Row.step h hm)
theorem Row.bel (h : d.Row w ok A xs) (hb : Below w.heap.size w w1) : d.Row w1 ok A xs := Row.move h (fun k _ hk => hb.block k hk)
theorem Row.bound (h : d.Row w ok A xs) : d.Row w (fun k => ok k ∧ k < w.heap.size) A xs := Row.step h (fun _ _ _ => rfl)
theorem Row.get (h : d.Row w ok A xs) {i : Nat} (hi : i < xs.length) : ∃ ad cs, A = some ad ∧ ok ad.block ∧ d.K w ok xs[i] cs ∧ ∀ (j : Nat) (u : Value), cs[j]? = some u → w.cell? (ad.add (i * d.sz + j)) = some u := h.2 i _ (List.getElem?_eq_getElem hi)
end

def scalar {α : Type} (enc : α → Value) (wf : α → Prop) (h1 : ∀ x, (enc x).oneCell' = true) : Kd α where
  sz := 1
  pos := by decide
  K := fun _ _ x cs => cs = [enc x] ∧ wf x
  len := fun h => by rw [h.1]; rfl
  one := fun h u hu => by
    rw [h.1] at hu
    rw [List.mem_singleton.1 hu]
    exact h1 _
  step := fun h _ => h
  mono := fun _ h => h
/-- The numbers of a kind. -/
def rng : IntKind → Int → Prop
  | .i8, n => -128 ≤ n ∧ n < 128
  | .i16, n => -32768 ≤ n ∧ n < 32768
  | .i32, n => -2147483648 ≤ n ∧ n < 2147483648
  | .i64, n => -9223372036854775808 ≤ n ∧ n < 9223372036854775808
  | .u8, n => 0 ≤ n ∧ n < 256
  | .u16, n => 0 ≤ n ∧ n < 65536
  | .u32, n => 0 ≤ n ∧ n < 4294967296
  | .u64, n => 0 ≤ n ∧ n < 18446744073709551616
theorem rng_of_wf {k : IntKind} {n : Int} (h : (Lit.int k n).wf = true) : rng k n := by
  simp only [Lit.wf, Bool.and_eq_true, decide_eq_true_eq] at h
  cases k <;> simp only [IntKind.min, IntKind.max, IntKind.signed, IntKind.bits, Bool.false_eq_true, if_true, if_false] at h <;> simp only [rng] <;> omega
def int (k : IntKind) : Kd Int := scalar (Value.int k) (rng k) (fun _ => rfl)
theorem int_at {k : IntKind} {w : World} {ok : Nat → Prop} {A : Option Addr} {xs : List Int} (h : (int k).Row w ok A xs) {i : Nat} (hi : i < xs.length) : ∃ ad, A = some ad ∧ ok ad.block ∧ rng k xs[i] ∧ w.cell? (ad.add i) = some (.int k xs[i]) := by
  obtain ⟨ad, cs, e, hok, ⟨rfl, hw⟩, hc⟩ := h.get hi
  exact ⟨ad, e, hok, hw, by have := hc 0 _ rfl; simpa [int, scalar] using this⟩
def bool : Kd Bool := scalar Value.bool (fun _ => True) (fun _ => rfl)
def slice {α : Type} (d : Kd α) : Kd (List α) where
  sz := 1
  pos := by decide
  K := fun w ok xs cs => ∃ A c, cs = [.slice A xs.length c] ∧ xs.length ≤ c ∧ c ≤ maxLen ∧ d.Row w ok A xs
  len := by
    rintro w ok x cs ⟨A, c, rfl, _⟩
    rfl
  one := by
    rintro w ok x cs ⟨A, c, rfl, _⟩ u hu
    rw [List.mem_singleton.1 hu]
    rfl
  step := by
    rintro w w1 ok x cs ⟨A, c, rfl, hl, hc, hr⟩ hm
    exact ⟨A, c, rfl, hl, hc, Row.step hr hm⟩
  mono := by
    rintro w ok ok' x cs hk ⟨A, c, rfl, hl, hc, hr⟩
    exact ⟨A, c, rfl, hl, hc, Row.mono hk hr⟩
def pair {α β : Type} (a : Kd α) (b : Kd β) : Kd (α × β) where
  sz := a.sz + b.sz
  pos := Nat.lt_of_lt_of_le a.pos (Nat.le_add_right _ _)
  K := fun w ok x cs => ∃ c0 c1, cs = c0 ++ c1 ∧ a.K w ok x.1 c0 ∧ b.K w ok x.2 c1
  len := by
    rintro w ok x cs ⟨c0, c1, rfl, h0, h1⟩
    rw [List.length_append, a.len h0, b.len h1]
  one := by
    rintro w ok x cs ⟨c0, c1, rfl, h0, h1⟩ u hu
    rcases List.mem_append.1 hu with hu | hu
    · exact a.one h0 u hu
    · exact b.one h1 u hu
  step := by
    rintro w w1 ok x cs ⟨c0, c1, rfl, h0, h1⟩ hm
    exact ⟨c0, c1, rfl, a.step h0 hm, b.step h1 hm⟩
  mono := by
    rintro w ok ok' x cs hk ⟨c0, c1, rfl, h0, h1⟩
    exact ⟨c0, c1, rfl, a.mono hk h0, b.mono hk h1⟩
def iso {α β : Type} (d : Kd α) (f : β → α) : Kd β where
  sz := d.sz
  pos := d.pos
  K := fun w ok x cs => d.K w ok (f x) cs
  len := d.len
  one := d.one
  step := d.step
  mono := d.mono

/-- Element for element. -/
def Reps {α : Type} (R : α → List Value → Prop) : List α → List Value → Prop
  | [], cs => cs = []
  | x :: xs, cs => ∃ c rest, cs = c ++ rest ∧ R x c ∧ Reps R xs rest
section
variable {α : Type} {R R' : α → List Value → Prop}
theorem Reps.imp {xs : List α} {cs : List Value} (hR : ∀ x c, R x c → R' x c) (h : Reps R xs cs) : Reps R' xs cs := by
  induction xs generalizing cs with
  | nil => exact h
  | cons x xs ih =>
    obtain ⟨c, rest, rfl, h0, h1⟩ := h
    exact ⟨c, rest, rfl, hR _ _ h0, ih h1⟩
theorem Reps.append {xs ys : List α} {cs ds : List Value} (h : Reps R xs cs) (k : Reps R ys ds) : Reps R (xs ++ ys) (cs ++ ds) := by
  induction xs generalizing cs with
  | nil => have h' : cs = [] := h; subst h'; exact k
  | cons x xs ih =>
    obtain ⟨c, rest, rfl, h0, h1⟩ := h
    exact ⟨c, rest ++ ds, by simp, h0, ih h1⟩
theorem Reps.single {x : α} {c : List Value} (h : R x c) : Reps R [x] c := ⟨c, [], by simp, h, rfl⟩
theorem Reps.snoc {xs : List α} {x : α} {cs c : List Value} (h : Reps R xs cs) (k : R x c) : Reps R (xs ++ [x]) (cs ++ c) := h.append (.single k)
theorem Reps.length {n : Nat} (hR : ∀ x c, R x c → c.length = n) {xs : List α} {cs : List Value} (h : Reps R xs cs) : cs.length = xs.length * n := by
  induction xs generalizing cs with
  | nil => have h' : cs = [] := h; subst h'; simp
  | cons x xs ih =>
    obtain ⟨c, rest, rfl, h0, h1⟩ := h
    rw [List.length_append, hR _ _ h0, ih h1, List.length_cons, Nat.succ_mul, Nat.add_comm]
theorem Reps.all {p : Value → Prop} (hR : ∀ x c, R x c → ∀ u ∈ c, p u) {xs : List α} {cs : List Value} (h : Reps R xs cs) : ∀ u ∈ cs, p u := by
  induction xs generalizing cs with
  | nil => have h' : cs = [] := h; subst h'; intro u hu; cases hu
  | cons x xs ih =>
    obtain ⟨c, rest, rfl, h0, h1⟩ := h
    intro u hu
    rcases List.mem_append.1 hu with hu | hu
    · exact hR _ _ h0 u hu
    · exact ih h1 u hu
/-- The i-th element's cells. -/
theorem Reps.get {n : Nat} (hR : ∀ x c, R x c → c.length = n) {xs : List α} {cs : List Value} (h : Reps R xs cs) {i : Nat} {x : α} (hx : xs[i]? = some x) : ∃ c, R x c ∧ ∀ (j : Nat) (u : Value), c[j]? = some u → cs[i * n + j]? = some u := by
  induction xs generalizing cs i with
  | nil => simp at hx
  | cons y ys ih =>
    obtain ⟨c, rest, rfl, h0, h1⟩ := h
    cases i with
    | zero =>
      simp only [List.getElem?_cons_zero, Option.some.injEq] at hx
      subst hx
      exact ⟨c, h0, fun j u hu => by rw [Nat.zero_mul, Nat.zero_add, List.getElem?_append_left (List.getElem?_eq_some_iff.1 hu).1]; exact hu⟩
    | succ i =>
      obtain ⟨c', hc', hj⟩ := ih h1 (by simpa using hx)
      refine ⟨c', hc', fun j u hu => ?_⟩
      have := hj j u hu
      rw [List.getElem?_append_right (by rw [hR _ _ h0, Nat.succ_mul]; omega), hR _ _ h0, ← this]
      congr 1
      rw [Nat.succ_mul]; omega
theorem Reps.set {n : Nat} (hR : ∀ x c, R x c → c.length = n) {xs : List α} {cs : List Value} (h : Reps R xs cs) {i : Nat} {x : α} {c : List Value} (hi : i < xs.length) (hc : R x c) : Reps R (xs.set i x) (cs.take (i * n) ++ c ++ cs.drop (i * n + n)) := by
  induction xs generalizing cs i with
  | nil => simp at hi
  | cons y ys ih =>
    obtain ⟨c0, rest, rfl, h0, h1⟩ := h
    have hl := hR _ _ h0
    cases i with
    | zero =>
      refine ⟨c, rest, ?_, hc, h1⟩
      rw [Nat.zero_mul, List.take_zero, List.nil_append, Nat.zero_add, ← hl, List.drop_left]
    | succ i =>
      refine ⟨c0, rest.take (i * n) ++ c ++ rest.drop (i * n + n), ?_, h0, ih h1 (by simpa using hi)⟩
      have e1 : (i + 1) * n = c0.length + i * n := by rw [Nat.succ_mul, hl]; omega
      rw [e1, List.take_length_add_append, show c0.length + i * n + n = c0.length + (i * n + n) by omega, List.drop_length_add_append]
      simp [List.append_assoc]
end

/-- An array of n. -/
def arr {α : Type} (n : Nat) (hn : 0 < n) (d : Kd α) : Kd (List α) where
  sz := n * d.sz
  pos := Nat.mul_pos hn d.pos
  K := fun w ok xs cs => xs.length = n ∧ Reps (d.K w ok) xs cs
  len := by
    rintro w ok x cs ⟨h, hr⟩
    rw [Reps.length (fun _ _ => d.len) hr, h]
  one := by
    rintro w ok x cs ⟨h, hr⟩
    exact Reps.all (p := fun u => u.oneCell' = true) (fun _ _ => d.one) hr
  step := by
    rintro w w1 ok x cs ⟨h, hr⟩ hm
    exact ⟨h, hr.imp (fun _ _ hk => d.step hk hm)⟩
  mono := by
    rintro w ok ok' x cs hk ⟨h, hr⟩
    exact ⟨h, hr.imp (fun _ _ hK => d.mono hk hK)⟩
theorem reps_scalar {α : Type} {enc : α → Value} {wf : α → Prop} {h1 : ∀ x, (enc x).oneCell' = true} {w : World} {ok : Nat → Prop} {xs : List α} {cs : List Value} : Reps ((scalar enc wf h1).K w ok) xs cs ↔ cs = xs.map enc ∧ ∀ x ∈ xs, wf x := by
  induction xs generalizing cs with
  | nil => exact ⟨fun h => ⟨h, fun x hx => by cases hx⟩, fun h => h.1⟩
  | cons x xs ih =>
    constructor
    · rintro ⟨c, rest, rfl, ⟨rfl, hx⟩, h1⟩
      obtain ⟨rfl, hw⟩ := ih.1 h1
      exact ⟨rfl, fun y hy => by rcases List.mem_cons.1 hy with rfl | hy <;> simp_all⟩
    · rintro ⟨rfl, hw⟩
      exact ⟨[enc x], xs.map enc, rfl, ⟨rfl, hw x (by simp)⟩, ih.2 ⟨rfl, fun y hy => hw y (by simp [hy])⟩⟩

/-! ### rows of the call's own -/
/-- v: a slice of the call's own, its row in a block from base on that none of the elements leads to. -/
def Own {α : Type} (d : Kd α) (e : TypeId) (w : World) (base : Nat) (ok : Nat → Prop) (v : Value) (xs : List α) : Prop :=
  ∃ cells, w.ownsRow base e d.sz v xs.length cells ∧ Reps (d.K w (fun k => ok k ∧ some k ≠ v.ownBlock)) xs cells ∧ ∀ k, v.ownBlock = some k → ok k
section
variable {α : Type} {d : Kd α} {e : TypeId} {w w1 : World} {base : Nat} {ok ok' : Nat → Prop} {v : Value} {xs : List α}
theorem own_move {w w1 : World} {base : Nat} {e : TypeId} {size n : Nat} {v : Value} {xs : List Value} (h : w.ownsRow base e size v n xs) (hm : ∀ k, v.ownBlock = some k → w1.heap[k]? = w.heap[k]?) : w1.ownsRow base e size v n xs := by
  obtain ⟨h1, h2⟩ := h
  refine ⟨h1, ?_⟩
  rcases h2 with h2 | ⟨g, cap, cur, rfl, hg, hh, r⟩
  · exact .inl h2
  · exact .inr ⟨g, cap, cur, rfl, hg, (hm g (by simp [Value.ownBlock])).trans hh, r⟩
theorem Own.nil (d : Kd α) (e : TypeId) (w : World) (base : Nat) (ok : Nat → Prop) : d.Own e w base ok (.slice none 0 0) [] := ⟨[], World.ownsRow_nil _ _ _ _, rfl, fun k hk => by simp [Value.ownBlock] at hk⟩
theorem Own.step (h : d.Own e w base ok v xs) (hm : ∀ k, ok k → k < w.heap.size → w1.heap[k]? = w.heap[k]?) : d.Own e w1 base (fun k => ok k ∧ k < w.heap.size) v xs := by
  obtain ⟨cells, ho, hr, hk⟩ := h
  have hlt := ho.lt
  exact ⟨cells, own_move ho (fun k h => hm k (hk k h) (hlt k h).2), hr.imp (fun _ _ hK => d.mono (fun k hk => ⟨⟨hk.1.1, hk.2⟩, hk.1.2⟩) (d.step hK (fun k hk' hl => hm k hk'.1 hl))), fun k h => ⟨hk k h, (hlt k h).2⟩⟩
theorem Own.mono (hk : ∀ k, ok k → ok' k) (h : d.Own e w base ok v xs) : d.Own e w base ok' v xs := by
  obtain ⟨cells, ho, hr, hk'⟩ := h
  exact ⟨cells, ho, hr.imp (fun _ _ hK => d.mono (fun k h => ⟨hk k h.1, h.2⟩) hK), fun k h => hk k (hk' k h)⟩
theorem Own.move (h : d.Own e w base ok v xs) (hm : ∀ k, ok k → k < w.heap.size → w1.heap[k]? = w.heap[k]?) : d.Own e w1 base ok v xs := Own.mono (fun _ hk => hk.1) (Own.step h hm)
theorem Own.bel (h : d.Own e w base ok v xs) (hb : Below w.heap.size w w1) : d.Own e w1 base ok v xs := h.move (fun k _ hk => hb.block k hk)
theorem Own.al (h : d.Own e w base ok v xs) (o : Obj) : d.Own e (w.alloc o) base ok v xs := h.bel (below_al (Below.refl _ _) o)
theorem Own.far (h : d.Own e w base ok v xs) {p : Addr} (hp : ∀ k, ok k → k ≠ p.block) (u : Value) : d.Own e (w.setCell p u) base ok v xs := h.move (fun k ho _ => Below.heap_setCell w p u k (hp k ho))
theorem Own.bound (h : d.Own e w base ok v xs) : d.Own e w base (fun k => ok k ∧ k < w.heap.size) v xs := h.step (fun _ _ _ => rfl)
theorem Own.form (h : d.Own e w base ok v xs) : ∃ A c, v = .slice A xs.length c ∧ xs.length ≤ c ∧ c ≤ maxLen := by
  obtain ⟨cells, ho, _⟩ := h
  rcases ho.2 with ⟨rfl, h0⟩ | ⟨g, cap, cur, rfl, _, _, hn, hm, _⟩
  · exact ⟨none, 0, by rw [h0], by omega, by unfold maxLen; omega⟩
  · exact ⟨_, cap, rfl, hn, hm⟩
/-- As a value. -/
theorem Own.K (h : d.Own e w base ok v xs) : d.slice.K w ok xs [v] := by
  obtain ⟨cells, ho, hr, hk⟩ := h
  have hlen : cells.length = xs.length * d.sz := Reps.length (fun _ _ => d.len) hr
  have hmx : ∃ A c, v = .slice A xs.length c ∧ xs.length ≤ c ∧ c ≤ maxLen := Own.form ⟨cells, ho, hr, hk⟩
  obtain ⟨A, c, rfl, hl, hm⟩ := hmx
  refine ⟨A, c, rfl, hl, hm, by unfold maxLen at hm; omega, fun i x hx => ?_⟩
  obtain ⟨cs, hK, hj⟩ := Reps.get (fun _ _ => d.len) hr hx
  have hi : i < xs.length := (List.getElem?_eq_some_iff.1 hx).1
  rcases A with _ | a
  · rcases ho.2 with ⟨_, h0⟩ | ⟨g, cap, cur, hv, _⟩
    · omega
    · simp at hv
  · rcases ho.2 with ⟨hv, h0⟩ | ⟨g, cap, cur, hv, _⟩
    · simp at hv
    · simp only [Value.slice.injEq, Option.some.injEq] at hv
      obtain ⟨rfl, _⟩ := hv
      exact ⟨⟨g, 0, none⟩, cs, rfl, hk g (by simp [Value.ownBlock]), d.mono (fun k hk => hk.1) hK, fun j u hu => ho.cells (by simp [Value.ownBlock]) _ u (hj j u hu)⟩
/-- What append leaves, where the elements are. -/
theorem Own.appended (h : d.Own e w base ok v xs) {cells : List Value} (hr : Reps (d.K w (fun k => ok k ∧ some k ≠ v.ownBlock)) xs cells) {ys : List α} {news : List Value} (hn : Reps (d.K w (fun k => ok k ∧ some k ≠ v.ownBlock)) ys news)
    {v1 : Value} (ho1 : w1.ownsRow base e d.sz v1 (xs.length + ys.length) (cells ++ news)) (hg : w.grownBy w1 v.ownBlock) (hat : v1.ownBlock = v.ownBlock ∨ v1.ownBlock = some w.heap.size) (hok : ∀ k, w.heap.size ≤ k → ok k) : d.Own e w1 base ok v1 (xs ++ ys) := by
  have hb : ∀ {x : α} {c : List Value}, d.K w (fun k => ok k ∧ some k ≠ v.ownBlock) x c → d.K w1 (fun k => ok k ∧ some k ≠ v1.ownBlock) x c := fun hK =>
    d.mono (fun k hk => ⟨hk.1.1, by
      rcases hat with hat | hat
      · rw [hat]; exact hk.1.2
      · rw [hat]; intro e; simp only [Option.some.injEq] at e; have := hk.2; omega⟩) (d.step hK (fun k hk hl => hg.block k hl hk.2))
  refine ⟨cells ++ news, by rw [List.length_append]; exact ho1, (hr.imp (fun _ _ hK => hb hK)).append (hn.imp (fun _ _ hK => hb hK)), fun k hk => ?_⟩
  rcases hat with hat | hat
  · obtain ⟨_, _, _, h3⟩ := h
    exact h3 k (by rw [← hat]; exact hk)
  · rw [hat] at hk
    simp only [Option.some.injEq] at hk
    exact hok k (by omega)
end
end Kd

/-! ### what comes in -/
/-- Whatever reads as data of type t is of the kind d. -/
def Opens {α : Type} (P : Program) (d : Kd α) (t : TypeId) : Prop :=
  P.cellsOf t = d.sz ∧ ∀ {H : Type} {enc : TypeId × Value → H} {w : World} {base : Nat} {spare : Nat → Bool} {held : Bool} {fuel : Nat} {cs : List Value} {x : DataW H × List MemPlace},
    DataW.trod enc P w base spare held fuel t cs = some x → ∃ a, d.K w (fun k => k < w.heap.size) a cs
theorem opens_mk {α : Type} {P : Program} {d : Kd α} {t : TypeId} (hs : P.cellsOf t = d.sz) (h : ∀ (H : Type) (enc : TypeId × Value → H) (w : World) (base : Nat) (spare : Nat → Bool) (held : Bool) (fuel : Nat) (cs : List Value) (x : DataW H × List MemPlace),
    DataW.trod enc P w base spare held fuel t cs = some x → ∃ a, d.K w (fun k => k < w.heap.size) a cs) : Opens P d t := ⟨hs, fun {H enc w base spare held fuel cs x} hx => h H enc w base spare held fuel cs x hx⟩
theorem opens_int {P : Program} {t : TypeId} {k : IntKind} (ht : P.underlying t = some (.int k)) (hs : P.cellsOf t = 1) : Opens P (Kd.int k) t :=
  ⟨hs, fun h => by
    obtain ⟨n, rfl, _, hw⟩ := DataW.trod_int ht h
    exact ⟨n, rfl, Kd.rng_of_wf hw⟩⟩
theorem opens_bool {P : Program} {t : TypeId} (ht : P.underlying t = some .bool) (hs : P.cellsOf t = 1) : Opens P Kd.bool t :=
  ⟨hs, fun h => by
    obtain ⟨n, rfl, _⟩ := DataW.trod_bool ht h
    exact ⟨n, rfl, trivial⟩⟩
theorem opens_slice {α : Type} {P : Program} {d : Kd α} {t e : TypeId} (ht : P.underlying t = some (.slice e)) (hs : P.cellsOf t = 1) (he : Opens P d e) : Opens P d.slice t :=
  ⟨hs, fun {H enc w base spare held fuel cs x} h => by
    rcases Deep.open_slice ht h with ⟨rfl, _⟩ | ⟨a, len, cap, m, n, D, Pl, rfl, hb, hl, hm, hmm, rfl, hx⟩
    · exact ⟨[], none, 0, rfl, by simp, by unfold maxLen; omega, Kd.Row.nil _ _ _ _⟩
    · have hlm : len ≤ m := by rw [hmm]; split <;> omega
      have hx' : ∀ i, i < len → ∃ y : α, ∃ cs', d.K w (fun k => k < w.heap.size) y cs' ∧ w.cells? base (a.add (i * P.cellsOf e)) (P.cellsOf e) = some cs' := fun i hi => by
        obtain ⟨cs', h1, h2⟩ := hx i (by omega)
        obtain ⟨y, hy⟩ := he.2 h2
        exact ⟨y, cs', hy, h1⟩
      have key : ∀ n, n ≤ len → ∃ xs : List α, xs.length = n ∧ ∀ (i : Nat) (y : α), xs[i]? = some y → ∃ cs', d.K w (fun k => k < w.heap.size) y cs' ∧ w.cells? base (a.add (i * P.cellsOf e)) (P.cellsOf e) = some cs' := by
        intro n
        induction n with
        | zero => exact fun _ => ⟨[], rfl, fun i y h => by simp at h⟩
        | succ n ih =>
          intro hn
          obtain ⟨xs, hl, hxs⟩ := ih (by omega)
          obtain ⟨y, cs', hy, hc⟩ := hx' n (by omega)
          refine ⟨xs ++ [y], by simp [hl], fun i z hz => ?_⟩
          rcases Nat.lt_or_ge i xs.length with hi | hi
          · rw [List.getElem?_append_left hi] at hz
            exact hxs i z hz
          · have hz' := hz
            rw [List.getElem?_append_right hi] at hz
            have : i - xs.length = 0 := by
              have := (List.getElem?_eq_some_iff.1 hz).1
              simp at this; omega
            rw [this] at hz
            simp at hz
            subst hz
            have : i = n := by omega
            subst this
            exact ⟨cs', hy, hc⟩
      obtain ⟨xs, rfl, hxs⟩ := key len (Nat.le_refl _)
      refine ⟨xs, some a, cap, rfl, hl, hm, by unfold maxLen at hm; omega, fun i y hy => ?_⟩
      obtain ⟨cs', hK, hc⟩ := hxs i y hy
      obtain ⟨_, hlen, hcell⟩ := World.cells?_some hc
      have hcc : ∀ (j : Nat) (u : Value), cs'[j]? = some u → w.cell? (a.add (i * d.sz + j)) = some u := fun j u hu => by
        have := hcell j (by have := (List.getElem?_eq_some_iff.1 hu).1; omega)
        rw [Deep.add_add, he.1] at this
        exact this.trans hu
      refine ⟨a, cs', rfl, ?_, hK, hcc⟩
      have h0 := hcc 0 (cs'[0]'(by rw [d.len hK]; exact d.pos)) (List.getElem?_eq_getElem _)
      have := World.block_lt_of_cell? w _ h0
      rwa [Kd.add_block] at this⟩

/-- The fields of a struct from the i-th on, in line from a place on. -/
def OpensF {α : Type} (P : Program) (d : Kd α) (fs : List Field) (o : Nat) : Prop :=
  ∀ {H : Type} {enc : TypeId × Value → H} {w : World} {base : Nat} {spare : Nat → Bool} {held : Bool} {fuel : Nat} {cs : List Value},
    (∀ f ∈ fs, ∃ x, DataW.trod enc P w base spare held fuel f.type ((cs.drop f.offset).take (P.cellsOf f.type)) = some x) → cs.length = o + d.sz → ∃ a, d.K w (fun k => k < w.heap.size) a (cs.drop o)
theorem opensF_last {α : Type} {P : Program} {d : Kd α} {f : Field} {o : Nat} (h : Opens P d f.type) (ho : f.offset = o) : OpensF P d [f] o := fun {H enc w base spare held fuel cs} hx hl => by
  obtain ⟨x, hx⟩ := hx f (by simp)
  obtain ⟨a, ha⟩ := h.2 hx
  rw [ho, h.1, List.take_of_length_le (by rw [List.length_drop]; omega)] at ha
  exact ⟨a, ha⟩
theorem opensF_cons {α β : Type} {P : Program} {d : Kd α} {d' : Kd β} {f : Field} {fs : List Field} {o : Nat} (h : Opens P d f.type) (ho : f.offset = o) (hr : OpensF P d' fs (o + d.sz)) : OpensF P (d.pair d') (f :: fs) o := fun {H enc w base spare held fuel cs} hx hl => by
  obtain ⟨x, h0⟩ := hx f (by simp)
  obtain ⟨a, ha⟩ := h.2 h0
  rw [ho, h.1] at ha
  have hl' : cs.length = o + (d.sz + d'.sz) := hl
  obtain ⟨b, hb⟩ := hr (fuel := fuel) (cs := cs) (fun f hf => hx f (by simp [hf])) (by omega)
  refine ⟨(a, b), (cs.drop o).take d.sz, cs.drop (o + d.sz), ?_, ha, hb⟩
  rw [← List.drop_drop, List.take_append_drop]
theorem opens_struct {α β : Type} {P : Program} {d : Kd α} {t : TypeId} {fs : Array Field} (f : β → α) (g : α → β) (hfg : ∀ a, f (g a) = a) (ht : P.underlying t = some (.struct fs)) (hs : P.cellsOf t = d.sz) (h : OpensF P d fs.toList 0) : Opens P (d.iso f) t :=
  ⟨hs, fun {H enc w base spare held fuel cs x} hx => by
    obtain ⟨xs, n, _, _, hl, hlen, hf⟩ := DataW.trod_struct ht hx
    obtain ⟨a, ha⟩ := h (fuel := n) (cs := cs) (fun q hq => by
      obtain ⟨i, hi, rfl⟩ := List.getElem_of_mem hq
      have hi' : i < fs.size := by simpa using hi
      refine ⟨xs[i]'(by omega), ?_⟩
      rw [Array.getElem_toList, hf i fs[i] (by simp [hi'])]
      simp) (by omega)
    refine ⟨g a, ?_⟩
    show d.K w _ (f (g a)) cs
    rw [hfg]
    simpa using ha⟩
theorem opens_arr {α : Type} {P : Program} {d : Kd α} {t e : TypeId} {n : Nat} (hn : 0 < n) (ht : P.underlying t = some (.array n e)) (hs : P.cellsOf t = n * d.sz) (he : Opens P d e) : Opens P (d.arr n hn) t :=
  ⟨hs, fun {H enc w base spare held fuel cs x} hx => by
    obtain ⟨xs, m, _, _, hl, hlen, hf⟩ := DataW.trod_array ht hx
    have hl' : cs.length = n * d.sz := by omega
    have key : ∀ k, k ≤ n → ∃ l_ : List α, l_.length = k ∧ Kd.Reps (d.K w (fun k => k < w.heap.size)) l_ (cs.take (k * d.sz)) := by
      intro k
      induction k with
      | zero => exact fun _ => ⟨[], rfl, by simp [Kd.Reps]⟩
      | succ k ih =>
        intro hk
        obtain ⟨l_, h1, h2⟩ := ih (by omega)
        have h3 := hf k (by omega)
        rw [he.1, List.getElem?_eq_getElem (by omega)] at h3
        obtain ⟨a, ha⟩ := he.2 h3
        refine ⟨l_ ++ [a], by simp [h1], ?_⟩
        have : cs.take ((k + 1) * d.sz) = cs.take (k * d.sz) ++ (cs.drop (k * d.sz)).take d.sz := by rw [Nat.succ_mul, List.take_add]
        rw [this]
        exact h2.snoc ha
    obtain ⟨l_, h1, h2⟩ := key n (Nat.le_refl _)
    refine ⟨l_, h1, ?_⟩
    rwa [List.take_of_length_le (by omega)] at h2⟩
end Go.Proofs.YtbojjjiggppnaaaGreat
