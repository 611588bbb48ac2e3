/- append, make and literals on rows of the call's own, of any kind; what a value's cells say once more as a row. No program in sight. -/
import Derived.Test.YtbojjjiggppnaaaGreatB0
namespace Go.Proofs.YtbojjjiggppnaaaGreat
open Go.RowKit
set_option linter.unusedVariables false

namespace Kd
section
variable {α : Type} {d : Kd α} {w w1 : World} {ok ok' : Nat → Prop} {xs : List α}
/-- A row's cells in line. -/
theorem Row.news {ad : Addr} (h : d.Row w ok (some ad) xs) : ∃ news, Reps (d.K w ok) xs news ∧ ∀ (j : Nat) (u : Value), news[j]? = some u → w.cell? (ad.add j) = some u := by
  have key : ∀ n, n ≤ xs.length → ∃ news, Reps (d.K w ok) (xs.take n) news ∧ ∀ (j : Nat) (u : Value), news[j]? = some u → w.cell? (ad.add j) = some u := by
    intro n
    induction n with
    | zero => exact fun _ => ⟨[], by simp [Reps], fun j u h => by simp at h⟩
    | succ n ih =>
      intro hn
      obtain ⟨news, hr, hc⟩ := ih (by omega)
      obtain ⟨ad', cs, e, _, hK, hcs⟩ := h.get (i := n) (by omega)
      injection e with e
      subst e
      have hlen : news.length = n * d.sz := by rw [Reps.length (fun _ _ => d.len) hr, List.length_take, Nat.min_eq_left (by omega)]
      refine ⟨news ++ cs, ?_, fun j u hu => ?_⟩
      · rw [List.take_succ_eq_append_getElem (by omega)]
        exact hr.snoc hK
      · rcases Nat.lt_or_ge j news.length with hj | hj
        · rw [List.getElem?_append_left hj] at hu
          exact hc j u hu
        · rw [List.getElem?_append_right hj] at hu
          have := hcs (j - news.length) u hu
          rwa [show n * d.sz + (j - news.length) = j by omega] at this
  obtain ⟨news, hr, hc⟩ := key xs.length (Nat.le_refl _)
  rw [List.take_length] at hr
  exact ⟨news, hr, hc⟩
theorem Own.ne {e : TypeId} {base : Nat} {v : Value} (h : d.Own e w base ok v xs) {b : Nat} (hb : ¬ ok b) : some b ≠ v.ownBlock := by
  obtain ⟨_, _, _, h3⟩ := h
  exact fun e => hb (h3 b e.symm)
theorem Own.le {e : TypeId} {base : Nat} {v : Value} (h : d.Own e w base ok v xs) : ∀ k, v.ownBlock = some k → base ≤ k := by
  obtain ⟨_, h1, _⟩ := h
  exact fun k hk => (h1.lt k hk).1
theorem Reps.store {R : α → List Value → Prop} {n f : Nat} (hR : ∀ x c, R x c → c.length = n) (hf : f < n) (u : Value) {xs : List α} {cs : List Value} (h : Reps R xs cs) {i : Nat} {x x' : α} (hi : xs[i]? = some x) (hx : ∀ c, R x c → R x' (c.set f u)) : Reps R (xs.set i x') (cs.set (i * n + f) u) := by
  induction xs generalizing cs i with
  | nil => simp at hi
  | cons y ys ih =>
    obtain ⟨c0, rest, rfl, h0, h1⟩ := h
    have hl := hR _ _ h0
    cases i with
    | zero =>
      simp only [List.getElem?_cons_zero, Option.some.injEq] at hi
      subst hi
      exact ⟨c0.set f u, rest, by rw [Nat.zero_mul, Nat.zero_add, List.set_append_left _ _ (by omega)], hx _ h0, h1⟩
    | succ i =>
      refine ⟨c0, rest.set (i * n + f) u, ?_, h0, ih h1 (by simpa using hi)⟩
      have e1 : (i + 1) * n + f = c0.length + (i * n + f) := by rw [Nat.succ_mul, hl]; omega
      rw [e1, List.set_append_right _ _ (by omega)]
      congr 2
      omega
theorem Own.ok_ {e : TypeId} {base : Nat} {v : Value} (h : d.Own e w base ok v xs) : ∀ k, v.ownBlock = some k → ok k := by
  obtain ⟨_, _, _, h3⟩ := h
  exact h3
/-- Where there is an element there is a block. -/
theorem Own.at_ {e : TypeId} {base : Nat} {v : Value} (h : d.Own e w base ok v xs) (h0 : 0 < xs.length) : ∃ g c, v = .slice (some ⟨g, 0, none⟩) xs.length c ∧ base ≤ g ∧ ok g ∧ g < w.heap.size ∧ (∀ j, w.frozen? ⟨g, j, none⟩ = false) := by
  obtain ⟨cells, ho, hr, hk⟩ := h
  rcases ho.2 with ⟨rfl, hn⟩ | ⟨g, cap, cur, rfl, hb, hg, _⟩
  · omega
  · exact ⟨g, cap, rfl, hb, hk g (by simp [Value.ownBlock]), blk_lt hg, fun j => blk_free hg j⟩
/-- One cell of one element is written. -/
theorem Own.store {e : TypeId} {base g n c : Nat} (h : d.Own e w base ok (.slice (some ⟨g, 0, none⟩) n c) xs) {i f : Nat} (hi : i < xs.length) (hf : f < d.sz) (u : Value) (x' : α)
    (hx : ∀ cs, d.K w (fun k => ok k ∧ some k ≠ some g) xs[i] cs → d.K w (fun k => ok k ∧ some k ≠ some g) x' (cs.set f u)) : d.Own e (w.setCell ⟨g, i * d.sz + f, none⟩ u) base ok (.slice (some ⟨g, 0, none⟩) n c) (xs.set i x') := by
  obtain ⟨cells, ho, hr, hk⟩ := h
  have hn : n = xs.length := by
    rcases ho.2 with ⟨h, _⟩ | ⟨g', cap, cur, h, _⟩
    · simp at h
    · simp only [Value.slice.injEq] at h
      exact h.2.1
  subst hn
  refine ⟨cells.set (i * d.sz + f) u, by rw [List.length_set]; exact (ho.stored _ u).1, ?_, hk⟩
  have hr' := Reps.store (fun _ _ => d.len) hf u hr (List.getElem?_eq_getElem hi) hx
  exact hr'.imp (fun _ _ hK => Kd.far hK (fun k hk e => hk.2 (by show some k = some g; rw [e])) u)
/-- A block whose cells are the elements', as a slice of the call's own. -/
theorem Own.lit {e : TypeId} {base : Nat} {cells : List Value} {n : Nat} (hn : n = xs.length) (hr : Reps (d.K w ok) xs cells) (hb : base ≤ w.heap.size) (hm : xs.length ≤ maxLen) (hok : ok w.heap.size) : d.Own e (w.alloc (.cells cells.toArray e)) base ok (.slice (some ⟨w.heap.size, 0, none⟩) n n) xs := by
  subst hn
  have hl : cells.length = xs.length * d.sz := Reps.length (fun _ _ => d.len) hr
  refine ⟨cells, by simpa using World.ownsRow_lit (e := e) (size := d.sz) w cells.toArray xs.length hb hm (by simpa using hl), hr.imp (fun _ _ hK => ?_), fun k hk => ?_⟩
  · refine d.mono (fun k hk => ⟨hk.1, ?_⟩) (Kd.al (d.bound hK) _)
    intro h
    simp only [Value.ownBlock, Option.some.injEq] at h
    have := hk.2
    omega
  · simp only [Value.ownBlock, Option.some.injEq] at hk
    subst hk
    exact hok
end
end Kd

section
variable {α : Type} {d : Kd α} {P : Program} {w : World} {base : Nat} {ok okS : Nat → Prop}
theorem run_append_kd (t e : TypeId) (ty : TypeId) (z : Value) (bytes : Nat) (ht : P.underlying t = some (.slice e)) (hinfo : (P.info? e).map (fun i => (i.zero, i.size, i.bytes)) = some (some z, d.sz, bytes)) (hz : z.cells.size = d.sz)
    (v : Value) (xs : List α) (hO : d.Own e w base ok v xs) (A : Option Addr) (m c : Nat) (ys : List α) (hm : m = ys.length) (hR : d.Row w okS A ys) (hne : ∀ x cs, d.K w okS x cs → d.K w (fun k => ok k ∧ some k ≠ v.ownBlock) x cs)
    (hl63 : xs.length + m ≤ maxLen) (hl : (xs.length + m) * bytes ≤ 140737488355328) (hbase : base ≤ w.heap.size) (hok : ∀ k, w.heap.size ≤ k → ok k) :
    ∃ v1 w1, (Builtin.append_ #[t, t] ty #[v, .slice A m c]).run P w = .ok v1 w1 ∧ d.Own e w1 base ok v1 (xs ++ ys) ∧ w.grownBy w1 v.ownBlock ∧ (v1.ownBlock = v.ownBlock ∨ v1.ownBlock = some w.heap.size) := by
  subst hm
  obtain ⟨i0, hi, hzz⟩ := Option.map_eq_some_iff.1 hinfo
  simp only [Prod.mk.injEq] at hzz
  obtain ⟨hz0, hz1, hz2⟩ := hzz
  have hO' := hO
  obtain ⟨cells, ho, hr, hk⟩ := hO
  rcases A with _ | ad
  · have h0 : ys = [] := by
      cases ys with
      | nil => rfl
      | cons y ys =>
        obtain ⟨ad, cs, e, _⟩ := hR.2 0 y rfl
        cases e
    subst h0
    refine ⟨v, w, ?_, by simpa using hO', World.grownBy.refl w _, .inl rfl⟩
    rcases ho.2 with ⟨rfl, hn⟩ | ⟨g, cap, cur, rfl, _, _, hnc, _⟩
    · simp [Builtin.append_, run_underlying ht, sizeOf, typeInfo, hi, Builtin.lenOf, Builtin.firstCells]
    · simp [Builtin.append_, run_underlying ht, sizeOf, typeInfo, hi, Builtin.lenOf, Builtin.firstCells, hnc, storeCells]
  · obtain ⟨news, hn, hc⟩ := hR.news
    have hnl : news.length = ys.length * d.sz := Kd.Reps.length (fun _ _ => d.len) hn
    obtain ⟨v1, w1, hrun, h2, h3, _, h5⟩ := run_append_own_at (P := P) w base t ty e i0 z d.sz bytes ht hi hz0 hz1 hz2 hz d.pos v xs.length cells ho ad ys.length c news hnl hc
      (Kd.Reps.all (p := fun u => u.oneCell' = true) (fun _ _ => d.one) hn) hl63 hl hbase
    exact ⟨v1, w1, hrun, Kd.Own.appended hO' hr (hn.imp hne) h2 h3 h5 hok, h3, h5⟩

variable {ops : Array Oper} {rest : List Oper} {o : Oper} {a : Act} {Q : Exit → Act → World → Prop}
/-- append(s, x...) AT THE OPERATION. -/
theorem wp_append_kd (hgd : o.guard = none) (s x : Operand) (t e : TypeId) (z : Value) (bytes : Nat) (ho : o.op = .call { callee := .builtin .append, args := #[s, x], argTypes := #[t, t] })
    (ht : P.underlying t = some (.slice e)) (hinfo : (P.info? e).map (fun i => (i.zero, i.size, i.bytes)) = some (some z, d.sz, bytes)) (hz : z.cells.size = d.sz)
    (v : Value) (xs : List α) (A : Option Addr) (m c : Nat) (ys : List α) (hs : a.eval s = v) (hx : a.eval x = .slice A m c)
    (hO : d.Own e w base ok v xs) (hm : m = ys.length) (hR : d.Row w okS A ys) (hne : ∀ x cs, d.K w okS x cs → d.K w (fun k => ok k ∧ some k ≠ v.ownBlock) x cs)
    (hl63 : xs.length + m ≤ maxLen) (hl : (xs.length + m) * bytes ≤ 140737488355328) (hbase : base ≤ w.heap.size) (hok : ∀ k, w.heap.size ≤ k → ok k)
    (h : ∀ v1 w1, d.Own e w1 base ok v1 (xs ++ ys) → w.grownBy w1 v.ownBlock → (v1.ownBlock = v.ownBlock ∨ v1.ownBlock = some w.heap.size) → wpList P ops Q rest (a.put o.dst v1) w1) :
    wpList P ops Q (o :: rest) a w := by
  refine wpList_plain hgd fun K hK => ?_
  obtain ⟨v1, w1, hrun, h1, h2, h3⟩ := run_append_kd t e o.type z bytes ht hinfo hz v xs hO A m c ys hm hR hne hl63 hl hbase hok
  unfold Oper.wp execOp
  simp only [ho, resolve, invoke, builtin, Sem.run_bind, Sem.run_pure, Result.andThen_ok, List.map_toArray, List.map_cons, List.map_nil, hs, hx, hrun]
  exact hK _ _ (h v1 w1 h1 h2 h3)
/-- The same at a step of a region that draws its order. -/
theorem step_append_kd {K : Act → World → Prop} {E : Prop} (hgd : o.guard = none) (s x : Operand) (t e : TypeId) (z : Value) (bytes : Nat) (ho : o.op = .call { callee := .builtin .append, args := #[s, x], argTypes := #[t, t] })
    (ht : P.underlying t = some (.slice e)) (hinfo : (P.info? e).map (fun i => (i.zero, i.size, i.bytes)) = some (some z, d.sz, bytes)) (hz : z.cells.size = d.sz)
    (v : Value) (xs : List α) (A : Option Addr) (m c : Nat) (ys : List α) (hs : a.eval s = v) (hx : a.eval x = .slice A m c)
    (hO : d.Own e w base ok v xs) (hm : m = ys.length) (hR : d.Row w okS A ys) (hne : ∀ x cs, d.K w okS x cs → d.K w (fun k => ok k ∧ some k ≠ v.ownBlock) x cs)
    (hl63 : xs.length + m ≤ maxLen) (hl : (xs.length + m) * bytes ≤ 140737488355328) (hbase : base ≤ w.heap.size) (hok : ∀ k, w.heap.size ≤ k → ok k)
    (h : ∀ v1 w1, d.Own e w1 base ok v1 (xs ++ ys) → w.grownBy w1 v.ownBlock → (v1.ownBlock = v.ownBlock ∨ v1.ownBlock = some w.heap.size) → K (a.put o.dst v1) w1) :
    if Region.wanted o (yielded ops a.tmps) = true then Oper.wp P o a w K Q else E := by
  have hw : Region.wanted o (yielded ops a.tmps) = true := by simp [Region.wanted, hgd]
  rw [if_pos hw]
  obtain ⟨v1, w1, hrun, h1, h2, h3⟩ := run_append_kd t e o.type z bytes ht hinfo hz v xs hO A m c ys hm hR hne hl63 hl hbase hok
  unfold Oper.wp execOp
  simp only [ho, resolve, invoke, builtin, Sem.run_bind, Sem.run_pure, Result.andThen_ok, List.map_toArray, List.map_cons, List.map_nil, hs, hx, hrun]
  exact h v1 w1 h1 h2 h3
end
end Go.Proofs.YtbojjjiggppnaaaGreat
