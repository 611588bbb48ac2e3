/- A region that draws its order, whose last operations store into cells that it has loaded: the loads are taken first, and what the loads lean on need hold only till the first of those stores. No program in sight. -/
import Derived.Test.YtbojjjiggppnaaaGreatBA
import Derived.Test.YtbojjjiggppnaaaGreatBB
import Derived.Deep.RegionHeld3
namespace Go.Proofs.YtbojjjiggppnaaaGreat
open Go.RowKit
set_option linter.unusedVariables false

/-- A kind whose elements lead nowhere. -/
def Kd.Plain {α : Type} (d : Kd α) : Prop := ∀ (w w' : World) (ok ok' : Nat → Prop) (x : α) (cs : List Value), d.K w ok x cs → d.K w' ok' x cs
theorem Kd.Own.shift {α : Type} {d : Kd α} (hd : d.Plain) {e : TypeId} {w w1 : World} {base : Nat} {ok ok' : Nat → Prop} {v : Value} {xs : List α} (h : d.Own e w base ok v xs) (hb : ∀ k, v.ownBlock = some k → w1.heap[k]? = w.heap[k]? ∧ ok' k) : d.Own e w1 base ok' v xs := by
  obtain ⟨cells, ho, hr, hk⟩ := h
  exact ⟨cells, Kd.own_move ho (fun k hk => (hb k hk).1), hr.imp (fun _ _ h => hd _ _ _ _ _ _ h), fun k hk => (hb k hk).2⟩
theorem Kd.Row.plain {α : Type} {d : Kd α} (hd : d.Plain) {w : World} {ok : Nat → Prop} {A : Option Addr} {xs : List α} (h : d.Row w ok A xs) : d.Row w (fun _ => True) A xs := Kd.Row.mono (fun _ _ => trivial) h
theorem plain_int (k : IntKind) : (Kd.int k).Plain := fun _ _ _ _ _ _ h => h
theorem Kd.Own.lt_ {α : Type} {d : Kd α} {e : TypeId} {w : World} {base : Nat} {ok : Nat → Prop} {v : Value} {xs : List α} (h : d.Own e w base ok v xs) : ∀ k, v.ownBlock = some k → k < w.heap.size := by
  obtain ⟨_, h1, _⟩ := h
  exact fun k hk => (h1.lt k hk).2
theorem own_row {α : Type} {d : Kd α} {e : TypeId} {w : World} {base n c : Nat} {ok : Nat → Prop} {A : Option Addr} {xs : List α} (h : d.Own e w base ok (.slice A n c) xs) : xs.length ≤ c ∧ c ≤ maxLen ∧ d.Row w ok A xs := by
  obtain ⟨A', c', e1, h1, h2, h3⟩ := h.K
  simp only [List.cons.injEq, Value.slice.injEq, and_true] at e1
  obtain ⟨rfl, -, rfl⟩ := e1
  exact ⟨h1, h2, h3⟩
/-- What is not appended to stays. -/
theorem Kd.Own.stay {α : Type} {d : Kd α} (hd : d.Plain) {e : TypeId} {w w1 : World} {base : Nat} {ok : Nat → Prop} {v : Value} {xs : List α} (h : d.Own e w base ok v xs) {row : Option Nat} (hg : w.grownBy w1 row) (hr : ∀ q, v.ownBlock = some q → row ≠ some q) : d.Own e w1 base ok v xs :=
  h.shift hd fun k hk => ⟨hg.block k (h.lt_ k hk) (fun e => hr k hk e.symm), h.ok_ k hk⟩
/-- An empty row, just made. -/
theorem own_empty {α : Type} (d : Kd α) (e : TypeId) (w : World) (base : Nat) (ok : Nat → Prop) (s : Nat) (hs : w.heap.size = s) (hb : base ≤ s) (hok : ok s) : d.Own e (w.alloc (.cells #[] e)) base ok (.slice (some ⟨s, 0, none⟩) 0 0) [] := by
  subst hs
  exact Kd.Own.lit (cells := []) rfl rfl hb (by unfold maxLen; simp) hok

section
variable {P : Program} {ops : Array Oper} {Q : Exit → Act → World → Prop} {md : Region.Mode} {S : World → Prop} {late : Nat → Bool}

/-- Whatever order is picked from here on; S holds behind whatever is not late. -/
def AnyTill (P : Program) (md : Region.Mode) (ops : Array Oper) (Q : Exit → Act → World → Prop) (S : World → Prop) (late : Nat → Bool) : Nat → Array Bool → Act → World → Prop
  | 0, l, a, w => Region.ready md ops l = [] ∧ Q .normal a w
  | f + 1, l, a, w => (Region.ready md ops l = [] → Q .normal a w) ∧ ∀ j ∈ Region.ready md ops l, wpOp P ops Q j (fun b v => (late j = true ∨ S v) ∧ AnyTill P md ops Q S late f (l.setIfInBounds j true) b v) a w
theorem anyTill_any : ∀ (f : Nat) (l : Array Bool) (a : Act) (w : World), AnyTill P md ops Q S late f l a w → wpAny P md ops Q f l a w
  | 0, _, _, _, h => h
  | f + 1, _, _, _, h => ⟨h.1, fun j hj => wpOp_mono (fun b v hb => anyTill_any f _ b v hb.2) (h.2 j hj)⟩
/-- Every late operation that has not come up waits for number i. -/
def waits (md : Region.Mode) (ops : Array Oper) (late : Nat → Bool) (l : Array Bool) (i : Nat) : Bool :=
  (List.range ops.size).all fun j => !late j || l.getD j true || (match ops[j]? with
    | some o => o.after.any fun e => Region.binds md e && e.on == i
    | none => true)
theorem waits_not {l : Array Bool} {i j : Nat} (hw : waits md ops late l i = true) (hi : l.getD i true = false) (hl : l.getD j true = false) (hj : j ∈ Region.ready md ops l) : late j = false := by
  obtain ⟨-, o, ho, hall⟩ := mem_ready.1 hj
  have hlt : j < ops.size := (Array.getElem?_eq_some_iff.1 ho).1
  have := (List.all_eq_true.1 hw) j (List.mem_range.2 hlt)
  rw [ho, hl] at this
  cases hq : late j with
  | false => rfl
  | true =>
    rw [hq] at this
    simp only [Bool.not_true, Bool.or_self, Bool.false_or, Array.any_eq_true', Bool.and_eq_true, beq_iff_eq] at this
    obtain ⟨e, he, hb, rfl⟩ := this
    have h1 := hall e he hb
    have : l.getD e.on false = l.getD e.on true := by
      by_cases hs : e.on < l.size
      · simp [hs]
      · simp [hs] at hi
    rw [this, hi] at h1
    cases h1
theorem waits_set {l : Array Bool} {i : Nat} (hw : waits md ops late l i = true) (j : Nat) : waits md ops late (l.setIfInBounds j true) i = true := by
  refine List.all_eq_true.2 fun k hk => ?_
  have := (List.all_eq_true.1 hw) k hk
  by_cases hjk : j = k
  · subst hjk
    have : (l.setIfInBounds j true).getD j true = true := by
      by_cases hs : j < l.size <;> simp [hs]
    rw [this]; simp
  · rw [getD_set_ne true hjk]; exact this
theorem anyTill_first {i : Nat} {oi : Oper} {v : Value} (hi : ops[i]? = some oi) (hsel : ∀ (j : Nat) (o : Oper) cs b, ops[j]? = some o → o.op ≠ .select cs b)
    (hQ : ∀ c a w, Q (.panic c) (a.put oi.dst v) w → Q (.panic c) a w) : ∀ (f : Nat) (l : Array Bool) (a : Act) (w : World),
      (∀ j oj, ops[j]? = some oj → j ≠ i → l.getD j true = false → (∀ e ∈ oj.after, Region.binds md e = true → e.on ≠ i) → oi.apart ops oj = true) →
      waits md ops late l i = true → i ∈ Region.ready md ops l → YieldsIf P ops S oi v a → S w →
      AnyTill P md ops Q S late f (l.setIfInBounds i true) (a.put oi.dst v) w → AnyTill P md ops Q S late (f + 1) l a w := by
  intro f
  induction f with
  | zero =>
    intro l a w _ _ hr hy hS H
    refine ⟨fun h => (by rw [h] at hr; cases hr), fun j hj => ?_⟩
    rcases Decidable.em (j = i) with rfl | hji
    · exact hy.wpOp hi hS ⟨.inr hS, H⟩
    · have h0 := ready_mono hj hji
      rw [H.1] at h0
      cases h0
  | succ f ih =>
    intro l a w hfree hlw hr hy hS H
    refine ⟨fun h => (by rw [h] at hr; cases hr), fun j hj => ?_⟩
    rcases Decidable.em (j = i) with rfl | hji
    · exact hy.wpOp hi hS ⟨.inr hS, H⟩
    have h1 := H.2 j (ready_mono hj hji)
    obtain ⟨hjun, oj, hoj, hall⟩ := mem_ready.1 hj
    have hiun := (mem_ready.1 hr).1
    have hlj : late j = false := waits_not hlw hiun hjun hj
    have hnot : ∀ e ∈ oj.after, Region.binds md e = true → e.on ≠ i := fun e he hb heq => by
      have h1 := hall e he hb
      rw [heq] at h1
      by_cases hs : i < l.size
      · simp [hs] at hiun h1
        rw [hiun] at h1
        cases h1
      · simp [hs] at h1
    have h2 := wpOp_putIf hoj (hfree j oj hoj hji hjun hnot) (fun cs b => hsel i oi cs b hi) (fun cs b => hsel j oj cs b hoj) hQ hy h1
    have hfree' : ∀ k ok, ops[k]? = some ok → k ≠ i → (l.setIfInBounds j true).getD k true = false →
        (∀ e ∈ ok.after, Region.binds md e = true → e.on ≠ i) → oi.apart ops ok = true := fun k ok hk hki hun hno => by
      refine hfree k ok hk hki ?_ hno
      by_cases hjk : j = k
      · subst hjk; exact hjun
      · rwa [getD_set_ne true hjk] at hun
    refine wpOp_mono (fun b v h3 => ?_) h2
    obtain ⟨hyb, hSb, hr3⟩ := h3
    have hS3 : S v := by
      rcases hSb with h | h
      · rw [hlj] at h; cases h
      · exact h
    refine ⟨.inr hS3, ih (l.setIfInBounds j true) b v hfree' (waits_set hlw j) (ready_mono hr (Ne.symm hji)) hyb hS3 ?_⟩
    rwa [Array.setIfInBounds_comm _ _ hji]
/-- Number i is taken first. -/
theorem anyTill_take {i : Nat} {oi : Oper} {v : Value} {f : Nat} {l : Array Bool} {a : Act} {w : World} (hi : ops[i]? = some oi) (hs : Region.noSelect ops = true) (hf : Region.free md ops l i = true) (hr : (Region.ready md ops l).contains i = true) (hw : waits md ops late l i = true)
    (hQ : ∀ c a w, Q (.panic c) (a.put oi.dst v) w → Q (.panic c) a w) (hy : YieldsIf P ops S oi v a) (hS : S w)
    (h : AnyTill P md ops Q S late f (l.setIfInBounds i true) (a.put oi.dst v) w) : AnyTill P md ops Q S late (f + 1) l a w :=
  anyTill_first hi (Region.noSelect_spec hs) hQ f l a w (Region.free_spec hi hf) hw (by simpa using hr) hy hS h
/-- Each of these comes up next. -/
def EachTill (P : Program) (md : Region.Mode) (ops : Array Oper) (Q : Exit → Act → World → Prop) (S : World → Prop) (late : Nat → Bool) (f : Nat) (l : Array Bool) (a : Act) (w : World) (rs : List Nat) : Prop :=
  ∀ j ∈ rs, wpOp P ops Q j (fun b v => (late j = true ∨ S v) ∧ AnyTill P md ops Q S late f (l.setIfInBounds j true) b v) a w
theorem eachTill_nil {f : Nat} {l : Array Bool} {a : Act} {w : World} : EachTill P md ops Q S late f l a w [] := fun _ h => by cases h
theorem eachTill_cons {f : Nat} {l : Array Bool} {a : Act} {w : World} {i : Nat} {o : Oper} {rs : List Nat} (ho : ops[i]? = some o)
    (h : ∀ K : Act → World → Prop, Shut (∀ b v, (late i = true ∨ S v) → ((late i = true ∨ S v) → AnyTill P md ops Q S late f (l.setIfInBounds i true) b v) → K b v) → if Region.wanted o (yielded ops a.tmps) = true then Oper.wp P o a w K Q else K (a.put o.dst undef) w)
    (hs : EachTill P md ops Q S late f l a w rs) : EachTill P md ops Q S late f l a w (i :: rs) := fun j hj => by
  rcases List.mem_cons.1 hj with rfl | hj
  · exact wpOp_step ho (fun K hK => h K fun b v hSv h1 => hK b v ⟨hSv, h1 hSv⟩)
  · exact hs j hj
theorem anyTill_each {rs : List Nat} {f : Nat} {l : Array Bool} {a : Act} {w : World} (hr : Region.ready md ops l = rs) (hne : rs ≠ []) (h : EachTill P md ops Q S late f l a w rs) : AnyTill P md ops Q S late (f + 1) l a w :=
  ⟨fun h0 => absurd (hr ▸ h0) hne, hr ▸ h⟩
theorem anyTill_done {l : Array Bool} {a : Act} {w : World} (hr : Region.ready md ops l = []) (h : Q .normal a w) : ∀ f, AnyTill P md ops Q S late f l a w
  | 0 => ⟨hr, h⟩
  | _ + 1 => ⟨fun _ => h, by rw [hr]; simp⟩
theorem wp_region_till (S : World → Prop) (late : Nat → Bool) (f : Nat) (l0 : Array Bool) (hf : ops.size = f) (hl : Array.replicate f false = l0) {id : Nat} {a : Act} {w : World} (hm : P.follows .mixedOrders = true) (hS : S w.drew) (h : S w.drew → AnyTill P .any ops Q S late f l0 a w.drew) : (Code.region id ops true).wp P Q a w := by
  subst hf hl
  exact wp_region_any hm (anyTill_any _ _ _ _ (h hS))
end
end Go.Proofs.YtbojjjiggppnaaaGreat
