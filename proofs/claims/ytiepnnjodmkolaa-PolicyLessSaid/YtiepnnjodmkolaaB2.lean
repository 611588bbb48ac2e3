/- The kinds of the program's structs: Test, Rule, Policy. Printed by the session's own kinds.py. -/
import Derived.Test.YtiepnnjodmkolaaProg
import Derived.Test.YtiepnnjodmkolaaB1
namespace Go.Proofs.Ytiepnnjodmkolaa
open Go.RowKit
set_option linter.unusedSimpArgs false

/-! ### Test -/
structure Test where
  arg : Int
  high : Bool
  mask : Int
  value : Int
theorem Test.ext' {x y : Test} (h0 : x.arg = y.arg) (h1 : x.high = y.high) (h2 : x.mask = y.mask) (h3 : x.value = y.value) : x = y := by cases x; cases y; simp_all
def zTest : Test := ⟨0, false, 0, 0⟩
instance : Inhabited Test := ⟨zTest⟩
def Test.cells (x : Test) : List Value := [.int .i64 x.arg, .bool x.high, .int .u32 x.mask, .int .u32 x.value]
def Test.agg (x : Test) : Value := .agg #[.int .i64 x.arg, .bool x.high, .int .u32 x.mask, .int .u32 x.value]
def Test.wf (x : Test) : Prop := Kd.rng .i64 x.arg ∧ Kd.rng .u32 x.mask ∧ Kd.rng .u32 x.value
def kTest : Kd Test where
  sz := 4
  pos := by decide
  K := fun _ _ x cs => cs = x.cells ∧ x.wf
  len := fun h => by rw [h.1]; rfl
  one := fun h u hu => by
    rw [h.1] at hu
    simp only [Test.cells, List.mem_cons, List.not_mem_nil, or_false] at hu
    rcases hu with rfl | rfl | rfl | rfl <;> rfl
  step := fun h _ => h
  mono := fun _ h => h
theorem kTest.at_ {w : World} {ok : Nat → Prop} {A : Option Addr} {xs : List Test} (h : kTest.Row w ok A xs) {i : Nat} (hi : i < xs.length) : ∃ ad, A = some ad ∧ ok ad.block ∧ xs[i].wf ∧ w.cell? (ad.add (i * 4)) = some (.int .i64 xs[i].arg) ∧ w.cell? ⟨(ad.add (i * 4)).block, (ad.add (i * 4)).off + 1, none⟩ = some (.bool xs[i].high) ∧ w.cell? ⟨(ad.add (i * 4)).block, (ad.add (i * 4)).off + 2, none⟩ = some (.int .u32 xs[i].mask) ∧ w.cell? ⟨(ad.add (i * 4)).block, (ad.add (i * 4)).off + 3, none⟩ = some (.int .u32 xs[i].value) := by
  obtain ⟨ad, cs, e, hok, ⟨rfl, hw⟩, hc0⟩ := h.get hi
  have hc : ∀ (j : Nat) (u : Value), xs[i].cells[j]? = some u → w.cell? (ad.add (i * 4 + j)) = some u := hc0
  exact ⟨ad, e, hok, hw, hc 0 _ rfl, by rw [← Kd.add_field _ _ 1 (by omega)]; exact hc 1 _ rfl, by rw [← Kd.add_field _ _ 2 (by omega)]; exact hc 2 _ rfl, by rw [← Kd.add_field _ _ 3 (by omega)]; exact hc 3 _ rfl⟩
theorem opensFTest : ∀ (f0 f1 f2 f3 : Field), f0.offset = 0 → f1.offset = 1 → f2.offset = 2 → f3.offset = 3 → f0.type = 3 → f1.type = 4 → f2.type = 23 → f3.type = 23 → OpensF Try.prog (Kd.pair (Kd.int .i64) (Kd.pair Kd.bool (Kd.pair (Kd.int .u32) (Kd.int .u32)))) [f0, f1, f2, f3] 0 := by
  intro f0 f1 f2 f3 h0 h1 h2 h3 t0 t1 t2 t3
  refine opensF_cons (by rw [t0]; exact (opens_int Try.underlying3 (by kernel_rfl))) h0 ?_
  refine opensF_cons (by rw [t1]; exact (opens_bool Try.underlying4 (by kernel_rfl))) h1 ?_
  refine opensF_cons (by rw [t2]; exact (opens_int Try.underlying23 (by kernel_rfl))) h2 ?_
  exact opensF_last (by rw [t3]; exact (opens_int Try.underlying23 (by kernel_rfl))) h3
theorem opensTest : Opens Try.prog kTest 69 := opens_mk (by kernel_rfl) (fun H enc w base spare held fuel cs x hx => by
  obtain ⟨a, ha⟩ := (opens_struct id id (fun _ => rfl) Try.underlying69 (by kernel_rfl) (opensFTest _ _ _ _ rfl rfl rfl rfl rfl rfl rfl rfl)).2 hx
  obtain ⟨v_arg, v_high, v_mask, v_value⟩ := a
  obtain ⟨_, _, rfl, ⟨rfl, g_arg⟩, ⟨_, _, rfl, ⟨rfl, g_high⟩, ⟨_, _, rfl, ⟨rfl, g_mask⟩, ⟨rfl, g_value⟩⟩⟩⟩ := ha
  exact ⟨⟨v_arg, v_high, v_mask, v_value⟩, rfl, ⟨g_arg, g_mask, g_value⟩⟩)

/-! ### Rule -/
structure Rule where
  archs : (List Int)
  lo : Int
  hi : Int
  tests : (List Test)
  word : Int
theorem Rule.ext' {x y : Rule} (h0 : x.archs = y.archs) (h1 : x.lo = y.lo) (h2 : x.hi = y.hi) (h3 : x.tests = y.tests) (h4 : x.word = y.word) : x = y := by cases x; cases y; simp_all
def zRule : Rule := ⟨[], 0, 0, [], 0⟩
instance : Inhabited Rule := ⟨zRule⟩
def kRule : Kd Rule := Kd.iso (Kd.pair (Kd.slice (Kd.int .u32)) (Kd.pair (Kd.int .u32) (Kd.pair (Kd.int .u32) (Kd.pair (Kd.slice kTest) (Kd.int .u32))))) (fun x : Rule => (x.archs, x.lo, x.hi, x.tests, x.word))
theorem kRule.opn {w : World} {ok : Nat → Prop} {x : Rule} {cs : List Value} (h : kRule.K w ok x cs) : ∃ A0 c0 A3 c3, cs = [.slice A0 x.archs.length c0, .int .u32 x.lo, .int .u32 x.hi, .slice A3 x.tests.length c3, .int .u32 x.word] ∧ (x.archs.length ≤ c0 ∧ c0 ≤ maxLen ∧ (Kd.int .u32).Row w ok A0 x.archs) ∧ Kd.rng .u32 x.lo ∧ Kd.rng .u32 x.hi ∧ (x.tests.length ≤ c3 ∧ c3 ≤ maxLen ∧ kTest.Row w ok A3 x.tests) ∧ Kd.rng .u32 x.word := by
  obtain ⟨_, _, rfl, ⟨A0, c0, rfl, g0⟩, ⟨_, _, rfl, ⟨rfl, g1⟩, ⟨_, _, rfl, ⟨rfl, g2⟩, ⟨_, _, rfl, ⟨A3, c3, rfl, g3⟩, ⟨rfl, g4⟩⟩⟩⟩⟩ := h
  exact ⟨A0, c0, A3, c3, rfl, g0, g1, g2, g3, g4⟩
theorem kRule.mk {w : World} {ok : Nat → Prop} {x : Rule} {A0 : Option Addr} {c0 : Nat} (g0 : x.archs.length ≤ c0 ∧ c0 ≤ maxLen ∧ (Kd.int .u32).Row w ok A0 x.archs) (g1 : Kd.rng .u32 x.lo) (g2 : Kd.rng .u32 x.hi) {A3 : Option Addr} {c3 : Nat} (g3 : x.tests.length ≤ c3 ∧ c3 ≤ maxLen ∧ kTest.Row w ok A3 x.tests) (g4 : Kd.rng .u32 x.word) : kRule.K w ok x [.slice A0 x.archs.length c0, .int .u32 x.lo, .int .u32 x.hi, .slice A3 x.tests.length c3, .int .u32 x.word] := ⟨[.slice A0 x.archs.length c0], [.int .u32 x.lo, .int .u32 x.hi, .slice A3 x.tests.length c3, .int .u32 x.word], rfl, ⟨_, _, rfl, g0⟩, ⟨[.int .u32 x.lo], [.int .u32 x.hi, .slice A3 x.tests.length c3, .int .u32 x.word], rfl, ⟨rfl, g1⟩, ⟨[.int .u32 x.hi], [.slice A3 x.tests.length c3, .int .u32 x.word], rfl, ⟨rfl, g2⟩, ⟨[.slice A3 x.tests.length c3], [.int .u32 x.word], rfl, ⟨_, _, rfl, g3⟩, ⟨rfl, g4⟩⟩⟩⟩⟩
theorem kRule.at_ {w : World} {ok : Nat → Prop} {A : Option Addr} {xs : List Rule} (h : kRule.Row w ok A xs) {i : Nat} (hi : i < xs.length) : ∃ ad A0 c0 A3 c3, A = some ad ∧ ok ad.block ∧ ((xs[i].archs.length ≤ c0 ∧ c0 ≤ maxLen ∧ (Kd.int .u32).Row w ok A0 xs[i].archs) ∧ Kd.rng .u32 xs[i].lo ∧ Kd.rng .u32 xs[i].hi ∧ (xs[i].tests.length ≤ c3 ∧ c3 ≤ maxLen ∧ kTest.Row w ok A3 xs[i].tests) ∧ Kd.rng .u32 xs[i].word) ∧ w.cell? (ad.add (i * 5)) = some (.slice A0 xs[i].archs.length c0) ∧ w.cell? ⟨(ad.add (i * 5)).block, (ad.add (i * 5)).off + 1, none⟩ = some (.int .u32 xs[i].lo) ∧ w.cell? ⟨(ad.add (i * 5)).block, (ad.add (i * 5)).off + 2, none⟩ = some (.int .u32 xs[i].hi) ∧ w.cell? ⟨(ad.add (i * 5)).block, (ad.add (i * 5)).off + 3, none⟩ = some (.slice A3 xs[i].tests.length c3) ∧ w.cell? ⟨(ad.add (i * 5)).block, (ad.add (i * 5)).off + 4, none⟩ = some (.int .u32 xs[i].word) := by
  obtain ⟨ad, cs, e, hok, hK, hc0⟩ := h.get hi
  have hc : ∀ (j : Nat) (u : Value), cs[j]? = some u → w.cell? (ad.add (i * 5 + j)) = some u := hc0
  obtain ⟨A0, c0, A3, c3, rfl, g⟩ := kRule.opn hK
  exact ⟨ad, A0, c0, A3, c3, e, hok, g, hc 0 _ rfl, by rw [← Kd.add_field _ _ 1 (by omega)]; exact hc 1 _ rfl, by rw [← Kd.add_field _ _ 2 (by omega)]; exact hc 2 _ rfl, by rw [← Kd.add_field _ _ 3 (by omega)]; exact hc 3 _ rfl, by rw [← Kd.add_field _ _ 4 (by omega)]; exact hc 4 _ rfl⟩
theorem opensFRule : ∀ (f0 f1 f2 f3 f4 : Field), f0.offset = 0 → f1.offset = 1 → f2.offset = 2 → f3.offset = 3 → f4.offset = 4 → f0.type = 48 → f1.type = 23 → f2.type = 23 → f3.type = 49 → f4.type = 23 → OpensF Try.prog (Kd.pair (Kd.slice (Kd.int .u32)) (Kd.pair (Kd.int .u32) (Kd.pair (Kd.int .u32) (Kd.pair (Kd.slice kTest) (Kd.int .u32))))) [f0, f1, f2, f3, f4] 0 := by
  intro f0 f1 f2 f3 f4 h0 h1 h2 h3 h4 t0 t1 t2 t3 t4
  refine opensF_cons (by rw [t0]; exact (opens_slice Try.underlying48 (by kernel_rfl) (opens_int Try.underlying23 (by kernel_rfl)))) h0 ?_
  refine opensF_cons (by rw [t1]; exact (opens_int Try.underlying23 (by kernel_rfl))) h1 ?_
  refine opensF_cons (by rw [t2]; exact (opens_int Try.underlying23 (by kernel_rfl))) h2 ?_
  refine opensF_cons (by rw [t3]; exact (opens_slice Try.underlying49 (by kernel_rfl) opensTest)) h3 ?_
  exact opensF_last (by rw [t4]; exact (opens_int Try.underlying23 (by kernel_rfl))) h4
theorem opensRule : Opens Try.prog kRule 51 := opens_struct _ (fun a => ⟨a.1, a.2.1, a.2.2.1, a.2.2.2.1, a.2.2.2.2⟩) (fun a => by rfl) Try.underlying51 (by kernel_rfl) (opensFRule _ _ _ _ _ rfl rfl rfl rfl rfl rfl rfl rfl rfl rfl)

/-! ### Policy -/
structure Policy where
  rules : (List Rule)
  els : Int
theorem Policy.ext' {x y : Policy} (h0 : x.rules = y.rules) (h1 : x.els = y.els) : x = y := by cases x; cases y; simp_all
def zPolicy : Policy := ⟨[], 0⟩
instance : Inhabited Policy := ⟨zPolicy⟩
def kPolicy : Kd Policy := Kd.iso (Kd.pair (Kd.slice kRule) (Kd.int .u32)) (fun x : Policy => (x.rules, x.els))
theorem kPolicy.opn {w : World} {ok : Nat → Prop} {x : Policy} {cs : List Value} (h : kPolicy.K w ok x cs) : ∃ A0 c0, cs = [.slice A0 x.rules.length c0, .int .u32 x.els] ∧ (x.rules.length ≤ c0 ∧ c0 ≤ maxLen ∧ kRule.Row w ok A0 x.rules) ∧ Kd.rng .u32 x.els := by
  obtain ⟨_, _, rfl, ⟨A0, c0, rfl, g0⟩, ⟨rfl, g1⟩⟩ := h
  exact ⟨A0, c0, rfl, g0, g1⟩
theorem kPolicy.mk {w : World} {ok : Nat → Prop} {x : Policy} {A0 : Option Addr} {c0 : Nat} (g0 : x.rules.length ≤ c0 ∧ c0 ≤ maxLen ∧ kRule.Row w ok A0 x.rules) (g1 : Kd.rng .u32 x.els) : kPolicy.K w ok x [.slice A0 x.rules.length c0, .int .u32 x.els] := ⟨[.slice A0 x.rules.length c0], [.int .u32 x.els], rfl, ⟨_, _, rfl, g0⟩, ⟨rfl, g1⟩⟩
theorem kPolicy.at_ {w : World} {ok : Nat → Prop} {A : Option Addr} {xs : List Policy} (h : kPolicy.Row w ok A xs) {i : Nat} (hi : i < xs.length) : ∃ ad A0 c0, A = some ad ∧ ok ad.block ∧ ((xs[i].rules.length ≤ c0 ∧ c0 ≤ maxLen ∧ kRule.Row w ok A0 xs[i].rules) ∧ Kd.rng .u32 xs[i].els) ∧ w.cell? (ad.add (i * 2)) = some (.slice A0 xs[i].rules.length c0) ∧ w.cell? ⟨(ad.add (i * 2)).block, (ad.add (i * 2)).off + 1, none⟩ = some (.int .u32 xs[i].els) := by
  obtain ⟨ad, cs, e, hok, hK, hc0⟩ := h.get hi
  have hc : ∀ (j : Nat) (u : Value), cs[j]? = some u → w.cell? (ad.add (i * 2 + j)) = some u := hc0
  obtain ⟨A0, c0, rfl, g⟩ := kPolicy.opn hK
  exact ⟨ad, A0, c0, e, hok, g, hc 0 _ rfl, by rw [← Kd.add_field _ _ 1 (by omega)]; exact hc 1 _ rfl⟩
theorem opensFPolicy : ∀ (f0 f1 : Field), f0.offset = 0 → f1.offset = 1 → f0.type = 22 → f1.type = 23 → OpensF Try.prog (Kd.pair (Kd.slice kRule) (Kd.int .u32)) [f0, f1] 0 := by
  intro f0 f1 h0 h1 t0 t1
  refine opensF_cons (by rw [t0]; exact (opens_slice Try.underlying22 (by kernel_rfl) opensRule)) h0 ?_
  exact opensF_last (by rw [t1]; exact (opens_int Try.underlying23 (by kernel_rfl))) h1
theorem opensPolicy : Opens Try.prog kPolicy 25 := opens_struct _ (fun a => ⟨a.1, a.2⟩) (fun a => by rfl) Try.underlying25 (by kernel_rfl) (opensFPolicy _ _ rfl rfl rfl rfl)
end Go.Proofs.Ytiepnnjodmkolaa
