/- The kinds of the program's structs: Node, Pool. Printed by the session's own kinds.py. -/
import Derived.Test.YtbojjjiggppnaaaGreatProg
import Derived.Test.YtbojjjiggppnaaaGreatB1
namespace Go.Proofs.YtbojjjiggppnaaaGreat
open Go.RowKit
set_option linter.unusedSimpArgs false

/-! ### Node -/
structure Node where
  id : Int
  parent : Int
  program : (List Insn)
  size : Int
  count : Int
  one : Int
  two : Int
theorem Node.ext' {x y : Node} (h0 : x.id = y.id) (h1 : x.parent = y.parent) (h2 : x.program = y.program) (h3 : x.size = y.size) (h4 : x.count = y.count) (h5 : x.one = y.one) (h6 : x.two = y.two) : x = y := by cases x; cases y; simp_all
def zNode : Node := ⟨0, 0, [], 0, 0, 0, 0⟩
instance : Inhabited Node := ⟨zNode⟩
def kNode : Kd Node := Kd.iso (Kd.pair (Kd.int .i64) (Kd.pair (Kd.int .i64) (Kd.pair (Kd.slice kInsn) (Kd.pair (Kd.int .i64) (Kd.pair (Kd.int .i64) (Kd.pair (Kd.int .u64) (Kd.int .u64))))))) (fun x : Node => (x.id, x.parent, x.program, x.size, x.count, x.one, x.two))
theorem kNode.opn {w : World} {ok : Nat → Prop} {x : Node} {cs : List Value} (h : kNode.K w ok x cs) : ∃ A2 c2, cs = [.int .i64 x.id, .int .i64 x.parent, .slice A2 x.program.length c2, .int .i64 x.size, .int .i64 x.count, .int .u64 x.one, .int .u64 x.two] ∧ Kd.rng .i64 x.id ∧ Kd.rng .i64 x.parent ∧ (x.program.length ≤ c2 ∧ c2 ≤ maxLen ∧ kInsn.Row w ok A2 x.program) ∧ Kd.rng .i64 x.size ∧ Kd.rng .i64 x.count ∧ Kd.rng .u64 x.one ∧ Kd.rng .u64 x.two := by
  obtain ⟨_, _, rfl, ⟨rfl, g0⟩, ⟨_, _, rfl, ⟨rfl, g1⟩, ⟨_, _, rfl, ⟨A2, c2, rfl, g2⟩, ⟨_, _, rfl, ⟨rfl, g3⟩, ⟨_, _, rfl, ⟨rfl, g4⟩, ⟨_, _, rfl, ⟨rfl, g5⟩, ⟨rfl, g6⟩⟩⟩⟩⟩⟩⟩ := h
  exact ⟨A2, c2, rfl, g0, g1, g2, g3, g4, g5, g6⟩
theorem kNode.mk {w : World} {ok : Nat → Prop} {x : Node} (g0 : Kd.rng .i64 x.id) (g1 : Kd.rng .i64 x.parent) {A2 : Option Addr} {c2 : Nat} (g2 : x.program.length ≤ c2 ∧ c2 ≤ maxLen ∧ kInsn.Row w ok A2 x.program) (g3 : Kd.rng .i64 x.size) (g4 : Kd.rng .i64 x.count) (g5 : Kd.rng .u64 x.one) (g6 : Kd.rng .u64 x.two) : kNode.K w ok x [.int .i64 x.id, .int .i64 x.parent, .slice A2 x.program.length c2, .int .i64 x.size, .int .i64 x.count, .int .u64 x.one, .int .u64 x.two] := ⟨[.int .i64 x.id], [.int .i64 x.parent, .slice A2 x.program.length c2, .int .i64 x.size, .int .i64 x.count, .int .u64 x.one, .int .u64 x.two], rfl, ⟨rfl, g0⟩, ⟨[.int .i64 x.parent], [.slice A2 x.program.length c2, .int .i64 x.size, .int .i64 x.count, .int .u64 x.one, .int .u64 x.two], rfl, ⟨rfl, g1⟩, ⟨[.slice A2 x.program.length c2], [.int .i64 x.size, .int .i64 x.count, .int .u64 x.one, .int .u64 x.two], rfl, ⟨_, _, rfl, g2⟩, ⟨[.int .i64 x.size], [.int .i64 x.count, .int .u64 x.one, .int .u64 x.two], rfl, ⟨rfl, g3⟩, ⟨[.int .i64 x.count], [.int .u64 x.one, .int .u64 x.two], rfl, ⟨rfl, g4⟩, ⟨[.int .u64 x.one], [.int .u64 x.two], rfl, ⟨rfl, g5⟩, ⟨rfl, g6⟩⟩⟩⟩⟩⟩⟩
theorem kNode.at_ {w : World} {ok : Nat → Prop} {A : Option Addr} {xs : List Node} (h : kNode.Row w ok A xs) {i : Nat} (hi : i < xs.length) : ∃ ad A2 c2, A = some ad ∧ ok ad.block ∧ (Kd.rng .i64 xs[i].id ∧ Kd.rng .i64 xs[i].parent ∧ (xs[i].program.length ≤ c2 ∧ c2 ≤ maxLen ∧ kInsn.Row w ok A2 xs[i].program) ∧ Kd.rng .i64 xs[i].size ∧ Kd.rng .i64 xs[i].count ∧ Kd.rng .u64 xs[i].one ∧ Kd.rng .u64 xs[i].two) ∧ w.cell? (ad.add (i * 7)) = some (.int .i64 xs[i].id) ∧ w.cell? ⟨(ad.add (i * 7)).block, (ad.add (i * 7)).off + 1, none⟩ = some (.int .i64 xs[i].parent) ∧ w.cell? ⟨(ad.add (i * 7)).block, (ad.add (i * 7)).off + 2, none⟩ = some (.slice A2 xs[i].program.length c2) ∧ w.cell? ⟨(ad.add (i * 7)).block, (ad.add (i * 7)).off + 3, none⟩ = some (.int .i64 xs[i].size) ∧ w.cell? ⟨(ad.add (i * 7)).block, (ad.add (i * 7)).off + 4, none⟩ = some (.int .i64 xs[i].count) ∧ w.cell? ⟨(ad.add (i * 7)).block, (ad.add (i * 7)).off + 5, none⟩ = some (.int .u64 xs[i].one) ∧ w.cell? ⟨(ad.add (i * 7)).block, (ad.add (i * 7)).off + 6, none⟩ = some (.int .u64 xs[i].two) := by
  obtain ⟨ad, cs, e, hok, hK, hc0⟩ := h.get hi
  have hc : ∀ (j : Nat) (u : Value), cs[j]? = some u → w.cell? (ad.add (i * 7 + j)) = some u := hc0
  obtain ⟨A2, c2, rfl, g⟩ := kNode.opn hK
  exact ⟨ad, A2, c2, e, hok, g, hc 0 _ rfl, by rw [← Kd.add_field _ _ 1 (by omega)]; exact hc 1 _ rfl, by rw [← Kd.add_field _ _ 2 (by omega)]; exact hc 2 _ rfl, by rw [← Kd.add_field _ _ 3 (by omega)]; exact hc 3 _ rfl, by rw [← Kd.add_field _ _ 4 (by omega)]; exact hc 4 _ rfl, by rw [← Kd.add_field _ _ 5 (by omega)]; exact hc 5 _ rfl, by rw [← Kd.add_field _ _ 6 (by omega)]; exact hc 6 _ rfl⟩
theorem opensFNode : ∀ (f0 f1 f2 f3 f4 f5 f6 : Field), f0.offset = 0 → f1.offset = 1 → f2.offset = 2 → f3.offset = 3 → f4.offset = 4 → f5.offset = 5 → f6.offset = 6 → f0.type = 3 → f1.type = 3 → f2.type = 38 → f3.type = 3 → f4.type = 3 → f5.type = 24 → f6.type = 24 → OpensF Tryz.prog (Kd.pair (Kd.int .i64) (Kd.pair (Kd.int .i64) (Kd.pair (Kd.slice kInsn) (Kd.pair (Kd.int .i64) (Kd.pair (Kd.int .i64) (Kd.pair (Kd.int .u64) (Kd.int .u64))))))) [f0, f1, f2, f3, f4, f5, f6] 0 := by
  intro f0 f1 f2 f3 f4 f5 f6 h0 h1 h2 h3 h4 h5 h6 t0 t1 t2 t3 t4 t5 t6
  refine opensF_cons (by rw [t0]; exact (opens_int Tryz.underlying3 (by kernel_rfl))) h0 ?_
  refine opensF_cons (by rw [t1]; exact (opens_int Tryz.underlying3 (by kernel_rfl))) h1 ?_
  refine opensF_cons (by rw [t2]; exact (opens_slice Tryz.underlying38 (by kernel_rfl) opensInsn)) h2 ?_
  refine opensF_cons (by rw [t3]; exact (opens_int Tryz.underlying3 (by kernel_rfl))) h3 ?_
  refine opensF_cons (by rw [t4]; exact (opens_int Tryz.underlying3 (by kernel_rfl))) h4 ?_
  refine opensF_cons (by rw [t5]; exact (opens_int Tryz.underlying24 (by kernel_rfl))) h5 ?_
  exact opensF_last (by rw [t6]; exact (opens_int Tryz.underlying24 (by kernel_rfl))) h6
theorem opensNode : Opens Tryz.prog kNode 65 := opens_struct _ (fun a => ⟨a.1, a.2.1, a.2.2.1, a.2.2.2.1, a.2.2.2.2.1, a.2.2.2.2.2.1, a.2.2.2.2.2.2⟩) (fun a => by rfl) Tryz.underlying65 (by kernel_rfl) (opensFNode _ _ _ _ _ _ _ rfl rfl rfl rfl rfl rfl rfl rfl rfl rfl rfl rfl rfl rfl)

/-! ### Pool -/
structure Pool where
  nodes : (List Node)
theorem Pool.ext' {x y : Pool} (h0 : x.nodes = y.nodes) : x = y := by cases x; cases y; simp_all
def zPool : Pool := ⟨[]⟩
instance : Inhabited Pool := ⟨zPool⟩
def kPool : Kd Pool := Kd.iso (Kd.slice kNode) (fun x : Pool => x.nodes)
theorem kPool.opn {w : World} {ok : Nat → Prop} {x : Pool} {cs : List Value} (h : kPool.K w ok x cs) : ∃ A0 c0, cs = [.slice A0 x.nodes.length c0] ∧ (x.nodes.length ≤ c0 ∧ c0 ≤ maxLen ∧ kNode.Row w ok A0 x.nodes) := by
  obtain ⟨A0, c0, rfl, g0⟩ := h
  exact ⟨A0, c0, rfl, g0⟩
theorem kPool.mk {w : World} {ok : Nat → Prop} {x : Pool} {A0 : Option Addr} {c0 : Nat} (g0 : x.nodes.length ≤ c0 ∧ c0 ≤ maxLen ∧ kNode.Row w ok A0 x.nodes) : kPool.K w ok x [.slice A0 x.nodes.length c0] := ⟨_, _, rfl, g0⟩
theorem kPool.at_ {w : World} {ok : Nat → Prop} {A : Option Addr} {xs : List Pool} (h : kPool.Row w ok A xs) {i : Nat} (hi : i < xs.length) : ∃ ad A0 c0, A = some ad ∧ ok ad.block ∧ ((xs[i].nodes.length ≤ c0 ∧ c0 ≤ maxLen ∧ kNode.Row w ok A0 xs[i].nodes)) ∧ w.cell? (ad.add (i * 1)) = some (.slice A0 xs[i].nodes.length c0) := by
  obtain ⟨ad, cs, e, hok, hK, hc0⟩ := h.get hi
  have hc : ∀ (j : Nat) (u : Value), cs[j]? = some u → w.cell? (ad.add (i * 1 + j)) = some u := hc0
  obtain ⟨A0, c0, rfl, g⟩ := kPool.opn hK
  exact ⟨ad, A0, c0, e, hok, g, hc 0 _ rfl⟩
theorem opensFPool : ∀ (f0 : Field), f0.offset = 0 → f0.type = 29 → OpensF Tryz.prog (Kd.slice kNode) [f0] 0 := by
  intro f0 h0 t0
  exact opensF_last (by rw [t0]; exact (opens_slice Tryz.underlying29 (by kernel_rfl) opensNode)) h0
theorem opensPool : Opens Tryz.prog kPool 31 := opens_struct _ (fun a => ⟨a⟩) (fun a => by rfl) Tryz.underlying31 (by kernel_rfl) (opensFPool _ rfl rfl)
end Go.Proofs.YtbojjjiggppnaaaGreat
