/- The kinds of the program's structs: Insn, Data. Printed by the session's own kinds.py. -/
import Derived.Test.YtbojjjiggppnaaaGreatProg
import Derived.Test.YtbojjjiggppnaaaGreatB0
namespace Go.Proofs.YtbojjjiggppnaaaGreat
open Go.RowKit
set_option linter.unusedSimpArgs false

/-! ### Insn -/
structure Insn where
  code : Int
  jt : Int
  jf : Int
  k : Int
theorem Insn.ext' {x y : Insn} (h0 : x.code = y.code) (h1 : x.jt = y.jt) (h2 : x.jf = y.jf) (h3 : x.k = y.k) : x = y := by cases x; cases y; simp_all
def zInsn : Insn := ⟨0, 0, 0, 0⟩
instance : Inhabited Insn := ⟨zInsn⟩
def Insn.cells (x : Insn) : List Value := [.int .u16 x.code, .int .u8 x.jt, .int .u8 x.jf, .int .u32 x.k]
def Insn.agg (x : Insn) : Value := .agg #[.int .u16 x.code, .int .u8 x.jt, .int .u8 x.jf, .int .u32 x.k]
def Insn.wf (x : Insn) : Prop := Kd.rng .u16 x.code ∧ Kd.rng .u8 x.jt ∧ Kd.rng .u8 x.jf ∧ Kd.rng .u32 x.k
def kInsn : Kd Insn where
  sz := 4
  pos := by decide
  K := fun _ _ x cs => cs = x.cells ∧ x.wf
  len := fun h => by rw [h.1]; rfl
  one := fun h u hu => by
    rw [h.1] at hu
    simp only [Insn.cells, List.mem_cons, List.not_mem_nil, or_false] at hu
    rcases hu with rfl | rfl | rfl | rfl <;> rfl
  step := fun h _ => h
  mono := fun _ h => h
theorem kInsn.at_ {w : World} {ok : Nat → Prop} {A : Option Addr} {xs : List Insn} (h : kInsn.Row w ok A xs) {i : Nat} (hi : i < xs.length) : ∃ ad, A = some ad ∧ ok ad.block ∧ xs[i].wf ∧ w.cell? (ad.add (i * 4)) = some (.int .u16 xs[i].code) ∧ w.cell? ⟨(ad.add (i * 4)).block, (ad.add (i * 4)).off + 1, none⟩ = some (.int .u8 xs[i].jt) ∧ w.cell? ⟨(ad.add (i * 4)).block, (ad.add (i * 4)).off + 2, none⟩ = some (.int .u8 xs[i].jf) ∧ w.cell? ⟨(ad.add (i * 4)).block, (ad.add (i * 4)).off + 3, none⟩ = some (.int .u32 xs[i].k) := by
  obtain ⟨ad, cs, e, hok, ⟨rfl, hw⟩, hc0⟩ := h.get hi
  have hc : ∀ (j : Nat) (u : Value), xs[i].cells[j]? = some u → w.cell? (ad.add (i * 4 + j)) = some u := hc0
  exact ⟨ad, e, hok, hw, hc 0 _ rfl, by rw [← Kd.add_field _ _ 1 (by omega)]; exact hc 1 _ rfl, by rw [← Kd.add_field _ _ 2 (by omega)]; exact hc 2 _ rfl, by rw [← Kd.add_field _ _ 3 (by omega)]; exact hc 3 _ rfl⟩
theorem opensFInsn : ∀ (f0 f1 f2 f3 : Field), f0.offset = 0 → f1.offset = 1 → f2.offset = 2 → f3.offset = 3 → f0.type = 51 → f1.type = 5 → f2.type = 5 → f3.type = 23 → OpensF Tryz.prog (Kd.pair (Kd.int .u16) (Kd.pair (Kd.int .u8) (Kd.pair (Kd.int .u8) (Kd.int .u32)))) [f0, f1, f2, f3] 0 := by
  intro f0 f1 f2 f3 h0 h1 h2 h3 t0 t1 t2 t3
  refine opensF_cons (by rw [t0]; exact (opens_int Tryz.underlying51 (by kernel_rfl))) h0 ?_
  refine opensF_cons (by rw [t1]; exact (opens_int Tryz.underlying5 (by kernel_rfl))) h1 ?_
  refine opensF_cons (by rw [t2]; exact (opens_int Tryz.underlying5 (by kernel_rfl))) h2 ?_
  exact opensF_last (by rw [t3]; exact (opens_int Tryz.underlying23 (by kernel_rfl))) h3
theorem opensInsn : Opens Tryz.prog kInsn 141 := opens_mk (by kernel_rfl) (fun H enc w base spare held fuel cs x hx => by
  obtain ⟨a, ha⟩ := (opens_struct id id (fun _ => rfl) Tryz.underlying141 (by kernel_rfl) (opensFInsn _ _ _ _ rfl rfl rfl rfl rfl rfl rfl rfl)).2 hx
  obtain ⟨v_code, v_jt, v_jf, v_k⟩ := a
  obtain ⟨_, _, rfl, ⟨rfl, g_code⟩, ⟨_, _, rfl, ⟨rfl, g_jt⟩, ⟨_, _, rfl, ⟨rfl, g_jf⟩, ⟨rfl, g_k⟩⟩⟩⟩ := ha
  exact ⟨⟨v_code, v_jt, v_jf, v_k⟩, rfl, ⟨g_code, g_jt, g_jf, g_k⟩⟩)

/-! ### Data -/
structure Data where
  nr : Int
  arch : Int
  ip : Int
  args0 : Int
  args1 : Int
  args2 : Int
  args3 : Int
  args4 : Int
  args5 : Int
theorem Data.ext' {x y : Data} (h0 : x.nr = y.nr) (h1 : x.arch = y.arch) (h2 : x.ip = y.ip) (h3 : x.args0 = y.args0) (h4 : x.args1 = y.args1) (h5 : x.args2 = y.args2) (h6 : x.args3 = y.args3) (h7 : x.args4 = y.args4) (h8 : x.args5 = y.args5) : x = y := by cases x; cases y; simp_all
def zData : Data := ⟨0, 0, 0, 0, 0, 0, 0, 0, 0⟩
instance : Inhabited Data := ⟨zData⟩
def Data.cells (x : Data) : List Value := [.int .u32 x.nr, .int .u32 x.arch, .int .u64 x.ip, .int .u64 x.args0, .int .u64 x.args1, .int .u64 x.args2, .int .u64 x.args3, .int .u64 x.args4, .int .u64 x.args5]
def Data.agg (x : Data) : Value := .agg #[.int .u32 x.nr, .int .u32 x.arch, .int .u64 x.ip, .int .u64 x.args0, .int .u64 x.args1, .int .u64 x.args2, .int .u64 x.args3, .int .u64 x.args4, .int .u64 x.args5]
def Data.wf (x : Data) : Prop := Kd.rng .u32 x.nr ∧ Kd.rng .u32 x.arch ∧ Kd.rng .u64 x.ip ∧ Kd.rng .u64 x.args0 ∧ Kd.rng .u64 x.args1 ∧ Kd.rng .u64 x.args2 ∧ Kd.rng .u64 x.args3 ∧ Kd.rng .u64 x.args4 ∧ Kd.rng .u64 x.args5
def kData : Kd Data where
  sz := 9
  pos := by decide
  K := fun _ _ x cs => cs = x.cells ∧ x.wf
  len := fun h => by rw [h.1]; rfl
  one := fun h u hu => by
    rw [h.1] at hu
    simp only [Data.cells, List.mem_cons, List.not_mem_nil, or_false] at hu
    rcases hu with rfl | rfl | rfl | rfl | rfl | rfl | rfl | rfl | rfl <;> rfl
  step := fun h _ => h
  mono := fun _ h => h
theorem kData.at_ {w : World} {ok : Nat → Prop} {A : Option Addr} {xs : List Data} (h : kData.Row w ok A xs) {i : Nat} (hi : i < xs.length) : ∃ ad, A = some ad ∧ ok ad.block ∧ xs[i].wf ∧ w.cell? (ad.add (i * 9)) = some (.int .u32 xs[i].nr) ∧ w.cell? ⟨(ad.add (i * 9)).block, (ad.add (i * 9)).off + 1, none⟩ = some (.int .u32 xs[i].arch) ∧ w.cell? ⟨(ad.add (i * 9)).block, (ad.add (i * 9)).off + 2, none⟩ = some (.int .u64 xs[i].ip) ∧ w.cell? ⟨(ad.add (i * 9)).block, (ad.add (i * 9)).off + 3, none⟩ = some (.int .u64 xs[i].args0) ∧ w.cell? ⟨(ad.add (i * 9)).block, (ad.add (i * 9)).off + 4, none⟩ = some (.int .u64 xs[i].args1) ∧ w.cell? ⟨(ad.add (i * 9)).block, (ad.add (i * 9)).off + 5, none⟩ = some (.int .u64 xs[i].args2) ∧ w.cell? ⟨(ad.add (i * 9)).block, (ad.add (i * 9)).off + 6, none⟩ = some (.int .u64 xs[i].args3) ∧ w.cell? ⟨(ad.add (i * 9)).block, (ad.add (i * 9)).off + 7, none⟩ = some (.int .u64 xs[i].args4) ∧ w.cell? ⟨(ad.add (i * 9)).block, (ad.add (i * 9)).off + 8, none⟩ = some (.int .u64 xs[i].args5) := by
  obtain ⟨ad, cs, e, hok, ⟨rfl, hw⟩, hc0⟩ := h.get hi
  have hc : ∀ (j : Nat) (u : Value), xs[i].cells[j]? = some u → w.cell? (ad.add (i * 9 + j)) = some u := hc0
  exact ⟨ad, e, hok, hw, hc 0 _ rfl, by rw [← Kd.add_field _ _ 1 (by omega)]; exact hc 1 _ rfl, by rw [← Kd.add_field _ _ 2 (by omega)]; exact hc 2 _ rfl, by rw [← Kd.add_field _ _ 3 (by omega)]; exact hc 3 _ rfl, by rw [← Kd.add_field _ _ 4 (by omega)]; exact hc 4 _ rfl, by rw [← Kd.add_field _ _ 5 (by omega)]; exact hc 5 _ rfl, by rw [← Kd.add_field _ _ 6 (by omega)]; exact hc 6 _ rfl, by rw [← Kd.add_field _ _ 7 (by omega)]; exact hc 7 _ rfl, by rw [← Kd.add_field _ _ 8 (by omega)]; exact hc 8 _ rfl⟩
theorem opensFData : ∀ (f0 f1 f2 f3 : Field), f0.offset = 0 → f1.offset = 1 → f2.offset = 2 → f3.offset = 3 → f0.type = 23 → f1.type = 23 → f2.type = 24 → f3.type = 25 → OpensF Tryz.prog (Kd.pair (Kd.int .u32) (Kd.pair (Kd.int .u32) (Kd.pair (Kd.int .u64) (Kd.arr 6 (by decide) (Kd.int .u64))))) [f0, f1, f2, f3] 0 := by
  intro f0 f1 f2 f3 h0 h1 h2 h3 t0 t1 t2 t3
  refine opensF_cons (by rw [t0]; exact (opens_int Tryz.underlying23 (by kernel_rfl))) h0 ?_
  refine opensF_cons (by rw [t1]; exact (opens_int Tryz.underlying23 (by kernel_rfl))) h1 ?_
  refine opensF_cons (by rw [t2]; exact (opens_int Tryz.underlying24 (by kernel_rfl))) h2 ?_
  exact opensF_last (by rw [t3]; exact (opens_arr (by decide) Tryz.underlying25 (by kernel_rfl) (opens_int Tryz.underlying24 (by kernel_rfl)))) h3
theorem opensData : Opens Tryz.prog kData 27 := opens_mk (by kernel_rfl) (fun H enc w base spare held fuel cs x hx => by
  obtain ⟨a, ha⟩ := (opens_struct id id (fun _ => rfl) Tryz.underlying27 (by kernel_rfl) (opensFData _ _ _ _ rfl rfl rfl rfl rfl rfl rfl rfl)).2 hx
  obtain ⟨v_nr, v_arch, v_ip, v_args⟩ := a
  obtain ⟨_, _, rfl, ⟨rfl, g_nr⟩, ⟨_, _, rfl, ⟨rfl, g_arch⟩, ⟨_, _, rfl, ⟨rfl, g_ip⟩, ⟨hl_args, hr_args⟩⟩⟩⟩ := ha
  obtain ⟨rfl, gw_args⟩ := Kd.reps_scalar.1 hr_args
  match v_args, hl_args with
  | [args0, args1, args2, args3, args4, args5], _ =>
  exact ⟨⟨v_nr, v_arch, v_ip, args0, args1, args2, args3, args4, args5⟩, rfl, g_nr, g_arch, g_ip, gw_args _ (by simp), gw_args _ (by simp), gw_args _ (by simp), gw_args _ (by simp), gw_args _ (by simp), gw_args _ (by simp)⟩)
end Go.Proofs.YtbojjjiggppnaaaGreat
