/- The walks of insn.Form and of what it calls. -/
import Derived.Test.YtbojjjiggppnaaaGreatB1
namespace Go.Proofs.YtbojjjiggppnaaaGreat
open Go.RowKit Go.Shelf
set_option linter.unusedVariables false
set_option linter.unusedSimpArgs false

def singleF (c : Int) : Int :=
  if c = 0 then 1 else if c = 1 then 1 else if c = 2 then 3 else if c = 3 then 3 else if c = 5 then 4 else if c = 6 then 1 else if c = 7 then 0 else if c = 22 then 0
  else if c = 32 then 2 else if c = 96 then 3 else if c = 97 then 3 else if c = 128 then 0 else if c = 129 then 0 else if c = 132 then 0 else if c = 135 then 0 else -1
theorem ret_si {s : ByteArray} {a b : Int} (h : a = b) : Ending.returned (.tuple #[.string s, .int .i64 a]) = Ending.returned (.tuple #[.string s, .int .i64 b]) := by rw [h]
/-- A string, and a number. -/
def StrInt (n : Int) (w : World) (e : Ending) (w' : World) : Prop := ∃ s, e = .returned (.tuple #[.string s, .int .i64 n]) ∧ w = w'
set_option maxHeartbeats 1000000 in
theorem c_single (c : Int) (w : World) : Calls Tryz.prog 206 #[.int .u16 c] w (StrInt (singleF c) w) := by
  go_enter Tryz.func206, Tryz.ntmps206
  go_wp2
  all_goals
    go_ret2
    refine ⟨_, ret_si (?_ : _ = singleF c), rfl⟩
    unfold singleF
  all_goals grind

/-- Sixteen names in a block; t tells which of them say anything. -/
def Names (t : Nat → Bool) (w : World) (b : Nat) : Prop := ∀ i, i < 16 → ∃ s : ByteArray, w.cell? ⟨b, i, none⟩ = some (.string s) ∧ (t i = !s.toList.isEmpty)
theorem Names.mk (l : List ByteArray) (hl : l.length = 16) (t : Nat → Bool) (ht : ∀ i (h : i < 16), (t i = !(l[i]'(by omega)).data.toList.isEmpty)) (w : World) (b : Nat) (T : TypeId) (cells : Array Value) (hc : cells = (l.map Value.string).toArray) (hb : w.heap[b]? = some (.cells cells T (0, 0))) : Names t w b := by
  subst hc
  intro i hi
  refine ⟨l[i]'(by omega), ?_, by rw [ByteArray.toList_eq]; exact ht i hi⟩
  rw [blk_cell hb i]
  simp [List.getElem?_eq_getElem (show i < l.length by omega)]
theorem Names.bel {t : Nat → Bool} {w w1 : World} {b : Nat} (h : Names t w b) (hb : Below w.heap.size w w1) : Names t w1 b := fun i hi => by
  obtain ⟨s, h1, h2⟩ := h i hi
  exact ⟨s, cell_bel hb h1, h2⟩
def recs : List ByteArray := [⟨#[97, 100, 100]⟩, ⟨#[115, 117, 98]⟩, ⟨#[109, 117, 108]⟩, ⟨#[100, 105, 118]⟩, ⟨#[111, 114]⟩, ⟨#[97, 110, 100]⟩, ⟨#[108, 115, 104]⟩, ⟨#[114, 115, 104]⟩, ⟨#[]⟩, ⟨#[]⟩, ⟨#[120, 111, 114]⟩, ⟨#[]⟩, ⟨#[]⟩, ⟨#[]⟩, ⟨#[]⟩, ⟨#[]⟩]
def tsts : List ByteArray := [⟨#[]⟩, ⟨#[106, 101, 113]⟩, ⟨#[106, 103, 116]⟩, ⟨#[106, 103, 101]⟩, ⟨#[106, 115, 101, 116]⟩, ⟨#[]⟩, ⟨#[]⟩, ⟨#[]⟩, ⟨#[]⟩, ⟨#[]⟩, ⟨#[]⟩, ⟨#[]⟩, ⟨#[]⟩, ⟨#[]⟩, ⟨#[]⟩, ⟨#[]⟩]
def rk (i : Nat) : Bool := decide (i < 8) || decide (i = 10)
def tk (i : Nat) : Bool := decide (1 ≤ i) && decide (i ≤ 4)
def NamesAt (t : Nat → Bool) (w : World) (e : Ending) (w' : World) : Prop := ∃ b, e = .returned (.pointer (some ⟨b, 0, none⟩)) ∧ Names t w' b ∧ Below w.heap.size w w'
set_option maxHeartbeats 1000000 in
theorem c_reckons (w : World) : Calls Tryz.prog 227 #[] w (NamesAt rk w) := by
  go_enter Tryz.func227, Tryz.ntmps227
  go_wp2
  go_ret
  exact ⟨w.heap.size, rfl, Names.mk recs rfl rk (by decide) _ _ _ _ rfl (blk_new _ _), below_al (Below.refl _ _) _⟩
set_option maxHeartbeats 1000000 in
theorem c_tests (w : World) : Calls Tryz.prog 228 #[] w (NamesAt tk w) := by
  go_enter Tryz.func228, Tryz.ntmps228
  go_wp2
  go_ret
  exact ⟨w.heap.size, rfl, Names.mk tsts rfl tk (by decide) _ _ _ _ rfl (blk_new _ _), below_al (Below.refl _ _) _⟩

/-- The table of a code's low half, and the form of that half. -/
def sidedK (c : Int) : Option ((Nat → Bool) × Int) := if c % 16 = 4 then some (rk, 1) else if c % 16 = 12 then some (rk, 0) else if c % 16 = 5 then some (tk, 5) else if c % 16 = 13 then some (tk, 6) else none
def SidedAt (c : Int) (w : World) (e : Ending) (w' : World) : Prop :=
  match sidedK c with
  | none => (∃ s, e = .returned (.tuple #[.pointer none, .string s, .int .i64 (-1)])) ∧ Below w.heap.size w w'
  | some (t, f) => ∃ b s, e = .returned (.tuple #[.pointer (some ⟨b, 0, none⟩), .string s, .int .i64 f]) ∧ Names t w' b ∧ Below w.heap.size w w'
theorem and15 {c : Int} (h0 : 0 ≤ c) (h1 : c < 65536) : bits .and .u16 c 15 = c % 16 :=
  bits_mask .u16 16 (by decide) (fun n h h' => by rw [IntKind.wrap_u16]; omega) 4 (by decide) c h0 h1
set_option maxHeartbeats 1000000 in
theorem c_sided (c : Int) (w : World) (h0 : 0 ≤ c) (h1 : c < 65536) : Calls Tryz.prog 207 #[.int .u16 c] w (SidedAt c w) := by
  have hm := and15 h0 h1
  go_enter Tryz.func207, Tryz.ntmps207
  go_wp2_with (first | (go_at_call 227; refine (c_reckons _).mono ?_; rintro e w' ⟨b, rfl, hN, hB⟩) | (go_at_call 228; refine (c_tests _).mono ?_; rintro e w' ⟨b, rfl, hN, hB⟩))
  all_goals
    go_ret3
    unfold SidedAt sidedK
  · rw [if_pos (show c % 16 = 4 from by have h : (c % 16 == 4) = true := by assumption
                                        simpa using h)]
    exact ⟨b, _, rfl, hN, hB⟩
  · rw [if_neg (show ¬ c % 16 = 4 from by have h : (c % 16 == 4) = false := by assumption
                                          simpa using h), if_pos (show c % 16 = 12 from by have h : (c % 16 == 12) = true := by assumption
                                                                                           simpa using h)]
    exact ⟨b, _, rfl, hN, hB⟩
  · rw [if_neg (show ¬ c % 16 = 4 from by have h : (c % 16 == 4) = false := by assumption
                                          simpa using h), if_neg (show ¬ c % 16 = 12 from by have h : (c % 16 == 12) = false := by assumption
                                                                                             simpa using h), if_pos (show c % 16 = 5 from by have h : (c % 16 == 5) = true := by assumption
                                                                                                                                             simpa using h)]
    exact ⟨b, _, rfl, hN, hB⟩
  · rw [if_neg (show ¬ c % 16 = 4 from by have h : (c % 16 == 4) = false := by assumption
                                          simpa using h), if_neg (show ¬ c % 16 = 12 from by have h : (c % 16 == 12) = false := by assumption
                                                                                             simpa using h), if_neg (show ¬ c % 16 = 5 from by have h : (c % 16 == 5) = false := by assumption
                                                                                                                                               simpa using h), if_pos (show c % 16 = 13 from by have h : (c % 16 == 13) = true := by assumption
                                                                                                                                                                                                simpa using h)]
    exact ⟨b, _, rfl, hN, hB⟩
  · rw [if_neg (show ¬ c % 16 = 4 from by have h : (c % 16 == 4) = false := by assumption
                                          simpa using h), if_neg (show ¬ c % 16 = 12 from by have h : (c % 16 == 12) = false := by assumption
                                                                                             simpa using h), if_neg (show ¬ c % 16 = 5 from by have h : (c % 16 == 5) = false := by assumption
                                                                                                                                               simpa using h), if_neg (show ¬ c % 16 = 13 from by have h : (c % 16 == 13) = false := by assumption
                                                                                                                                                                                                  simpa using h)]
    exact ⟨⟨_, rfl⟩, Below.refl _ _⟩

def formF (c : Int) : Int :=
  if 0 ≤ singleF c ∨ 256 ≤ c then singleF c else match sidedK c with
  | none => -1
  | some (t, f) => if t (c / 16).toNat = true then f else -1
set_option maxHeartbeats 1000000 in
theorem c_form (c : Int) (w : World) (h0 : 0 ≤ c) (h1 : c < 65536) : Calls Tryz.prog 184 #[.int .u16 c] w fun e w' => e = .returned (.int .i64 (formF c)) ∧ Below w.heap.size w w' := by
  by_cases hs : 0 ≤ singleF c ∨ 256 ≤ c
  · have hf : formF c = singleF c := by unfold formF; rw [if_pos hs]
    rw [hf]
    have hsc := c_single c w
    generalize singleF c = r at *
    have HF := Lib.hid hf
    clear hf
    go_enter Tryz.func184, Tryz.ntmps184
    go_wp2_with (go_at_call 206; refine hsc.mono ?_; rintro e w' ⟨s, rfl, rfl⟩)
    all_goals
      go_ret
      exact ⟨rfl, Below.refl _ _⟩
  · have hf : formF c = match sidedK c with
      | none => -1
      | some (t, f) => if t (c / 16).toNat = true then f else -1 := by unfold formF; rw [if_neg hs]
    rw [hf]
    rw [not_or] at hs
    have hsc := c_single c w
    have hsd := c_sided c w h0 h1
    unfold SidedAt at hsd
    have hr0 : singleF c < 0 := by omega
    have hc0 : c < 256 := by omega
    generalize singleF c = r at *
    clear hf hs
    cases hk : sidedK c with
    | none =>
      rw [hk] at hsd
      clear hk
      go_enter Tryz.func184, Tryz.ntmps184
      go_wp2_with (first | (go_at_call 206; refine hsc.mono ?_; rintro e w' ⟨s, rfl, rfl⟩) | (go_at_call 207; refine hsd.mono ?_; rintro e w' ⟨⟨s, rfl⟩, hB⟩))
      go_ret
      exact ⟨rfl, hB⟩
    | some tf =>
      obtain ⟨t, f⟩ := tf
      rw [hk] at hsd
      clear hk
      simp only at hsd ⊢
      obtain ⟨n, hn⟩ := Int.eq_ofNat_of_zero_le (show 0 ≤ c / 16 by omega)
      have hn16 : n < 16 := by omega
      rw [hn]
      simp only [Int.ofNat_eq_natCast, Int.toNat_natCast] at hn ⊢
      by_cases ht : t n = true
      all_goals
        first | rw [if_pos ht] | rw [if_neg ht]
        have HT := Lib.hid ht
        clear ht
        go_enter Tryz.func184, Tryz.ntmps184
        go_wp2_with (first | (go_at_call 206; refine hsc.mono ?_; rintro e w' ⟨s, rfl, rfl⟩) | (go_at_call 207; refine hsd.mono ?_; rintro e w' ⟨b, s2, rfl, hN, hB⟩; obtain ⟨s3, hs3, he⟩ := hN n hn16; have HE := Lib.hid he; clear he))
        all_goals
          go_ret
          first
          | exact ⟨rfl, hB⟩
          | (exfalso
             have ht := HT.out
             rw [HE.out] at ht
             simp_all)
end Go.Proofs.YtbojjjiggppnaaaGreat
