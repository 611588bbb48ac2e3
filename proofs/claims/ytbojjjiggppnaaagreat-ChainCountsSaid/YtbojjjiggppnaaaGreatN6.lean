/- The walks of the reference's sided, named, Name and Form. -/
import Derived.Test.YtbojjjiggppnaaaGreatN3
namespace Go.Proofs.YtbojjjiggppnaaaGreat
open Go.RowKit Go.Shelf
set_option linter.unusedVariables false
set_option linter.unusedSimpArgs false

def recAt (n : Nat) : ByteArray := recs.getD n ⟨#[]⟩
set_option maxRecDepth 100000 in
theorem idx_rec (n : Nat) (hn : n < 16) (w : World) : (Instr.index 313 (.agg #[.string ⟨#[97, 100, 100]⟩, .string ⟨#[115, 117, 98]⟩, .string ⟨#[109, 117, 108]⟩, .string ⟨#[100, 105, 118]⟩, .string ⟨#[111, 114]⟩, .string ⟨#[97, 110, 100]⟩, .string ⟨#[108, 115, 104]⟩, .string ⟨#[114, 115, 104]⟩, .string ⟨#[]⟩, .string ⟨#[]⟩, .string ⟨#[120, 111, 114]⟩, .string ⟨#[]⟩, .string ⟨#[]⟩, .string ⟨#[]⟩, .string ⟨#[]⟩, .string ⟨#[]⟩]) (.int .u16 n)).run Tryz.prog w = .ok (.string (recAt n)) w := by
  have h : n = 0 ∨ n = 1 ∨ n = 2 ∨ n = 3 ∨ n = 4 ∨ n = 5 ∨ n = 6 ∨ n = 7 ∨ n = 8 ∨ n = 9 ∨ n = 10 ∨ n = 11 ∨ n = 12 ∨ n = 13 ∨ n = 14 ∨ n = 15 := by omega
  rcases h with rfl | rfl | rfl | rfl | rfl | rfl | rfl | rfl | rfl | rfl | rfl | rfl | rfl | rfl | rfl | rfl
  all_goals rfl
set_option maxRecDepth 100000 in
set_option maxHeartbeats 4000000 in
theorem c_sided02 (n : Nat) (hn : n < 16) (c : Int) (h0 : 0 ≤ c) (hc : c / 16 = n) (w : World) : Calls Tryz.prog 231 #[.int .u16 c] w fun e w' => e = .returned (.string (recAt n)) ∧ w' = w := by
  have hidx := fun w => idx_rec n hn w
  go_enter Tryz.func231, Tryz.ntmps231
  go_wp2_with fail
  go_ret
  exact ⟨rfl, rfl⟩
def dotK (s : ByteArray) : ByteArray := s ++ ⟨#[46, 107]⟩
def dotX (s : ByteArray) : ByteArray := s ++ ⟨#[46, 120]⟩
def tstAt (n : Nat) : ByteArray := tsts.getD n ⟨#[]⟩
/-- A code's name and form. -/
def nameG (c : Int) : ByteArray × Int :=
  if c = 32 then (⟨#[108, 100, 46, 97, 98, 115]⟩, 2) else if c = 128 then (⟨#[108, 100, 46, 108, 101, 110]⟩, 0) else if c = 129 then (⟨#[108, 100, 120, 46, 108, 101, 110]⟩, 0) else if c = 22 then (⟨#[114, 101, 116, 46, 97]⟩, 0)
  else if c = 132 then (⟨#[110, 101, 103]⟩, 0) else if c = 7 then (⟨#[116, 97, 120]⟩, 0) else if c = 135 then (⟨#[116, 120, 97]⟩, 0) else if c = 6 then (⟨#[114, 101, 116, 46, 107]⟩, 1) else if c = 0 then (⟨#[108, 100, 46, 105, 109, 109]⟩, 1)
  else if c = 1 then (⟨#[108, 100, 120, 46, 105, 109, 109]⟩, 1) else if c = 96 then (⟨#[108, 100, 46, 109, 101, 109]⟩, 3) else if c = 97 then (⟨#[108, 100, 120, 46, 109, 101, 109]⟩, 3) else if c = 2 then (⟨#[115, 116]⟩, 3) else if c = 3 then (⟨#[115, 116, 120]⟩, 3)
  else if c = 5 then (⟨#[106, 97]⟩, 4) else if c % 16 = 4 ∧ (recAt (c / 16).toNat).data.toList ≠ [] then (dotK (recAt (c / 16).toNat), 1) else if c % 16 = 12 ∧ (recAt (c / 16).toNat).data.toList ≠ [] then (dotX (recAt (c / 16).toNat), 0)
  else if c % 16 = 5 ∧ 1 ≤ c / 16 ∧ c / 16 ≤ 4 then (dotK (tstAt (c / 16).toNat), 5) else if c % 16 = 13 ∧ 1 ≤ c / 16 ∧ c / 16 ≤ 4 then (dotX (tstAt (c / 16).toNat), 6) else (⟨#[]⟩, -1)
theorem nameG_form : ∀ n : Fin 256, (nameG n.val).2 = formF n.val := by decide +kernel
theorem nameG_abs : ∀ n : Fin 256, (decide ((nameG n.val).1.data.toList = [108, 100, 46, 97, 98, 115])) = decide ((n.val : Int) = 32) := by decide +kernel
theorem nameG_div : ∀ n : Fin 256, (decide ((nameG n.val).1.data.toList = [100, 105, 118, 46, 107])) = decide ((n.val : Int) = 52) := by decide +kernel
theorem nameG_lsh : ∀ n : Fin 256, (decide ((nameG n.val).1.data.toList = [108, 115, 104, 46, 107])) = decide ((n.val : Int) = 100) := by decide +kernel
theorem nameG_rsh : ∀ n : Fin 256, (decide ((nameG n.val).1.data.toList = [114, 115, 104, 46, 107])) = decide ((n.val : Int) = 116) := by decide +kernel
theorem nameG_none : ∀ n : Fin 256, (decide ((nameG n.val).1.data.toList = [])) = decide (formF n.val < 0) := by decide +kernel
theorem formF_big {c : Int} (h : 256 ≤ c) : formF c = -1 := by
  unfold formF
  rw [if_pos (.inr h)]
  unfold singleF
  repeat rw [if_neg (by omega)]
theorem recAt_size : ∀ n : Fin 16, (recAt n.val).size ≤ 3 := by decide +kernel
theorem ret_sn {s t : ByteArray} {a b : Int} (h : s = t) (k : a = b) : Ending.returned (.tuple #[.string s, .int .i64 a]) = Ending.returned (.tuple #[.string t, .int .i64 b]) := by rw [h, k]
set_option maxRecDepth 100000 in
set_option maxHeartbeats 8000000 in
theorem c_named (c : Int) (h0 : 0 ≤ c) (h1 : c < 256) (w : World) : Calls Tryz.prog 210 #[.int .u16 c] w fun e w' => e = .returned (.tuple #[.string (nameG c).1, .int .i64 (nameG c).2]) ∧ Below w.heap.size w w' := by
  by_cases ht : c = 21 ∨ c = 37 ∨ c = 53 ∨ c = 69 ∨ c = 29 ∨ c = 45 ∨ c = 61 ∨ c = 77
  · have hn16 : (c / 16).toNat < 16 := by omega
    have hs := fun w => c_sided02 (c / 16).toNat hn16 c h0 (by omega) w
    rcases ht with rfl | rfl | rfl | rfl | rfl | rfl | rfl | rfl
    all_goals
      have hs' : ∀ w, Calls Tryz.prog 231 _ w _ := hs
      clear hs
      go_enter Tryz.func210, Tryz.ntmps210
      go_wp2_with (first | (go_at_call 231; refine (hs' _).mono ?_; rintro e w' ⟨rfl, rfl⟩))
      go_ret2
      exact ⟨rfl, below_al (Below.refl _ _) _⟩
  · obtain ⟨n, hn⟩ := Int.eq_ofNat_of_zero_le (show 0 ≤ c / 16 by omega)
    have hn16 : n < 16 := by omega
    have hs := fun w => c_sided02 n hn16 c h0 hn w
    have hm16 : 0 ≤ c % 16 := by omega
    have hsz := recAt_size ⟨n, hn16⟩
    simp only at hsz
    have hov : ¬ 9223372036854775807 < (recAt n).size + 2 := by omega
    have ht5 : c % 16 = 5 → ¬ (1 ≤ n ∧ n ≤ 4) := fun h h' => ht (by omega)
    have ht13 : c % 16 = 13 → ¬ (1 ≤ n ∧ n ≤ 4) := fun h h' => ht (by omega)
    have HN : Hid (nameG c = if c = 32 then (⟨#[108, 100, 46, 97, 98, 115]⟩, 2) else if c = 128 then (⟨#[108, 100, 46, 108, 101, 110]⟩, 0) else if c = 129 then (⟨#[108, 100, 120, 46, 108, 101, 110]⟩, 0) else if c = 22 then (⟨#[114, 101, 116, 46, 97]⟩, 0)
  else if c = 132 then (⟨#[110, 101, 103]⟩, 0) else if c = 7 then (⟨#[116, 97, 120]⟩, 0) else if c = 135 then (⟨#[116, 120, 97]⟩, 0) else if c = 6 then (⟨#[114, 101, 116, 46, 107]⟩, 1) else if c = 0 then (⟨#[108, 100, 46, 105, 109, 109]⟩, 1)
  else if c = 1 then (⟨#[108, 100, 120, 46, 105, 109, 109]⟩, 1) else if c = 96 then (⟨#[108, 100, 46, 109, 101, 109]⟩, 3) else if c = 97 then (⟨#[108, 100, 120, 46, 109, 101, 109]⟩, 3) else if c = 2 then (⟨#[115, 116]⟩, 3) else if c = 3 then (⟨#[115, 116, 120]⟩, 3)
  else if c = 5 then (⟨#[106, 97]⟩, 4) else if c % 16 = 4 ∧ (recAt n).toList.isEmpty = false then (dotK (recAt n), 1) else if c % 16 = 12 ∧ (recAt n).toList.isEmpty = false then (dotX (recAt n), 0) else (⟨#[]⟩, -1)) := by
      show nameG c = _
      unfold nameG
      rw [hn]
      simp only [Int.ofNat_eq_natCast, Int.toNat_natCast, ByteArray.toList_eq]
      have e1 : ∀ l : List UInt8, (l ≠ []) ↔ l.isEmpty = false := fun l => by cases l <;> simp
      simp only [e1]
      have e5 : ¬ (c % 16 = 5 ∧ 1 ≤ (n : Int) ∧ (n : Int) ≤ 4) := fun h => ht5 h.1 (by omega)
      have e13 : ¬ (c % 16 = 13 ∧ 1 ≤ (n : Int) ∧ (n : Int) ≤ 4) := fun h => ht13 h.1 (by omega)
      rw [if_neg e5, if_neg e13]
    generalize nameG c = r at *
    generalize recAt n = s at *
    clear ht
    go_enter Tryz.func210, Tryz.ntmps210
    go_wp2_with (first | (go_at_call 231; refine (hs _).mono ?_; rintro e w' ⟨rfl, rfl⟩))
    all_goals
      go_ret2
      refine ⟨ret_sn ?_ ?_, by first | exact Below.refl _ _ | exact below_al (Below.refl _ _) _⟩
    all_goals
      rw [HN.out]
      clear HN hs
    all_goals first | (simp_all [dotK, dotX]; done) | grind [dotK, dotX]
end Go.Proofs.YtbojjjiggppnaaaGreat
