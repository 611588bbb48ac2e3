/- Bytes as a string. -/
import Derived.Test.YtiepnnjodmkolaaG1
import Derived.Laws.BytesString
import Derived.Laws.Strings
import Derived.WalkKit
namespace Go.Proofs.Ytiepnnjodmkolaa
open Go.RowKit
set_option linter.unusedVariables false
set_option linter.unusedSimpArgs false

def strOf (xs : List Int) : ByteArray := xs.foldl (fun r n => r.push (UInt8.ofNat n.toNat)) ByteArray.empty
theorem strOf_go (xs : List Int) (s : ByteArray) : (xs.foldl (fun r n => r.push (UInt8.ofNat n.toNat)) s).data.toList = s.data.toList ++ xs.map (fun n => UInt8.ofNat n.toNat) := by
  induction xs generalizing s with
  | nil => simp
  | cons x xs ih => simp only [List.foldl_cons, ih, List.map_cons]; simp [ByteArray.push]
theorem byte_inj {x y : Int} (hx : 0 ≤ x ∧ x < 256) (hy : 0 ≤ y ∧ y < 256) (h : UInt8.ofNat x.toNat = UInt8.ofNat y.toNat) : x = y := by
  have := congrArg UInt8.toNat h
  simp only [UInt8.toNat_ofNat'] at this
  omega
theorem map_inj {xs ys : List Int} (hx : ∀ x ∈ xs, Kd.rng .u8 x) (hy : ∀ y ∈ ys, Kd.rng .u8 y) (h : xs.map (fun n => UInt8.ofNat n.toNat) = ys.map (fun n => UInt8.ofNat n.toNat)) : xs = ys := by
  induction xs generalizing ys with
  | nil => cases ys with
    | nil => rfl
    | cons y ys => simp at h
  | cons x xs ih => cases ys with
    | nil => simp at h
    | cons y ys =>
      simp only [List.map_cons, List.cons.injEq] at h
      rw [byte_inj (hx x (by simp)) (hy y (by simp)) h.1, ih (fun z hz => hx z (by simp [hz])) (fun z hz => hy z (by simp [hz])) h.2]
theorem strOf_inj {xs ys : List Int} (hx : ∀ x ∈ xs, Kd.rng .u8 x) (hy : ∀ y ∈ ys, Kd.rng .u8 y) (h : strOf xs = strOf ys) : xs = ys := by
  have h1 := strOf_go xs ByteArray.empty
  have h2 := strOf_go ys ByteArray.empty
  have e : (strOf xs).data.toList = (strOf ys).data.toList := by rw [h]
  unfold strOf at e
  rw [h1, h2] at e
  exact map_inj hx hy (List.append_cancel_left e)
theorem strOf_injL {xs ys : List Int} (hx : ∀ x ∈ xs, Kd.rng .u8 x) (hy : ∀ y ∈ ys, Kd.rng .u8 y) (h : (strOf xs).toList = (strOf ys).toList) : xs = ys := by
  rw [ByteArray.toList_eq, ByteArray.toList_eq] at h
  have h1 := strOf_go xs ByteArray.empty
  have h2 := strOf_go ys ByteArray.empty
  unfold strOf at h
  rw [h1, h2] at h
  exact map_inj hx hy (List.append_cancel_left h)
theorem rows_rng {w : World} {ok : Nat → Prop} {A : Option Addr} {xs : List Int} (h : (Kd.int .u8).Row w ok A xs) : ∀ b ∈ xs, Kd.rng .u8 b := by
  intro b hb
  obtain ⟨i, hi, rfl⟩ := List.mem_iff_getElem.1 hb
  obtain ⟨_, _, _, h, _⟩ := Kd.int_at h hi
  exact h
theorem run_str {P : Program} {w : World} {base : Nat} {ok : Nat → Prop} {v : Value} {xs : List Int} {src dst e : TypeId} (hs : P.underlying src = some (.slice e)) (he : P.underlying e = some (.int .u8)) (hd : P.underlying dst = some .string)
    (hO : (Kd.int .u8).Own e w base ok v xs) (hne : 0 < xs.length) : (convert src dst v).run P w = .ok (.string (strOf xs)) w := by
  obtain ⟨_, _, rfl, -, -⟩ := hO.form
  obtain ⟨A, c, e1, -, -, r⟩ := hO.K
  simp only [List.cons.injEq, Value.slice.injEq, and_true] at e1
  obtain ⟨rfl, -, rfl⟩ := e1
  obtain ⟨ad, rfl, _⟩ := Kd.int_at r hne
  rw [run_convert_bytes_string w src dst e _ _ _ hs he hd]
  refine run_bytesToString w ad _ _ xs ?_
  have := run_loadCells_list (P := P) w ad (xs.map (Value.int .u8)) (fun j v hv => by
    have hj : j < xs.length := by have := (List.getElem?_eq_some_iff.1 hv).1; simpa using this
    obtain ⟨ad', e2, _, _, h⟩ := Kd.int_at r hj
    cases e2
    rw [h]
    rw [← hv]
    simp [hj])
  simpa using this
end Go.Proofs.Ytiepnnjodmkolaa
