/- The walks of the reference's Bytes, Right, Word. -/
import Derived.Test.YtiepnnjodmkolaaJ1
import Derived.Test.YtiepnnjodmkolaaD8
namespace Go.Proofs.Ytiepnnjodmkolaa
open Go.RowKit Go.Shelf
set_option linter.unusedVariables false
set_option linter.unusedSimpArgs false

/-- A row of so many bytes, just made. -/
def Made8 (B n : Nat) (xs : List Int) (w : World) (e : Ending) (w' : World) : Prop := ∃ A c, e = .returned (.slice A n c) ∧ (n ≤ c ∧ c ≤ maxLen ∧ (Kd.int .u8).Row w' (fun q => B ≤ q) A xs) ∧ Below B w w'
theorem c_low8 (x : Int) (n : Nat) (w : World) (hx : 0 ≤ x ∧ x < 18446744073709551616) (hn : n ≤ 8) :
    Calls Try.prog 76 #[.int .u64 x, .int .i64 (n : Int)] w (Made8 w.heap.size n (leB x n) w) :=
  (c_low x n w hx hn).mono fun e w' ⟨v, he, hO, hB⟩ => by
    obtain ⟨A, c, rfl, -, -⟩ := hO.form
    exact ⟨A, c, by rw [he, leB_length], by have h := own_row hO; rw [leB_length] at h; exact h, hB⟩
theorem c_both8 (A B : Option Addr) (xs ys : List Int) (n m c d : Nat) (ok ok' : Nat → Prop) (w : World) (hA : (Kd.int .u8).Row w ok A xs) (hB : (Kd.int .u8).Row w ok' B ys) (hn : n = xs.length) (hm : m = ys.length) (hx : xs.length ≤ 10000) (hy : ys.length ≤ 10000) :
    Calls Try.prog 75 #[.slice A n c, .slice B m d] w (Made8 w.heap.size (n + m) (xs ++ ys) w) := by
  subst hn hm
  refine (c_both A B xs ys c d ok ok' w hA hB hx hy).mono fun e w' ⟨v, he, hO, hB⟩ => ?_
  obtain ⟨A, c, rfl, -, -⟩ := hO.form
  exact ⟨A, c, by rw [he, List.length_append], by have h := own_row hO; rw [List.length_append] at h; exact h, hB⟩
theorem leB_rng' (x : Int) (n : Nat) : ∀ b ∈ leB x n, 0 ≤ b ∧ b < 256 := by
  induction n generalizing x with
  | zero => intro b hb; cases hb
  | succ n ih =>
    intro b hb
    rw [leB] at hb
    rcases List.mem_cons.1 hb with rfl | hb
    · exact ⟨Int.emod_nonneg _ (by decide), Int.emod_lt_of_pos _ (by decide)⟩
    · exact ih _ b hb
theorem wordB_rng' (d : Data) (i : Nat) (hi : i < 16) : 0 ≤ wordB (encB d) i ∧ wordB (encB d) i < 4294967296 := by
  have h := leN_rng (part (encB d) (4 * i) 4) (fun b hb => by
    have hb := List.mem_of_mem_drop (List.mem_of_mem_take hb)
    unfold encB encK at hb
    simp only [List.mem_append, List.mem_flatMap] at hb
    rcases hb with ((h | h) | h) | ⟨a, _, h⟩
    all_goals exact leB_rng' _ _ b h)
  rw [part_length _ _ _ (by rw [encB, encK_length d 6 (by decide)]; omega)] at h
  exact h
set_option maxRecDepth 100000 in
set_option maxHeartbeats 4000000 in
theorem c_refBytes (d : Data) (w : World) (hd : d.wf) : Calls Try.prog 59 #[d.agg] w (Made8 w.heap.size 64 (encB d) w) := by
  have henc := fun k hk => encK_succ d k hk
  have hargs : ∀ (k : Nat) (hk : k < 6), 0 ≤ d.args[k]'(show k < d.args.length from hk) ∧ d.args[k]'(show k < d.args.length from hk) < 18446744073709551616 := by
    intro k hk
    obtain ⟨-, -, -, h3, h4, h5, h6, h7, h8⟩ := hd
    simp only [Kd.rng] at h3 h4 h5 h6 h7 h8
    match k, hk with
    | 0, _ => exact h3
    | 1, _ => exact h4
    | 2, _ => exact h5
    | 3, _ => exact h6
    | 4, _ => exact h7
    | 5, _ => exact h8
  have hlen := fun k hk => encK_length d k hk
  have he0 : encK d 0 = leB d.nr 4 ++ leB d.arch 4 ++ leB d.ip 8 := by unfold encK; simp
  obtain ⟨h0, h1, h2, -⟩ := hd
  simp only [Kd.rng] at h0 h1 h2
  have L0 : Hid (∀ w : World, Calls Try.prog 76 #[.int .u64 d.nr, .int .i64 4] w (Made8 w.heap.size 4 (leB d.nr 4) w)) := fun w => c_low8 d.nr 4 w ⟨h0.1, by omega⟩ (by decide)
  have L1 : Hid (∀ w : World, Calls Try.prog 76 #[.int .u64 d.arch, .int .i64 4] w (Made8 w.heap.size 4 (leB d.arch 4) w)) := fun w => c_low8 d.arch 4 w ⟨h1.1, by omega⟩ (by decide)
  have L2 : Hid (∀ w : World, Calls Try.prog 76 #[.int .u64 d.ip, .int .i64 8] w (Made8 w.heap.size 8 (leB d.ip 8) w)) := fun w => c_low8 d.ip 8 w h2 (by decide)
  obtain ⟨n, hn⟩ : ∃ n, w.heap.size = n := ⟨_, rfl⟩
  have hR : (w.alloc (.cells d.cells.toArray 47)).heap[n]? = some (.cells d.cells.toArray 47) := by rw [← hn]; exact blk_new _ _
  have hB : Below w.heap.size w (w.alloc (.cells d.cells.toArray 47)) := below_al (Below.refl _ _) _
  have hcell : ∀ (W : World), W.heap[n]? = some (.cells d.cells.toArray 47) → ∀ (k : Nat) (hk : k < 6), W.cell? ⟨n, 3 + k, none⟩ = some (.int .u64 (d.args[k]'(show k < d.args.length from hk))) := by
    intro W h k hk
    rw [blk_cell h]
    match k, hk with
    | 0, _ => rfl
    | 1, _ => rfl
    | 2, _ => rfl
    | 3, _ => rfl
    | 4, _ => rfl
    | 5, _ => rfl
  have HENC := Lib.hid henc
  have HARGS := Lib.hid hargs
  have HLEN := Lib.hid hlen
  have HE0 := Lib.hid he0
  have HCELL := Lib.hid hcell
  have HN := Lib.hid hn
  clear henc hargs hlen he0 hcell
  have hdc : d.cells.toArray = #[.int .u32 d.nr, .int .u32 d.arch, .int .u64 d.ip, .int .u64 d.args0, .int .u64 d.args1, .int .u64 d.args2, .int .u64 d.args3, .int .u64 d.args4, .int .u64 d.args5] := rfl
  unfold Data.agg
  rw [hdc] at hR hB
  have HDC := Lib.hid hdc
  clear hdc
  go_enter Try.func59, Try.ntmps59
  go_wp2_with fail
  generalize (w.alloc (.cells #[.int .u32 d.nr, .int .u32 d.arch, .int .u64 d.ip, .int .u64 d.args0, .int .u64 d.args1, .int .u64 d.args2, .int .u64 d.args3, .int .u64 d.args4, .int .u64 d.args5] 47)) = W1 at *
  have c0 : W1.cell? ⟨n, 0, none⟩ = some (.int .u32 d.nr) := blk_cell hR 0
  have c1 : W1.cell? ⟨n, 1, none⟩ = some (.int .u32 d.arch) := blk_cell hR 1
  have HR := Lib.hid hR
  have HB := Lib.hid hB
  clear hR hB hn
  have hw0 : IntKind.u64.wrap d.nr = d.nr := IntWalk.u64_in _ ⟨h0.1, by omega⟩
  have hw1 : IntKind.u64.wrap d.arch = d.arch := IntWalk.u64_in _ ⟨h1.1, by omega⟩
  have hsz1 := HB.out.size
  rw [HN.out] at hsz1
  go_region_held3 (fun w' => w'.cell? ⟨n, 0, none⟩ = some (.int .u32 d.nr) ∧ w'.cell? ⟨n, 1, none⟩ = some (.int .u32 d.arch))
    (first | exact ⟨c0, c1⟩ | exact ⟨p0, p1⟩ | exact ⟨q0, q1⟩ | exact ⟨r0, r1⟩)
    (first
    | (go_at_call 76; (with_reducible refine (L0.out _).mono ?_); rintro e w2 ⟨A2, k2, rfl, ⟨hl2, hm2, hr2⟩, hb2'⟩; have hb2 : Below W1.heap.size W1 w2 := undrew hb2'; have p0 := cell_bel hb2 c0; have p1 := cell_bel hb2 c1)
    | (go_at_call 76; (with_reducible refine (L1.out _).mono ?_); rintro e w3 ⟨A3, k3, rfl, ⟨hl3, hm3, hr3⟩, hb3'⟩; have hb3 : Below W1.heap.size W1 w3 := below_tr hb2 hb3'; have q0 := cell_bel hb3 c0; have q1 := cell_bel hb3 c1)
    | (go_at_call 75; (with_reducible refine (c_both8 A2 A3 (leB d.nr 4) (leB d.arch 4) 4 4 k2 k3 _ _ _ (hr2.bel hb3') hr3 (leB_length _ _).symm (leB_length _ _).symm (by rw [leB_length]; decide) (by rw [leB_length]; decide)).mono ?_); rintro e w4 ⟨A4, k4, rfl, ⟨hl4, hm4, hr4⟩, hb4'⟩; have hb4 : Below W1.heap.size W1 w4 := below_tr hb3 hb4'; have r0 := cell_bel hb4 c0; have r1 := cell_bel hb4 c1))
  rename_i hHeld
  clear hHeld p0 p1 q0 q1 r0 r1 c0 c1 hr2 hr3 hb2' hb3' hb2 hb3 hb4' hw0 hw1
  have HB4 := Lib.hid hb4
  have HR4 := Lib.hid hr4
  clear hb4 hr4
  have c2 : w4.cell? ⟨n, 2, none⟩ = some (.int .u64 d.ip) := blk_cell (blk_bel HB4.out HR.out) 2
  go_wp2_with fail
  refine (L2.out w4).mono ?_
  rintro e w5 ⟨A5, k5, rfl, ⟨hl5, hm5, hr5⟩, hb5'⟩
  have hr45 := HR4.out.bel hb5'
  have HB5 := Lib.hid (below_tr HB4.out hb5')
  clear c2
  go_wp2_with fail
  refine (c_both8 A4 A5 (leB d.nr 4 ++ leB d.arch 4) (leB d.ip 8) 8 8 k4 k5 _ _ _ hr45 hr5 (by rw [List.length_append, leB_length, leB_length]) (leB_length _ _).symm (by rw [List.length_append, leB_length, leB_length]; decide) (by rw [leB_length]; decide)).mono ?_
  rintro e w6 ⟨A6, k6, rfl, ⟨hl6, hm6, hr6⟩, hb6'⟩
  have HB6 := Lib.hid (below_tr HB5.out hb6')
  have HR6 : Hid ((Kd.int .u8).Row w6 (fun q => w.heap.size ≤ q) A6 (encK d 0)) := by
    have h := Kd.Row.mono (ok' := fun q => w.heap.size ≤ q) (fun q hq => by
      have h1 := HB5.out.size
      have h2 := HB.out.size
      omega) hr6
    rw [HE0.out]
    exact h
  clear hb5' hr45 hr5 hb6' hr6
  go_wp2_with fail
  go_loopw [3, 4] (fun v i wr => ∃ (k : Nat) (A : Option Addr) (c : Nat), k ≤ 6 ∧ i = .int .i64 k ∧ v = .slice A (16 + 8 * k) c ∧ 16 + 8 * k ≤ c ∧ Hid (c ≤ maxLen) ∧ Hid ((Kd.int .u8).Row wr (fun q => w.heap.size ≤ q) A (encK d k)) ∧ Hid (Below W1.heap.size W1 wr)) (fun _ i _ => 6 - (intOf i).toNat)
  case atStart => exact ⟨0, A6, k6, Nat.zero_le _, rfl, rfl, by omega, hm6, HR6.out, HB6.out⟩
  case round =>
    obtain ⟨k, A, c, hk, rfl, rfl, hlc, hmc, hr, hb⟩ := hrel
    by_cases hlt : k < 6
    · have hc := HCELL.out wr (by rw [HDC.out]; exact blk_bel hb.out HR.out) k hlt
      have ha := HARGS.out k hlt
      have hs : encK d (k + 1) = encK d k ++ leB (d.args[k]'(show k < d.args.length from hlt)) 8 := HENC.out k hlt
      have hl := HLEN.out k (by omega)
      obtain ⟨a, hae⟩ : ∃ a, d.args[k]'(show k < d.args.length from hlt) = a := ⟨_, rfl⟩
      rw [hae] at hc ha hs
      have HS := Lib.hid hs
      have HL := Lib.hid hl
      have LA : Hid (∀ w : World, Calls Try.prog 76 #[.int .u64 a, .int .i64 8] w (Made8 w.heap.size 8 (leB a 8) w)) := fun w => c_low8 a 8 w ha (by decide)
      have hk0 : (0 : Int) ≤ (k : Int) := by omega
      have hk6 : (k : Int) < 6 := by omega
      clear hs hl hae ha
      go_wp2_with fail
      refine (LA.out wr).mono ?_
      rintro e w7 ⟨A7, k7, rfl, ⟨hl7, hm7, hr7⟩, hb7'⟩
      have hrA := hr.out.bel hb7'
      have HB7 := Lib.hid (below_tr hb.out hb7')
      clear hc
      go_wp2_with fail
      refine (c_both8 A A7 (encK d k) (leB a 8) (16 + 8 * k) 8 c k7 _ _ _ hrA hr7 HL.out.symm (leB_length _ _).symm (by rw [HL.out]; omega) (by rw [leB_length]; decide)).mono ?_
      rintro e w8 ⟨A8, k8, rfl, ⟨hl8, hm8, hr8⟩, hb8'⟩
      have HB8 := Lib.hid (below_tr HB7.out hb8')
      have HR8 : Hid ((Kd.int .u8).Row w8 (fun q => w.heap.size ≤ q) A8 (encK d (k + 1))) := by
        have h := Kd.Row.mono (ok' := fun q => w.heap.size ≤ q) (fun q hq => by
          have h1 := HB7.out.size
          have h2 := HB.out.size
          omega) hr8
        rw [HS.out]
        exact h
      clear hr7 hb7' hrA hr8 hb8' hr hb
      go_wp2_with fail
      go_roundw
      case rel => exact ⟨k + 1, A8, k8, by omega, by go_num, by show Value.slice A8 (16 + 8 * k + 8) k8 = _; rw [show 16 + 8 * k + 8 = 16 + 8 * (k + 1) by omega], by omega, hm8, HR8.out, HB8.out⟩
      case measure => simp [intOf]; omega
    · obtain rfl : k = 6 := by omega
      go_wp2_with fail
      go_ret
      exact ⟨A, c, rfl, ⟨hlc, hmc.out, hr.out⟩, by have h := HB.out.trans (hb.out.mono HB.out.size); exact h⟩
theorem row_part {w : World} {ok : Nat → Prop} {ad : Addr} {xs : List Int} {kd : IntKind} (h : (Kd.int kd).Row w ok (some ad) xs) (f k : Nat) (hk : f + k ≤ xs.length) : (Kd.int kd).Row w ok (some (ad.add f)) (part xs f k) := by
  refine ⟨by have := h.1; rw [part_length xs f k hk]; omega, fun i x hx => ?_⟩
  have hi : i < k := by have := (List.getElem?_eq_some_iff.1 hx).1; rwa [part_length xs f k hk] at this
  have hx' : xs[f + i]? = some x := by
    unfold part at hx
    rw [List.getElem?_take, if_pos hi, List.getElem?_drop] at hx
    exact hx
  obtain ⟨ad', cs, e, hok, hK, hc⟩ := h.2 (f + i) x hx'
  cases e
  refine ⟨ad.add f, cs, rfl, by rw [Kd.add_block]; exact hok, hK, fun j u hu => ?_⟩
  have := hc j u hu
  have hsz : (Kd.int kd).sz = 1 := rfl
  rw [hsz] at this ⊢
  rw [Deep.add_add, show f + (i * 1 + j) = (f + i) * 1 + j by omega]
  exact this
set_option maxHeartbeats 400000 in
theorem c_right3 (i : Nat) (hi : i < 16) (w : World) : Calls Try.prog 57 #[.int .u32 (4 * (i : Int))] w fun e w' => e = .returned (.bool true) ∧ w = w' := by
  have h0 : (0 : Int) ≤ (i : Int) := by omega
  have h1 : (i : Int) < 16 := by omega
  have h2 : (4 * (i : Int)) % 4 = 0 := by omega
  go_enter Try.func57, Try.ntmps57
  go_wp2
  go_ret
  exact ⟨rfl, rfl⟩
set_option maxRecDepth 100000 in
set_option maxHeartbeats 4000000 in
theorem c_refWord (d : Data) (hd : d.wf) (i : Nat) (hi : i < 16) (w : World) : Calls Try.prog 38 #[d.agg, .int .u32 (4 * (i : Int))] w fun e w' => e = .returned (.tuple #[.int .u32 (wordB (encB d) i), .int .i64 0]) ∧ Below w.heap.size w w' := by
  have hby := fun w => c_refBytes d w hd
  have hlen : (encB d).length = 64 := by unfold encB; rw [encK_length d 6 (by decide)]
  have hwd : wordB (encB d) i = leN (part (encB d) (4 * i) 4) := rfl
  have hrng := wordB_rng' d i hi
  obtain ⟨nr, arch, ip, a0, a1, a2, a3, a4, a5⟩ := d
  unfold Data.agg at *
  simp only at *
  generalize encB ⟨nr, arch, ip, a0, a1, a2, a3, a4, a5⟩ = xs at *
  rw [hwd] at hrng ⊢
  clear hwd hd
  have hi0 : (0 : Int) ≤ (i : Int) := by omega
  have hi1 : (i : Int) < 16 := by omega
  have HLEN := Lib.hid hlen
  have HBY := Lib.hid hby
  obtain ⟨h0, h1⟩ := hrng
  have HNUM := Lib.hid (fun w A c ok (h : (Kd.int .u8).Row w ok A (part xs (4 * i) 4)) => c_num A (part xs (4 * i) 4) c ok w h (by rw [part_length xs (4 * i) 4 (by omega)]; decide))
  have HPL := Lib.hid (part_length xs (4 * i) 4 (by omega))
  generalize leN (part xs (4 * i) 4) = y at *
  clear hlen hby
  go_enter Try.func38, Try.ntmps38
  go_wp2_with fail
  refine (c_right3 i hi _).mono ?_
  rintro e w1 ⟨rfl, rfl⟩
  go_wp2_with fail
  refine (HBY.out _).mono ?_
  rintro e w2 ⟨A, c, rfl, ⟨hlc, hmc, hr⟩, hB⟩
  have hBw := (below_al (Below.refl w.heap.size w) (.cells #[.int .u32 nr, .int .u32 arch, .int .u64 ip, .int .u64 a0, .int .u64 a1, .int .u64 a2, .int .u64 a3, .int .u64 a4, .int .u64 a5] 47)).trans (hB.mono (by simp))
  obtain ⟨ad, rfl, -⟩ := Kd.int_at hr (i := 0) (by rw [HLEN.out]; decide)
  have hnum := HNUM.out w2 (some (ad.add (4 * i))) (c - 4 * i) _ (row_part hr (4 * i) 4 (by rw [HLEN.out]; omega))
  rw [HPL.out] at hnum
  have HNUM2 := Lib.hid hnum
  have HBW := Lib.hid hBw
  unfold maxLen at hmc
  clear hnum hBw hB hr
  go_wp2_with fail
  refine HNUM2.out.mono ?_
  rintro e w3 ⟨rfl, rfl⟩
  go_wp2_with fail
  go_ret2
  exact ⟨rfl, HBW.out⟩
end Go.Proofs.Ytiepnnjodmkolaa
