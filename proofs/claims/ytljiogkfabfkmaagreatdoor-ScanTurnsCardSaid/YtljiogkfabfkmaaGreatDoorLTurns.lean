/- palaverlaw14.ScanTurns: the walk. -/
import Derived.Test.YtljiogkfabfkmaaGreatDoorB14
import Derived.Test.YtljiogkfabfkmaaGreatDoorSame0
import Derived.Laws.Bits64
import Derived.Lib.ItoaLen
open Go Go.RowKit Go.Proofs
namespace Pal.S

/-- a literal's block of cells -/
abbrev litO (k n b : Int) (t : ByteArray) : Obj := .cells #[.int .u8 k, .int .i64 n, .int .u64 b, .string t, .slice none 0 0] 43

theorem block_step {w w' : World} {b : Nat} {o : Obj} (hb : Below w.heap.size w w') (h : w.heap[b]? = some o) : w'.heap[b]? = some o :=
  (hb.block b (lt_of_block h)).trans h
theorem block_alloc {w : World} {b : Nat} {o : Obj} (o' : Obj) (h : w.heap[b]? = some o) : (w.alloc o').heap[b]? = some o :=
  (alloc_old o' (lt_of_block h)).trans h

theorem flip_flip (b : Int) (h : 0 ≤ b ∧ b ≤ 18446744073709551615) : flipB (flipB b) = b ∧ flipB b ≠ b := by
  obtain ⟨n, rfl⟩ : ∃ n : Nat, b = n := ⟨b.toNat, by omega⟩
  have hn : n < 18446744073709551616 := by omega
  have h1 : flipB (n : Int) = ((n ^^^ 9223372036854775808 : Nat) : Int) := Go.bits_xor_u64_nat n 9223372036854775808 hn (by decide)
  have h2 : n ^^^ 9223372036854775808 < 18446744073709551616 := Nat.xor_lt_two_pow (n := 64) (by omega) (by decide)
  have h3 : flipB ((n ^^^ 9223372036854775808 : Nat) : Int) = (((n ^^^ 9223372036854775808) ^^^ 9223372036854775808 : Nat) : Int) := Go.bits_xor_u64_nat _ 9223372036854775808 h2 (by decide)
  rw [h1, h3, Nat.xor_assoc, Nat.xor_self, Nat.xor_zero]
  refine ⟨rfl, fun e => ?_⟩
  have e' : n ^^^ 9223372036854775808 = n := by omega
  have h4 : n ^^^ (n ^^^ 9223372036854775808) = n ^^^ n := by rw [e']
  rw [← Nat.xor_assoc, Nat.xor_self, Nat.zero_xor] at h4
  exact absurd h4 (by decide)

/-- Minus of an integer in its own form -/
theorem minus_whole (u : Nat) (m : Bool) (hu : Lib.nDigits u ≤ 255) (w : World) (he : Env w) :
    Calls Tryz.prog 24 #[(wholeU u m).v] w fun e w' => e = .returned (.tuple #[(wholeU u (!m)).v, .bool true]) ∧ Below w.heap.size w w' := by
  by_cases hc : if m then u ≤ 1152921504606846976 else u ≤ 1152921504606846975
  · rw [whole_small hc]
    have ht := turn_small u m
    have hn : -1152921504606846976 ≤ (if m then -(u : Int) else u) ∧ (if m then -(u : Int) else u) ≤ 1152921504606846975 := by
      cases m <;> simp at hc ⊢ <;> omega
    have hp : ∀ v, Lib.parseIntB 64 (bareS (numText (if m then -(u : Int) else u))).data.toList = .ok v → 0 ≤ v := by
      rw [num_sign]; exact bare_pos _ _
    have hz : (numText (if m then -(u : Int) else u)).size ≤ 100 := by
      have := Lib.itoa_length_le (if m then -(u : Int) else u) (by omega) (by omega)
      show (Lib.itoa _).toArray.size ≤ 100
      simp; omega
    rw [← ht]
    exact minus_small _ 0 noText (.slice none 0 0) rfl hn hz hp w he
  · rw [whole_large hc]
    have ht := turn_large u m
    have hi := int_sign u m hu
    rw [whole_large hc] at hi
    rw [← ht]
    refine minus_large 0 0 (signT u m) (.slice none 0 0) rfl hi ?_ (bare_pos _ _) w he
    have := decT_size u
    cases m
    · show (decT u).size ≤ _; omega
    · show (⟨#[45]⟩ ++ decT u : ByteArray).size ≤ _
      rw [ByteArray.size_append]
      have : (⟨#[45]⟩ : ByteArray).size = 1 := rfl
      omega
theorem turns_far (s : ByteArray) (b : Int) (hb0 : 0 ≤ b ∧ b ≤ 18446744073709551615) (w : World) (he : Env w) (hs : (s.size : Int) > 4194304) : Calls Tryz.prog 6 #[.string s, .int .u64 b] w fun e w' => e = .returned (.bool true) ∧ Below w.heap.size w w' := by
  have H1 := Lib.hid (awake_any w he)
  clear he
  go_enter Tryz.func6, Tryz.ntmps6
  go_wp2_with (go_at_call 11; refine H1.out.mono ?_; rintro e w1 ⟨rfl, hb1⟩)
  go_ret
  exact ⟨rfl, hb1⟩

set_option maxHeartbeats 1000000 in
theorem turns_none (s : ByteArray) (b : Int) (hb0 : 0 ≤ b ∧ b ≤ 18446744073709551615) (w : World) (he : Env w) (hs' : ¬ (s.size : Int) > 4194304) (h0 : ¬ (intM s).2 = 0) : Calls Tryz.prog 6 #[.string s, .int .u64 b] w fun e w' => e = .returned (.bool true) ∧ Below w.heap.size w w' := by
  have hs : s.size ≤ 140737488355328 := by omega
  have HF := Lib.hid (flip_flip b hb0)
  have H1 := Lib.hid (awake_any w he)
  have H2 := Lib.hid (fun w' (h : Below w.heap.size w w') => Integer_any s hs w' (he.below he.size h))
  have hv : intM s = (⟨0, 0, noText⟩, 144) := by
    unfold intM at h0 ⊢
    split
    · rfl
    · rename_i h; rw [if_neg h] at h0; exact absurd rfl h0
  rw [hv] at H2
  unfold IntL.v at H2
  dsimp only at H2
  clear he h0 hv
  go_enter Tryz.func6, Tryz.ntmps6
  go_wp2_with fail
  go_at_call 11
  refine H1.out.mono ?_
  rintro e w1 ⟨rfl, hb⟩
  have HB1 := Lib.hid hb; clear hb; have hs1 := HB1.out.size
  go_wp2_with fail
  go_at_call 24
  refine (minus_float 0 b noText (.slice none 0 0) rfl _).mono ?_
  rintro e w2 ⟨rfl, hb⟩
  have gf := block_step hb (alloc_at w1 _)
  have HB2 := Lib.hid (show Below w.heap.size w w2 from Below.on (W := w1.alloc _) (by repeat (first | with_reducible exact Below.refl _ _ | with_reducible exact HB1.out | (with_reducible refine Below.alloc ?_ ?_ _; rotate_left 1; (focus (first | omega | (simp; done) | (simp; omega)))) | (with_reducible refine Below.setCell ?_ ?_ _; rotate_left 1; (focus (first | omega | (simp; done) | (simp; omega)))) | with_reducible refine Below.drew ?_ | with_reducible refine below_drewN ?_ _)) hb (by have := HB1.out.size; simp; omega)); clear hb HB1; have hs2 := HB2.out.size
  go_wp2_with fail
  go_at_call 24
  refine (minus_float 0 (flipB b) noText (.slice none 0 0) rfl _).mono ?_
  rintro e w3 ⟨rfl, hb⟩
  replace gf := block_step hb (block_alloc _ gf)
  have gg := block_step hb (alloc_at w2 _)
  have HB3 := Lib.hid (show Below w.heap.size w w3 from Below.on (W := w2.alloc _) (by repeat (first | with_reducible exact Below.refl _ _ | with_reducible exact HB2.out | (with_reducible refine Below.alloc ?_ ?_ _; rotate_left 1; (focus (first | omega | (simp; done) | (simp; omega)))) | (with_reducible refine Below.setCell ?_ ?_ _; rotate_left 1; (focus (first | omega | (simp; done) | (simp; omega)))) | with_reducible refine Below.drew ?_ | with_reducible refine below_drewN ?_ _)) hb (by have := HB2.out.size; simp; omega)); clear hb HB2; have hs3 := HB3.out.size
  have cf := cell_at gf; have lf := lt_of_block gf
  rw [HF.out.1]
  go_wp2_with fail
  go_at_call 25
  refine (R00.same_eq 6 0 b noText none none 0 0 _).mono ?_
  rintro e w4 ⟨rfl, hb⟩
  clear cf lf
  replace gf := block_step hb (block_alloc _ gf)
  replace gg := block_step hb (block_alloc _ gg)
  have HB4 := Lib.hid (show Below w.heap.size w w4 from Below.on (W := w3.alloc _) (by repeat (first | with_reducible exact Below.refl _ _ | with_reducible exact HB3.out | (with_reducible refine Below.alloc ?_ ?_ _; rotate_left 1; (focus (first | omega | (simp; done) | (simp; omega)))) | (with_reducible refine Below.setCell ?_ ?_ _; rotate_left 1; (focus (first | omega | (simp; done) | (simp; omega)))) | with_reducible refine Below.drew ?_ | with_reducible refine below_drewN ?_ _)) hb (by have := HB3.out.size; simp; omega)); clear hb HB3; have hs4 := HB4.out.size
  have cf := cell_at gf; have cg := cell_at gg
  have hne : (flipB b == b) = false := by simpa using HF.out.2
  go_wp2_with fail
  go_at_call 26
  refine (H2.out _ HB4.out).mono ?_
  rintro e w5 ⟨rfl, hb⟩
  have HB5 := Lib.hid (Below.on HB4.out hb HB4.out.size); clear hb HB4 cf cg gf gg hne; have hs5 := HB5.out.size
  go_wp2
  go_ret
  exact ⟨rfl, (by repeat (first | with_reducible exact Below.refl _ _ | with_reducible exact HB5.out | (with_reducible refine Below.alloc ?_ ?_ _; rotate_left 1; (focus (first | omega | (simp; done) | (simp; omega)))) | (with_reducible refine Below.setCell ?_ ?_ _; rotate_left 1; (focus (first | omega | (simp; done) | (simp; omega)))) | with_reducible refine Below.drew ?_ | with_reducible refine below_drewN ?_ _))⟩

set_option maxHeartbeats 2000000 in
theorem turns_int (s : ByteArray) (b : Int) (hb0 : 0 ≤ b ∧ b ≤ 18446744073709551615) (w : World) (he : Env w) (hs' : ¬ (s.size : Int) > 4194304) (pk pn qk qn : Int) (pt qt : ByteArray) (z : Bool) (hi : intM s = (⟨pk, pn, pt⟩, 0))
    (hz : ((pk == 4) = true ∧ (pn == 0) = z) ∨ ((pk == 4) = false ∧ z = false))
    (hm : ∀ w', Env w' → Calls Tryz.prog 24 #[(IntL.mk pk pn pt).v] w' fun e w'' => e = .returned (.tuple #[(IntL.mk qk qn qt).v, .bool true]) ∧ Below w'.heap.size w' w'')
    (hm2 : ∀ w', Env w' → Calls Tryz.prog 24 #[(IntL.mk qk qn qt).v] w' fun e w'' => e = .returned (.tuple #[(IntL.mk pk pn pt).v, .bool true]) ∧ Below w'.heap.size w' w'')
    (hq : ∀ w', Calls Tryz.prog 25 #[(IntL.mk pk pn pt).v, (IntL.mk qk qn qt).v] w' fun e w'' => e = .returned (.bool z) ∧ Below w'.heap.size w' w'') : Calls Tryz.prog 6 #[.string s, .int .u64 b] w fun e w' => e = .returned (.bool true) ∧ Below w.heap.size w w' := by
  have hs : s.size ≤ 140737488355328 := by omega
  have HF := Lib.hid (flip_flip b hb0)
  have H1 := Lib.hid (awake_any w he)
  have H2 := Lib.hid (fun w' (h : Below w.heap.size w w') => Integer_any s hs w' (he.below he.size h))
  have H3 := Lib.hid (fun w' (h : Below w.heap.size w w') => hm w' (he.below he.size h))
  have H4 := Lib.hid (fun w' (h : Below w.heap.size w w') => hm2 w' (he.below he.size h))
  have H5 := Lib.hid hq
  rw [hi] at H2
  clear he hi hm hm2 hq
  unfold IntL.v at H2 H3 H4 H5
  dsimp only at H2 H3 H4 H5
  rcases hz with ⟨z1, z2⟩ | ⟨z1, z2⟩
  all_goals
    go_enter Tryz.func6, Tryz.ntmps6
    go_wp2_with fail
    go_at_call 11
    refine H1.out.mono ?_
    rintro e w1 ⟨rfl, hb⟩
    have HB1 := Lib.hid hb; clear hb; have hs1 := HB1.out.size
    go_wp2_with fail
    go_at_call 24
    refine (minus_float 0 b noText (.slice none 0 0) rfl _).mono ?_
    rintro e w2 ⟨rfl, hb⟩
    have gf := block_step hb (alloc_at w1 _)
    have HB2 := Lib.hid (show Below w.heap.size w w2 from Below.on (W := w1.alloc _) (by repeat (first | with_reducible exact Below.refl _ _ | with_reducible exact HB1.out | (with_reducible refine Below.alloc ?_ ?_ _; rotate_left 1; (focus (first | omega | (simp; done) | (simp; omega)))) | (with_reducible refine Below.setCell ?_ ?_ _; rotate_left 1; (focus (first | omega | (simp; done) | (simp; omega)))) | with_reducible refine Below.drew ?_ | with_reducible refine below_drewN ?_ _)) hb (by have := HB1.out.size; simp; omega)); clear hb HB1; have hs2 := HB2.out.size
    go_wp2_with fail
    go_at_call 24
    refine (minus_float 0 (flipB b) noText (.slice none 0 0) rfl _).mono ?_
    rintro e w3 ⟨rfl, hb⟩
    replace gf := block_step hb (block_alloc _ gf)
    have gg := block_step hb (alloc_at w2 _)
    have HB3 := Lib.hid (show Below w.heap.size w w3 from Below.on (W := w2.alloc _) (by repeat (first | with_reducible exact Below.refl _ _ | with_reducible exact HB2.out | (with_reducible refine Below.alloc ?_ ?_ _; rotate_left 1; (focus (first | omega | (simp; done) | (simp; omega)))) | (with_reducible refine Below.setCell ?_ ?_ _; rotate_left 1; (focus (first | omega | (simp; done) | (simp; omega)))) | with_reducible refine Below.drew ?_ | with_reducible refine below_drewN ?_ _)) hb (by have := HB2.out.size; simp; omega)); clear hb HB2; have hs3 := HB3.out.size
    have cf := cell_at gf; have lf := lt_of_block gf
    rw [HF.out.1]
    go_wp2_with fail
    go_at_call 25
    refine (R00.same_eq 6 0 b noText none none 0 0 _).mono ?_
    rintro e w4 ⟨rfl, hb⟩
    clear cf lf
    replace gf := block_step hb (block_alloc _ gf)
    replace gg := block_step hb (block_alloc _ gg)
    have HB4 := Lib.hid (show Below w.heap.size w w4 from Below.on (W := w3.alloc _) (by repeat (first | with_reducible exact Below.refl _ _ | with_reducible exact HB3.out | (with_reducible refine Below.alloc ?_ ?_ _; rotate_left 1; (focus (first | omega | (simp; done) | (simp; omega)))) | (with_reducible refine Below.setCell ?_ ?_ _; rotate_left 1; (focus (first | omega | (simp; done) | (simp; omega)))) | with_reducible refine Below.drew ?_ | with_reducible refine below_drewN ?_ _)) hb (by have := HB3.out.size; simp; omega)); clear hb HB3; have hs4 := HB4.out.size
    have cf := cell_at gf; have cg := cell_at gg
    have hne : (flipB b == b) = false := by simpa using HF.out.2
    go_wp2_with fail
    go_at_call 26
    refine (H2.out _ HB4.out).mono ?_
    rintro e w5 ⟨rfl, hb⟩
    have HB5 := Lib.hid (Below.on HB4.out hb HB4.out.size); clear hb HB4 cf cg gf gg hne; have hs5 := HB5.out.size
    go_wp2_with fail
    go_at_call 24
    refine (H3.out _ (by repeat (first | with_reducible exact Below.refl _ _ | with_reducible exact HB5.out | (with_reducible refine Below.alloc ?_ ?_ _; rotate_left 1; (focus (first | omega | (simp; done) | (simp; omega)))) | (with_reducible refine Below.setCell ?_ ?_ _; rotate_left 1; (focus (first | omega | (simp; done) | (simp; omega)))) | with_reducible refine Below.drew ?_ | with_reducible refine below_drewN ?_ _))).mono ?_
    rintro e w6 ⟨rfl, hb⟩
    have gn := block_step hb (alloc_at w5 _)
    have HB6 := Lib.hid (show Below w.heap.size w w6 from Below.on (W := w5.alloc _) (by repeat (first | with_reducible exact Below.refl _ _ | with_reducible exact HB5.out | (with_reducible refine Below.alloc ?_ ?_ _; rotate_left 1; (focus (first | omega | (simp; done) | (simp; omega)))) | (with_reducible refine Below.setCell ?_ ?_ _; rotate_left 1; (focus (first | omega | (simp; done) | (simp; omega)))) | with_reducible refine Below.drew ?_ | with_reducible refine below_drewN ?_ _)) hb (by have := HB5.out.size; simp; omega)); clear hb HB5; have hs6 := HB6.out.size
    go_wp2_with fail
    go_at_call 24
    refine (H4.out _ (by repeat (first | with_reducible exact Below.refl _ _ | with_reducible exact HB6.out | (with_reducible refine Below.alloc ?_ ?_ _; rotate_left 1; (focus (first | omega | (simp; done) | (simp; omega)))) | (with_reducible refine Below.setCell ?_ ?_ _; rotate_left 1; (focus (first | omega | (simp; done) | (simp; omega)))) | with_reducible refine Below.drew ?_ | with_reducible refine below_drewN ?_ _))).mono ?_
    rintro e w7 ⟨rfl, hb⟩
    replace gn := block_step hb (block_alloc _ gn)
    have gm := block_step hb (alloc_at w6 _)
    have HB7 := Lib.hid (show Below w.heap.size w w7 from Below.on (W := w6.alloc _) (by repeat (first | with_reducible exact Below.refl _ _ | with_reducible exact HB6.out | (with_reducible refine Below.alloc ?_ ?_ _; rotate_left 1; (focus (first | omega | (simp; done) | (simp; omega)))) | (with_reducible refine Below.setCell ?_ ?_ _; rotate_left 1; (focus (first | omega | (simp; done) | (simp; omega)))) | with_reducible refine Below.drew ?_ | with_reducible refine below_drewN ?_ _)) hb (by have := HB6.out.size; simp; omega)); clear hb HB6; have hs7 := HB7.out.size
    have cn := cell_at gn; have ln := lt_of_block gn
    go_wp2_with fail
    go_at_call 25
    refine (R00.same_eq pk pn 0 pt none none 0 0 _).mono ?_
    rintro e w8 ⟨rfl, hb⟩
    clear cn ln
    replace gn := block_step hb (block_alloc _ gn)
    replace gm := block_step hb (block_alloc _ gm)
    have HB8 := Lib.hid (show Below w.heap.size w w8 from Below.on (W := w7.alloc _) (by repeat (first | with_reducible exact Below.refl _ _ | with_reducible exact HB7.out | (with_reducible refine Below.alloc ?_ ?_ _; rotate_left 1; (focus (first | omega | (simp; done) | (simp; omega)))) | (with_reducible refine Below.setCell ?_ ?_ _; rotate_left 1; (focus (first | omega | (simp; done) | (simp; omega)))) | with_reducible refine Below.drew ?_ | with_reducible refine below_drewN ?_ _)) hb (by have := HB7.out.size; simp; omega)); clear hb HB7; have hs8 := HB8.out.size
    have cn := cell_at gn; have cm := cell_at gm
    go_wp2_with fail
    go_at_call 25
    refine (H5.out _).mono ?_
    rintro e w9 ⟨rfl, hb⟩
    have HB9 := Lib.hid (Below.on HB8.out hb HB8.out.size); clear hb
    go_wp2
    go_ret
    exact ⟨ret_bool (by simp), HB9.out⟩

theorem ScanTurns_any (s : ByteArray) (b : Int) (hb0 : 0 ≤ b ∧ b ≤ 18446744073709551615) (w : World) (he : Env w) : Calls Tryz.prog 6 #[.string s, .int .u64 b] w fun e w' => e = .returned (.bool true) ∧ Below w.heap.size w w' := by
  by_cases hs : (s.size : Int) > 4194304
  · exact turns_far s b hb0 w he hs
  by_cases h0 : (intM s).2 = 0
  · obtain ⟨u, m, hu, hi⟩ := int_whole s h0
    have h1 := fun w' he' => minus_whole u m hu w' he'
    have h2 := fun w' he' => minus_whole u (!m) hu w' he'
    rw [Bool.not_not] at h2
    have h3 := whole_same u m
    have h4 : ((wholeU u m).k = 4 ∧ (wholeU u m).n = 0 ↔ u = 0) ∧ ((wholeU u m).k = 4 ∨ (wholeU u m).k = 5) := by
      by_cases hc : if m then u ≤ 1152921504606846976 else u ≤ 1152921504606846975
      · rw [whole_small hc]; cases m <;> simp
      · rw [whole_large hc]; cases m <;> simp at hc ⊢ <;> omega
    generalize wholeU u m = p at *
    generalize wholeU u (!m) = q at *
    obtain ⟨pk, pn, pt⟩ := p
    obtain ⟨qk, qn, qt⟩ := q
    dsimp only at h4
    refine turns_int s b hb0 w he hs pk pn qk qn pt qt (decide (u = 0)) hi ?_ h1 h2 ?_
    · by_cases h5 : pk = 4
      · left
        refine ⟨by simpa using h5, ?_⟩
        rw [Bool.eq_iff_iff]
        simp only [beq_iff_eq, decide_eq_true_eq]
        exact ⟨fun h => h4.1.1 ⟨h5, h⟩, fun h => (h4.1.2 h).2⟩
      · right
        exact ⟨by simpa using h5, by simpa using fun h => h5 (h4.1.2 h).1⟩
    · intro w'
      by_cases hu0 : u = 0
      · obtain ⟨rfl, rfl, rfl⟩ : pk = qk ∧ pn = qn ∧ pt = qt := by simpa using h3.2 hu0
        rw [decide_eq_true hu0]
        exact R00.same_eq _ _ _ _ _ _ _ _ _
      · rw [decide_eq_false hu0]
        refine R00.same_ne _ _ _ _ _ _ _ _ _ _ _ _ (fun h => hu0 (h3.1 ?_)) _
        obtain ⟨rfl, rfl, _, rfl⟩ := h; rfl
  · exact turns_none s b hb0 w he hs h0
end Pal.S
