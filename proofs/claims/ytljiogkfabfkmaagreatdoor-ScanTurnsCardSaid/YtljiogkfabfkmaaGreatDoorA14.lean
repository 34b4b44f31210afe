/- palaverlaw14.awake: what the calls give at the chapter's examples. -/
import Derived.Test.YtljiogkfabfkmaaGreatDoorS22
import Derived.Test.YtljiogkfabfkmaaGreatDoorS21
import Derived.Test.YtljiogkfabfkmaaGreatDoorS8
import Derived.Test.YtljiogkfabfkmaaGreatDoorNumLaw
open Go Go.RowKit Go.Proofs
namespace Pal.S

theorem toks_inv {B : Nat} {w : World} {l : List Tok} {u : Value} (h : Rd B w (toks l) u) :
    ∃ a cap, u = .slice a l.length cap ∧ l.length ≤ cap ∧ l.length ≤ B ∧ cap ≤ 9223372036854775807 ∧
      ∀ i, (hi : i < l.length) → ∃ ab ao va vc, a = some ⟨ab, ao, none⟩ ∧ ab < w.heap.size ∧
        ∀ j x, [.int .u8 l[i].kind, .string l[i].text, .int .i64 l[i].pos, .int .u8 l[i].lk, .int .i64 l[i].ln, .int .u64 l[i].lb, .string l[i].lt, .slice va 0 vc][j]? = some x → w.cell? ⟨ab, ao + i * 8 + j, none⟩ = some x := by
  obtain ⟨a, cap, rfl, h1, h2, h3, h4⟩ := Rd.row_inv h
  simp only [List.length_map] at h1 h2 h4 ⊢
  refine ⟨a, cap, rfl, h1, h2, h3, fun i hi => ?_⟩
  obtain ⟨ab, ao, cs, e1, e2, _, e4, e5⟩ := h4 i hi
  simp only [List.getElem_map, Tok.enc] at e4
  obtain ⟨u0, _, rfl, g0, u1, _, rfl, g1, u2, _, rfl, g2, u3, _, rfl, g3, u4, _, rfl, g4, u5, _, rfl, g5, u6, _, rfl, g6, u7, _, rfl, g7, rfl⟩ := e4
  obtain ⟨rfl, _⟩ := g0.val_inv
  obtain ⟨rfl, _⟩ := g1.val_inv
  obtain ⟨rfl, _⟩ := g2.val_inv
  obtain ⟨rfl, _⟩ := g3.val_inv
  obtain ⟨rfl, _⟩ := g4.val_inv
  obtain ⟨rfl, _⟩ := g5.val_inv
  obtain ⟨rfl, _⟩ := g6.val_inv
  obtain ⟨va, vc, rfl⟩ := g7.slice
  exact ⟨ab, ao, va, vc, e1, e2, e5⟩

/-- no number of a text has a point or an r -/
def Plainly (s : ByteArray) : Prop := ∀ k, k < s.size → digitB (bt s k) = true → bt s (runE digitB s k) ≠ 114 ∧ ¬ (bt s (runE digitB s k) = 46 ∧ digitB (bt s (runE digitB s k + 1)) = true)
theorem numP_ok (s : ByteArray) (hs : s.size ≤ 16384) (h : Plainly s) : NumOk numP s :=
  fun k w hk hd he => number_digits s k k rfl hs hk (h k hk hd).1 (h k hk hd).2 w he

theorem wholeU_fine (u : Nat) (m : Bool) (h : Lib.nDigits u ≤ 255) : (0 ≤ (wholeU u m).k ∧ (wholeU u m).k ≤ 255) ∧ (-9223372036854775808 ≤ (wholeU u m).n ∧ (wholeU u m).n ≤ 9223372036854775807) ∧ (wholeU u m).t.size ≤ 256 := by
  by_cases hc : if m then u ≤ 1152921504606846976 else u ≤ 1152921504606846975
  · rw [whole_small hc]
    cases m <;> simp at hc <;> simp [noText_size] <;> omega
  · rw [whole_large hc]
    refine ⟨by simp, by simp, ?_⟩
    have := decT_size u
    cases m
    · show (decT u).size ≤ 256; omega
    · show (⟨#[45]⟩ ++ decT u : ByteArray).size ≤ 256
      rw [ByteArray.size_append]
      have : (⟨#[45]⟩ : ByteArray).size = 1 := rfl
      omega

theorem numP_fine (s : ByteArray) : NumFine numP s := by
  intro k hk hd
  unfold numP
  have h1 : runE digitB s k = runE digitB s (k + 1) := runE_step hk hd
  have h2 := runE_ge digitB s (k + 1)
  have h3 := runE_le digitB s k (by omega)
  split
  · rename_i h
    refine ⟨fun _ => ?_, fun h => absurd rfl h⟩
    obtain ⟨u, m, h4, h5⟩ := int_whole _ h.1
    obtain ⟨g1, g2, g3⟩ := wholeU_fine u m h4
    rw [h5]
    exact ⟨rfl, ⟨_, by omega, h3, rfl⟩, by simp, g1, g2, by simp, by simp only; omega⟩
  · exact ⟨fun h => absurd h (by decide), fun _ => rfl⟩

abbrev T1 : ByteArray := ⟨#[97, 116, 58, 32, 105, 32, 112, 117, 116, 58, 32, 120, 43, 49, 46]⟩
abbrev T2 : ByteArray := ⟨#[97, 32, 34, 115, 111]⟩
abbrev T3 : ByteArray := ⟨#[39, 105, 116, 39, 39, 115, 39, 32, 35, 97, 116, 58, 112, 117, 116, 58]⟩

theorem plain1 : Plainly T1 := by unfold Plainly; decide +kernel
theorem plain2 : Plainly T2 := by unfold Plainly; decide +kernel
theorem plain3 : Plainly T3 := by unfold Plainly; decide +kernel

theorem one_is : (tokensM numP T1).2 = (0, 0) ∧ (tokensM numP T1).1.length = 8 ∧ ((tokensM numP T1).1.map fun t => t.kind)[0]? = some 2 ∧ ((tokensM numP T1).1.map fun t => t.ln)[5]? = some 1 ∧ ((tokensM numP T1).1.map fun t => t.pos)[7]? = some 15 := by decide +kernel
theorem two_is : (tokensM numP T2).2 = (142, 2) := by decide +kernel
theorem three_is : (nextM numP T3 7).1.lt = ⟨#[97, 116, 58, 112, 117, 116, 58]⟩ ∧ (nextM numP T3 7).2 = (16, 0) := by decide +kernel

theorem call_one (w : World) (he : Env w) : Calls Tryz.prog 12 #[.string T1] w fun e w' => ∃ ab ao c, e = .returned (.tuple #[.slice (some ⟨ab, ao, none⟩) 8 c, .int .i64 0, .int .i64 0]) ∧ 8 ≤ c ∧ c ≤ 9223372036854775807 ∧ ab < w'.heap.size ∧
    w'.cell? ⟨ab, ao, none⟩ = some (.int .u8 2) ∧ w'.cell? ⟨ab, ao + 44, none⟩ = some (.int .i64 1) ∧ w'.cell? ⟨ab, ao + 58, none⟩ = some (.int .i64 15) ∧ Below w.heap.size w w' := by
  refine (Tokens_any numP T1 (numP_ok T1 (by decide) plain1) (numP_fine T1) (by decide) 1000 (by decide) (by decide) w he).mono ?_
  rintro e w1 ⟨v, rfl, hown, hb⟩
  obtain ⟨e1, e2, e3, e4, e5⟩ := one_is
  obtain ⟨a, cap, rfl, h1, h2, h3, h4⟩ := toks_inv hown.rd
  generalize tokensM numP T1 = r at *
  obtain ⟨l, r1, r2⟩ := r
  simp only [Prod.mk.injEq] at e1
  obtain ⟨rfl, rfl⟩ := e1
  simp only at *
  obtain ⟨ab, ao, va, vc, rfl, g1, g2⟩ := h4 0 (by omega)
  obtain ⟨ab', ao', va', vc', q, _, g3⟩ := h4 5 (by omega)
  cases q
  obtain ⟨ab', ao', va2, vc2, q, _, g4⟩ := h4 7 (by omega)
  cases q
  rw [e2] at h1
  refine ⟨ab, ao, cap, by rw [e2]; rfl, h1, h3, g1, ?_, ?_, ?_, hb⟩
  · have := g2 0 _ rfl
    rw [List.getElem?_map, List.getElem?_eq_getElem (by omega : 0 < l.length)] at e3
    simp only [Option.map_some, Option.some.injEq] at e3
    rw [e3] at this
    simpa using this
  · have := g3 4 _ rfl
    rw [List.getElem?_map, List.getElem?_eq_getElem (by omega : 5 < l.length)] at e4
    simp only [Option.map_some, Option.some.injEq] at e4
    rw [e4] at this
    simpa using this
  · have := g4 2 _ rfl
    rw [List.getElem?_map, List.getElem?_eq_getElem (by omega : 7 < l.length)] at e5
    simp only [Option.map_some, Option.some.injEq] at e5
    rw [e5] at this
    simpa using this

theorem call_two (w : World) (he : Env w) : Calls Tryz.prog 12 #[.string T2] w fun e w' => ∃ v, e = .returned (.tuple #[v, .int .i64 142, .int .i64 2]) ∧ Below w.heap.size w w' := by
  refine (Tokens_any numP T2 (numP_ok T2 (by decide) plain2) (numP_fine T2) (by decide) 1000 (by decide) (by decide) w he).mono ?_
  rintro e w1 ⟨v, rfl, _, hb⟩
  refine ⟨v, ?_, hb⟩
  have := two_is
  generalize tokensM numP T2 = r at *
  obtain ⟨l, r1, r2⟩ := r
  simp only [Prod.mk.injEq] at this
  obtain ⟨rfl, rfl⟩ := this
  rfl

theorem call_three (w : World) (he : Env w) : Calls Tryz.prog 17 #[.string T3, .int .i64 7] w fun e w' => ∃ k t p lk ln lb, e = .returned (.tuple #[.agg #[.int .u8 k, .string t, .int .i64 p, .int .u8 lk, .int .i64 ln, .int .u64 lb, .string ⟨#[97, 116, 58, 112, 117, 116, 58]⟩, .slice none 0 0], .int .i64 16, .int .i64 0]) ∧ Below w.heap.size w w' := by
  refine (next_in numP T3 (numP_ok T3 (by decide) plain3) (numP_fine T3) 7 7 rfl (by decide) (by decide) w he).mono ?_
  rintro e w1 ⟨rfl, hb⟩
  have := three_is
  generalize nextM numP T3 7 = r at *
  obtain ⟨⟨kd, tx, ps, lk, ln, lb, lt⟩, r1, r2⟩ := r
  simp only [Prod.mk.injEq] at this
  obtain ⟨rfl, rfl, rfl⟩ := this
  exact ⟨_, _, _, _, _, _, rfl, hb⟩

abbrev T4 : ByteArray := ⟨#[49, 49, 53, 50, 57, 50, 49, 53, 48, 52, 54, 48, 54, 56, 52, 54, 57, 55, 54]⟩
theorem four_is : T4 = signT 1152921504606846976 false := by decide +kernel
theorem four_int : intM T4 = (⟨5, 0, T4⟩, 0) := by
  have h := int_sign 1152921504606846976 false (by decide +kernel)
  rw [whole_large (by decide), ← four_is] at h
  exact h
theorem four_turn : turnT T4 = ⟨4, -1152921504606846976, noText⟩ := by
  rw [four_is, turn_large, whole_small (by decide)]; rfl

theorem call_four (w : World) (he : Env w) : Calls Tryz.prog 26 #[.string T4] w fun e w' => e = .returned (.tuple #[.agg #[.int .u8 5, .int .i64 0, .int .u64 0, .string T4, .slice none 0 0], .int .i64 0]) ∧ Below w.heap.size w w' := by
  refine (Integer_any T4 (by decide) w he).mono ?_
  rintro e w1 ⟨rfl, hb⟩
  rw [four_int]
  exact ⟨rfl, hb⟩

theorem bare_pos (u : Nat) (m : Bool) : ∀ v, Lib.parseIntB 64 (bareS (signT u m)).data.toList = .ok v → 0 ≤ v := by
  intro v h
  rw [(sign_neg u m).2, parse_dec] at h
  split at h
  · injection h with h; omega
  · cases h

theorem call_five (w : World) (he : Env w) : Calls Tryz.prog 24 #[.agg #[.int .u8 5, .int .i64 0, .int .u64 0, .string T4, .slice none 0 0]] w fun e w' => e = .returned (.tuple #[.agg #[.int .u8 4, .int .i64 (-1152921504606846976), .int .u64 0, .string noText, .slice none 0 0], .bool true]) ∧ Below w.heap.size w w' := by
  refine (minus_large 0 0 T4 (.slice none 0 0) rfl four_int (by decide) (by rw [four_is]; exact bare_pos _ _) w he).mono ?_
  rintro e w1 ⟨rfl, hb⟩
  rw [four_turn]
  exact ⟨rfl, hb⟩
end Pal.S
