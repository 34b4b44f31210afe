/- Plain law: the token at a place, told in two ways. -/
import Derived.Test.YtljiogkfabfkmaaGreatDoorS19
import Derived.Test.YtljiogkfabfkmaaGreatDoorUnqLaw
open Go
namespace Pal.S

theorem symbolP_is (s : ByteArray) (k : Nat) : symbolP s k = hashM s k := by
  unfold symbolP hashM
  by_cases h1 : bt s (k + 1) = 40 ∨ bt s (k + 1) = 91
  · simp only [if_pos h1]
  simp only [if_neg h1]
  by_cases h2 : bt s (k + 1) = 39
  · have hlt := lt_of_bt h2 (by decide)
    have hc : k + 1 < s.size ∧ (letterB (bt s (k + 1)) = true ∨ binaryB (bt s (k + 1)) = true ∨ bt s (k + 1) = 124 ∨ bt s (k + 1) = 39) := ⟨hlt, .inr (.inr (.inr h2))⟩
    simp only [if_pos h2, if_pos hc, quotedP_is, symbolM]
    by_cases h3 : (quotedM s (k + 1)).2 = 0
    · simp only [if_pos h3]; rfl
    · simp only [if_neg h3]; rfl
  by_cases h3 : binaryB (bt s (k + 1)) = true ∨ bt s (k + 1) = 124
  · have hlt : k + 1 < s.size := by
      rcases h3 with h | h
      · refine lt_of_bt rfl (fun e => ?_)
        rw [e] at h; exact absurd h (by decide)
      · exact lt_of_bt h (by decide)
    have hc : k + 1 < s.size ∧ (letterB (bt s (k + 1)) = true ∨ binaryB (bt s (k + 1)) = true ∨ bt s (k + 1) = 124 ∨ bt s (k + 1) = 39) := ⟨hlt, by rcases h3 with h | h; exact .inr (.inl h); exact .inr (.inr (.inl h))⟩
    have h3' : k + 1 < s.size ∧ (binaryB (bt s (k + 1)) = true ∨ bt s (k + 1) = 124) := ⟨hlt, h3⟩
    simp only [if_neg h2, if_pos hc, if_pos h3', symbolM]; rfl
  have h3' : ¬ (k + 1 < s.size ∧ (binaryB (bt s (k + 1)) = true ∨ bt s (k + 1) = 124)) := fun h => h3 h.2
  by_cases h4 : letterB (bt s (k + 1)) = true
  · have hlt : k + 1 < s.size := by
      refine lt_of_bt rfl (fun e => ?_)
      rw [e] at h4; exact absurd h4 (by decide)
    have hc : k + 1 < s.size ∧ (letterB (bt s (k + 1)) = true ∨ binaryB (bt s (k + 1)) = true ∨ bt s (k + 1) = 124 ∨ bt s (k + 1) = 39) := ⟨hlt, .inl h4⟩
    simp only [if_neg h2, if_neg h3', if_pos h4, if_pos hc, symbolM, wordM]
    by_cases h5 : 40 < runE innerB s (k + 1) - (k + 1)
    · simp only [if_pos h5]; rfl
    by_cases h6 : colonB s (runE innerB s (k + 1)) = false
    · simp only [if_neg h5, if_pos h6]; rfl
    by_cases h7 : (keysE s (runE innerB s (k + 1) + 1)).2 = 0
    · simp only [if_neg h5, if_neg h6, if_pos h7]; rfl
    · simp only [if_neg h5, if_neg h6, if_neg h7]; rfl
  · have hc : ¬ (k + 1 < s.size ∧ (letterB (bt s (k + 1)) = true ∨ binaryB (bt s (k + 1)) = true ∨ bt s (k + 1) = 124 ∨ bt s (k + 1) = 39)) := by
      rintro ⟨_, h | h | h | h⟩
      · exact h4 h
      · exact h3 (.inl h)
      · exact h3 (.inr h)
      · exact h2 h
    simp only [if_neg h2, if_neg h3', if_neg h4, if_neg hc]

theorem tokenP_is (num : ByteArray → Nat → Tok × Int) (s : ByteArray) (k : Nat) : tokenP num s k = oneM num s k := by
  unfold tokenP oneM
  by_cases hl : letterB (bt s k) = true
  · have hnd : ¬ digitB (bt s k) = true := by simp [letterB] at hl; simp [digitB]; omega
    simp only [if_neg hnd, if_pos hl, wordO, namedM]
    by_cases h5 : 40 < runE innerB s k - k
    · simp only [if_pos h5]; rfl
    by_cases h6 : colonB s (runE innerB s k) = true
    · have h6' : ¬ colonB s (runE innerB s k) = false := by simp [h6]
      simp only [if_neg h5, if_neg h6', if_pos h6]; rfl
    · have h6' : colonB s (runE innerB s k) = false := by simpa using h6
      simp only [if_neg h5, if_pos h6', if_neg h6]; rfl
  by_cases hd : digitB (bt s k) = true
  · simp only [if_neg hl, if_pos hd]
  by_cases hb : binaryB (bt s k) = true ∨ bt s k = 124
  · have hb' : (binaryB (bt s k) || bt s k == 124) = true := by simpa using hb
    simp only [if_neg hl, if_neg hd, if_pos hb, if_pos hb']
  have hb' : ¬ (binaryB (bt s k) || bt s k == 124) = true := by simpa using hb
  by_cases h35 : bt s k = 35
  · have h39 : ¬ bt s k = 39 := by omega
    have h36 : ¬ bt s k = 36 := by omega
    simp only [if_neg hl, if_neg hd, if_neg hb, if_neg hb', if_pos h35, if_neg h36, if_neg h39, symbolP_is]
  by_cases h39 : bt s k = 39
  · simp only [if_neg hl, if_neg hd, if_neg hb, if_neg hb', if_neg h35, if_pos h39, quotedP_is]
  by_cases h36 : bt s k = 36
  · simp only [if_neg hl, if_neg hd, if_neg hb, if_neg hb', if_neg h35, if_neg h39, if_pos h36]
  by_cases h58 : bt s k = 58 ∧ bt s (k + 1) = 61
  · have hm : markB (bt s k) = true := by rw [h58.1]; decide
    simp only [if_neg hl, if_neg hd, if_neg hb, if_neg hb', if_neg h35, if_neg h39, if_neg h36, if_pos h58, markM, if_pos hm]
  by_cases hm : markB (bt s k) = true
  · simp only [if_neg hl, if_neg hd, if_neg hb, if_neg hb', if_neg h35, if_neg h39, if_neg h36, if_neg h58, markM, if_pos hm]
  · simp only [if_neg hl, if_neg hd, if_neg hb, if_neg hb', if_neg h35, if_neg h39, if_neg h36, if_neg h58, markM, if_neg hm]
end Pal.S
