/- laws of places gone on to; pieces are keywords. -/
import Derived.Test.YtljiogkfabfkmaaGreatDoorS4
open Go Go.RowKit
namespace Pal

theorem runE_all {p : Int → Bool} {s : ByteArray} {i : Nat} : ∀ k, i ≤ k → k < runE p s i → p (bt s k) = true := by
  fun_induction runE p s i with
  | case1 i h hp ih =>
    intro k h1 h2
    rcases Nat.eq_or_lt_of_le h1 with e | e
    · subst e; exact hp
    · exact ih k e h2
  | case2 i h hp => intro k h1 h2; omega
  | case3 i h => intro k h1 h2; omega
theorem runE_fails {p : Int → Bool} {s : ByteArray} {i : Nat} : runE p s i < s.size → p (bt s (runE p s i)) = false := by
  fun_induction runE p s i with
  | case1 i h hp ih => exact ih
  | case2 i h hp => intro _; simpa using hp
  | case3 i h => intro h'; exact absurd h' h
theorem runE_far {p : Int → Bool} {s : ByteArray} {i m : Nat} (hi : i ≤ m) (hm : m ≤ s.size) (h : ∀ k, i ≤ k → k < m → p (bt s k) = true) : m ≤ runE p s i := by
  fun_induction runE p s i with
  | case1 i hlt hp ih =>
    rcases Nat.eq_or_lt_of_le hi with e | e
    · have := runE_ge p s (i + 1); omega
    · exact ih e (fun k h1 h2 => h k (by omega) h2)
  | case2 i hlt hp =>
    rcases Nat.eq_or_lt_of_le hi with e | e
    · omega
    · exact absurd (h i (Nat.le_refl _) e) hp
  | case3 i hlt => omega
theorem runE_is {p : Int → Bool} {s : ByteArray} {i m : Nat} (hi : i ≤ m) (hm : m ≤ s.size) (h : ∀ k, i ≤ k → k < m → p (bt s k) = true) (hf : m < s.size → p (bt s m) = false) : runE p s i = m := by
  have h1 := runE_far hi hm h
  rcases Nat.eq_or_lt_of_le h1 with e | e
  · exact e.symm
  · have h2 := runE_all (p := p) (s := s) (i := i) m hi e
    have h3 : m < s.size := Nat.lt_of_lt_of_le e (runE_le p s i (by omega))
    rw [hf h3] at h2; cases h2

theorem bt_extract (s : ByteArray) {a b k : Nat} (hb : b ≤ s.size) (hk : a + k < b) : bt (s.extract a b) k = bt s (a + k) := by
  have h1 : k < (s.extract a b).size := by simp; omega
  rw [bt_of h1, bt_of (by omega), ByteArray.getElem_extract]
theorem bt_over (s : ByteArray) {a b k : Nat} (hk : ¬ a + k < b) : bt (s.extract a b) k = 0 := bt_ge (by simp; omega)

/-- a name cut out of a text -/
theorem nameB_extract (s : ByteArray) {a b : Nat} (hab : a ≤ b) (hb : b ≤ s.size) :
    nameB (s.extract a b) = (decide (a < b) && decide (b - a ≤ 40) && letterB (bt s a) && decide (b ≤ runE innerB s a)) := by
  have hsz : (s.extract a b).size = b - a := by simp; omega
  rcases Nat.eq_or_lt_of_le hab with e | e
  · subst e; simp [nameB]
  have h0 : bt (s.extract a b) 0 = bt s a := bt_extract s hb (by omega)
  unfold nameB
  rw [hsz, h0]
  have h1 : (runE innerB (s.extract a b) 0 == b - a) = decide (b ≤ runE innerB s a) := by
    rw [Bool.eq_iff_iff]
    simp only [beq_iff_eq, decide_eq_true_eq]
    constructor
    · intro h
      refine runE_far (m := b) hab hb fun k h1 h2 => ?_
      have := runE_all (p := innerB) (s := s.extract a b) (i := 0) (k - a) (Nat.zero_le _) (by omega)
      rwa [bt_extract s (k := k - a) hb (by omega), show a + (k - a) = k by omega] at this
    · intro h
      refine runE_is (Nat.zero_le _) (by omega) (fun k _ h2 => ?_) (fun h => absurd h (by omega))
      rw [bt_extract s hb (by omega)]
      exact runE_all (i := a) (a + k) (by omega) (by omega)
  rw [h1]
  have h2 : decide (0 < b - a) = decide (a < b) := by rw [decide_eq_decide]; omega
  rw [h2]

theorem inner_colon {c : Int} (h : innerB c = true) : decide (c ≠ 58) = true := by
  simp [innerB, letterB, digitB] at h
  simp; omega

theorem arityL_pieces (s : ByteArray) (i n : Nat) (hi : i ≤ s.size) : arityL (pieces s i) n = keywordsE s i n := by
  fun_induction pieces s i generalizing n with
  | case1 i hlt ih =>
    have hge := runE_ge (fun x => decide (x ≠ 58)) s i
    have hall := runE_all (p := fun x => decide (x ≠ 58)) (s := s) (i := i)
    have hfail := runE_fails (p := fun x => decide (x ≠ 58)) (s := s) (i := i) hlt
    obtain ⟨j, hj⟩ : ∃ j, j = runE (fun x => decide (x ≠ 58)) s i := ⟨_, rfl⟩
    rw [← hj] at hlt ih hge hall hfail ⊢
    have hc : bt s j = 58 := by simpa using hfail
    have hsz : (s.extract i (j + 1)).size = j + 1 - i := by simp; omega
    have hname : (s.extract i (j + 1)).extract 0 (j + 1 - i - 1) = s.extract i j := by
      rw [ByteArray.extract_extract]; congr 1; omega
    have hlast : bt (s.extract i (j + 1)) (j + 1 - i - 1) = 58 := by rw [bt_extract s (by omega) (by omega), show i + (j + 1 - i - 1) = j by omega, hc]
    have hr := runE_ge innerB s i
    have hrj : runE innerB s i ≤ j := by
      rcases Nat.lt_or_ge j (runE innerB s i) with h | h
      · have := inner_colon (runE_all (p := innerB) (s := s) (i := i) j hge h)
        simp [hc] at this
      · exact h
    rw [arityL, hsz, if_neg (by omega), hlast, hname, keywordsE, if_pos (show i < s.size by omega)]
    rcases Nat.eq_or_lt_of_le hrj with e | e
    · rw [e, hc]
      by_cases hnm : nameB (s.extract i j) = true
      · rw [if_pos ⟨rfl, hnm⟩, if_pos (by rw [hnm]; rfl)]
        exact ih (n + 1) (by omega)
      · rw [if_neg (fun h => hnm h.2), if_neg (by simp [hnm])]
    · have h1 : nameB (s.extract i j) = false := by
        rw [nameB_extract s hge (by omega), show decide (j ≤ runE innerB s i) = false by simp; omega]; simp
      have h2 : (bt s (runE innerB s i) == 58) = false := by
        have := hall (runE innerB s i) hr e
        simpa using this
      rw [if_neg (by rw [h1]; simp), if_neg (by rw [h2]; simp)]
  | case2 i hlt =>
    have hall := runE_all (p := fun x => decide (x ≠ 58)) (s := s) (i := i)
    have hle := runE_le (fun x => decide (x ≠ 58)) s i hi
    have hj : runE (fun x => decide (x ≠ 58)) s i = s.size := by omega
    rw [hj] at hall
    have hsz : (s.extract i s.size).size = s.size - i := by simp
    rw [arityL, hsz, keywordsE]
    by_cases h0 : i < s.size
    · rw [if_neg (by omega), if_pos h0, if_neg, if_neg]
      · intro h
        simp only [Bool.and_eq_true, beq_iff_eq] at h
        have hr := runE_ge innerB s i
        rcases Nat.lt_or_ge (runE innerB s i) s.size with h1 | h1
        · have := hall _ hr h1
          simp [h.2] at this
        · rw [bt_ge (by omega)] at h; simp at h
      · rintro ⟨h, _⟩
        rw [bt_extract s (Nat.le_refl _) (by omega)] at h
        have := hall (i + (s.size - i - 1)) (by omega) (by omega)
        simp [h] at this
    · rw [if_pos (by omega), if_neg h0]
end Pal
