/- Plain facts on tokens: where they stand, that they are in their ranges; the list of a text's tokens. -/
import Derived.Test.YtljiogkfabfkmaaGreatDoorScanM
import Derived.Test.YtljiogkfabfkmaaGreatDoorOwn
open Go Go.RowKit
namespace Pal

/-- a token that stands at a place of a text, in its ranges -/
structure TokFine (s : ByteArray) (k : Nat) (t : Tok) : Prop where
  pos : t.pos = k
  text : ∃ e, k < e ∧ e ≤ s.size ∧ t.text = s.extract k e
  kind : 1 ≤ t.kind ∧ t.kind ≤ 8
  lk : 0 ≤ t.lk ∧ t.lk ≤ 255
  ln : -9223372036854775808 ≤ t.ln ∧ t.ln ≤ 9223372036854775807
  lb : 0 ≤ t.lb ∧ t.lb ≤ 18446744073709551615
  lt : t.lt.size ≤ s.size + 300

def NumFine (num : ByteArray → Nat → Tok × Int) (s : ByteArray) : Prop :=
  ∀ k, k < s.size → digitB (bt s k) = true → ((num s k).2 = 0 → TokFine s k (num s k).1) ∧ ((num s k).2 ≠ 0 → (num s k) = (zeroTok, 144))

theorem noText_size : noText.size = 0 := rfl
theorem quotedA_size (s : ByteArray) (k : Nat) (acc : ByteArray) (h : acc.size ≤ k) : (quotedA s k acc).1.size ≤ s.size := by
  fun_induction quotedA s k acc
  · rename_i k acc h1 h2 ih
    exact ih (by rw [ByteArray.size_append]; simp; omega)
  · rename_i k acc _ _ _; exact Nat.le_trans h (by omega)
  · rename_i k acc h1 h2 h3 ih
    exact ih (by rw [ByteArray.size_append]; have : (ByteArray.mk #[39]).size = 1 := rfl; omega)
  · simp [noText_size]
theorem quotedM_size (s : ByteArray) (i : Nat) : (quotedM s i).1.size ≤ s.size := quotedA_size s (i + 1) noText (by simp [noText_size])

theorem extract_size_le (s : ByteArray) (a b : Nat) : (s.extract a b).size ≤ s.size := by simp; omega

theorem symbolM_size (s : ByteArray) (i : Nat) : (symbolM s i).1.size ≤ s.size := by
  have := quotedM_size s i
  have h := extract_size_le s
  unfold symbolM
  repeat' split
  all_goals first | exact this | exact h _ _ | simp [noText_size]

theorem fine_bare {s : ByteArray} {k e : Nat} {kd : Int} (hk : k < e) (he : e ≤ s.size) (h : 1 ≤ kd ∧ kd ≤ 8) : TokFine s k (bareTok kd (s.extract k e) k) :=
  ⟨rfl, ⟨e, hk, he, rfl⟩, h, by simp [bareTok], by simp [bareTok], by simp [bareTok], by simp [bareTok, noText_size]⟩

theorem namedM_fine (s : ByteArray) (k : Nat) (hk : k < s.size) (hl : letterB (bt s k) = true) : (namedM s k).2 = 0 → TokFine s k (namedM s k).1 := by
  have h1 := runE_ge innerB s (k + 1)
  have h2 := runE_le innerB s k (by omega)
  have h3 : runE innerB s k = runE innerB s (k + 1) := runE_step hk (by simp [innerB, hl])
  unfold namedM
  split
  · simp
  · split
    · rename_i h
      have := colonB_lt h
      exact fun _ => fine_bare (by omega) (by omega) (by omega)
    · exact fun _ => fine_bare (by omega) (by omega) (by omega)

theorem hashM_fine (s : ByteArray) (k : Nat) (_hk : k < s.size) : (hashM s k).2 = 0 → TokFine s k (hashM s k).1 := by
  unfold hashM
  split
  · rename_i h
    have : k + 1 < s.size := by
      by_cases h' : k + 1 < s.size
      · exact h'
      · rw [bt_ge h'] at h; omega
    exact fun _ => fine_bare (by omega) (by omega) (by omega)
  · split
    · split
      · rename_i h
        have := symbolM_le s (k + 1) (by omega) h
        exact fun _ => ⟨rfl, ⟨_, by omega, this.2, rfl⟩, by simp, by simp, by simp, by simp, by have := symbolM_size s (k + 1); simp; omega⟩
      · rename_i h
        exact fun h' => absurd h' h
    · simp

theorem markM_fine (s : ByteArray) (k : Nat) (hk : k < s.size) : (markM s k).2 = 0 → TokFine s k (markM s k).1 := by
  unfold markM
  split
  · split
    · rename_i h
      have : k + 1 < s.size := by
        by_cases h' : k + 1 < s.size
        · exact h'
        · rw [bt_ge h'] at h; omega
      exact fun _ => fine_bare (by omega) (by omega) (by omega)
    · exact fun _ => fine_bare (by omega) (by omega) (by omega)
  · simp

theorem oneM_fine (num : ByteArray → Nat → Tok × Int) (s : ByteArray) (hnum : NumFine num s) (k : Nat) (hk : k < s.size) : (oneM num s k).2 = 0 → TokFine s k (oneM num s k).1 := by
  unfold oneM
  split
  · rename_i h; exact namedM_fine s k hk h
  · split
    · rename_i h; exact (hnum k hk h).1
    · split
      · rename_i h
        have h1 := signEnd_gt s k hk (by simpa using h)
        have h2 := signEnd_le s k hk
        exact fun _ => fine_bare h1 h2 (by omega)
      · split
        · split
          · simp
          · rename_i h
            have := quotedM_le s k
            have h5 := quotedM_size s k
            exact fun _ => ⟨rfl, ⟨_, by omega, by omega, rfl⟩, by simp, by simp, by simp, by simp, by simp; omega⟩
        · split
          · split
            · have := bt_range s (k + 1)
              exact fun _ => ⟨rfl, ⟨_, by omega, by omega, rfl⟩, by simp, by simp, by simp; omega, by simp, by simp [noText_size]⟩
            · simp
          · split
            · exact hashM_fine s k hk
            · exact markM_fine s k hk

theorem overE_ge (s : ByteArray) (i : Nat) : i ≤ (overE s i).1 := by
  fun_induction overE s i
  · omega
  · exact Nat.le_refl _
  · rename_i i _ _ _ _ _
    have := runE_ge restB s (i + 1); omega
  · exact Nat.le_refl _
  · exact Nat.le_refl _
theorem overE_le (s : ByteArray) (i : Nat) (h : i ≤ s.size) : (overE s i).1 ≤ s.size := by
  fun_induction overE s i
  · rename_i ih; exact ih (by omega)
  · exact h
  · rename_i ih; exact ih (by omega)
  · exact h
  · exact h

/-- what the first token from a place on is -/
theorem firstM_fine (num : ByteArray → Nat → Tok × Int) (s : ByteArray) (hnum : NumFine num s) (i : Nat) (hi : i ≤ s.size) :
    ((firstM num s i).2.1 = 0 → ((firstM num s i).1 = bareTok 0 noText s.size ∧ (overE s i).1 = s.size) ∨ (i ≤ (overE s i).1 ∧ TokFine s (overE s i).1 (firstM num s i).1)) ∧
    ((firstM num s i).2.2 ≤ s.size) := by
  have h1 := overE_ge s i
  have h2 := overE_le s i hi
  unfold firstM
  split
  · simp; omega
  · split
    · rename_i h; simp only [h]; simp
    · rename_i h
      have h3 := oneM_fine num s hnum (overE s i).1 (by omega)
      split
      · rename_i h4
        exact ⟨fun _ => .inr ⟨h1, h3 h4⟩, by simp⟩
      · rename_i h4
        exact ⟨fun h5 => absurd h5 h4, h2⟩

/-- a text's tokens from a place on, up to the first that is none; what is wrong with that, and where -/
def beginF (num : ByteArray → Nat → Tok × Int) (s : ByteArray) : Nat → Nat → List Tok × Int × Nat
  | 0, _ => ([], 0, 0)
  | n + 1, i =>
    if (firstM num s i).2.1 ≠ 0 then ([], (firstM num s i).2.1, (firstM num s i).2.2)
    else if (firstM num s i).1.kind = 0 then ([(firstM num s i).1], 0, 0)
    else ((firstM num s i).1 :: (beginF num s n ((firstM num s i).1.pos + (firstM num s i).1.text.size)).1, (beginF num s n ((firstM num s i).1.pos + (firstM num s i).1.text.size)).2)
def beginM (num : ByteArray → Nat → Tok × Int) (s : ByteArray) : List Tok × Int × Nat := beginF num s (s.size + 1) 0

/-- a token's data -/
def Tok.enc (t : Tok) : List D := [.val (.int .u8 t.kind), .val (.string t.text), .val (.int .i64 t.pos), .val (.int .u8 t.lk), .val (.int .i64 t.ln), .val (.int .u64 t.lb), .val (.string t.lt), .row 43 5 []]
def toks (l : List Tok) : D := .row 45 8 (l.map Tok.enc)

/-- a token whose cells may lie in memory -/
structure TokOk (B : Nat) (t : Tok) : Prop where
  kind : 0 ≤ t.kind ∧ t.kind ≤ 8
  text : t.text.size ≤ B
  pos : t.pos ≤ B
  lk : 0 ≤ t.lk ∧ t.lk ≤ 255
  ln : -9223372036854775808 ≤ t.ln ∧ t.ln ≤ 9223372036854775807
  lb : 0 ≤ t.lb ∧ t.lb ≤ 18446744073709551615
  lt : t.lt.size ≤ B

theorem TokFine.ok {s : ByteArray} {k B : Nat} {t : Tok} (h : TokFine s k t) (hB : s.size + 300 ≤ B) : TokOk B t := by
  obtain ⟨e, h1, h2, h3⟩ := h.text
  exact ⟨by have := h.kind; omega, by rw [h3]; have := extract_size_le s k e; omega, by rw [h.pos]; omega, h.lk, h.ln, h.lb, by have := h.lt; omega⟩

theorem end_ok (s : ByteArray) (B : Nat) (hB : s.size + 300 ≤ B) : TokOk B (bareTok 0 noText s.size) :=
  ⟨by simp [bareTok], by simp [bareTok, noText_size], by simp [bareTok]; omega, by simp [bareTok], by simp [bareTok], by simp [bareTok], by simp [bareTok, noText_size]⟩

theorem tok_own {B : Nat} {w : World} {t : Tok} (h : TokOk B t) (hB : B ≤ 140737488355328) (S : Nat → Prop) : OwnL B w t.enc t.cells S := by
  have g : ∀ v, wfV B v → Own B w (.val v) v (fun _ => False) := fun v hv => .val v _ hv
  have hn : ∀ b, (fun _ => False : Nat → Prop) b → S b ∧ ¬ (fun _ => False : Nat → Prop) b := fun _ h => h.elim
  have hn' : ∀ b, (fun _ => False : Nat → Prop) b → (fun _ => False : Nat → Prop) b ∧ ¬ (fun _ => False : Nat → Prop) b := fun _ h => h.elim
  have h1 := h.kind; have h2 := h.pos
  refine ⟨_, _, _, (fun _ => False), rfl, g _ ⟨h1.1, Int.le_trans h1.2 (by decide)⟩, ?_, hn, fun _ h => h.elim⟩
  refine ⟨_, _, _, (fun _ => False), rfl, g _ h.text, ?_, hn', fun _ h => h.elim⟩
  refine ⟨_, _, _, (fun _ => False), rfl, g _ ⟨Int.le_trans (by decide) (Int.natCast_nonneg _), Int.le_trans (Int.ofNat_le.2 (Nat.le_trans h2 hB)) (by decide)⟩, ?_, hn', fun _ h => h.elim⟩
  refine ⟨_, _, _, (fun _ => False), rfl, g _ h.lk, ?_, hn', fun _ h => h.elim⟩
  refine ⟨_, _, _, (fun _ => False), rfl, g _ h.ln, ?_, hn', fun _ h => h.elim⟩
  refine ⟨_, _, _, (fun _ => False), rfl, g _ h.lb, ?_, hn', fun _ h => h.elim⟩
  refine ⟨_, _, _, (fun _ => False), rfl, g _ h.lt, ?_, hn', fun _ h => h.elim⟩
  exact ⟨_, _, _, (fun _ => False), rfl, Own.nil _ _ _ _ _, rfl, hn', fun _ h => h.elim⟩

theorem beginF_err {num : ByteArray → Nat → Tok × Int} {s : ByteArray} {n i : Nat} (h : (firstM num s i).2.1 ≠ 0) : beginF num s (n + 1) i = ([], (firstM num s i).2.1, (firstM num s i).2.2) := by
  rw [beginF, if_pos h]
theorem beginF_end {num : ByteArray → Nat → Tok × Int} {s : ByteArray} {n i : Nat} (h : (firstM num s i).2.1 = 0) (h2 : (firstM num s i).1.kind = 0) : beginF num s (n + 1) i = ([(firstM num s i).1], 0, 0) := by
  rw [beginF, if_neg (by simp [h]), if_pos h2]
theorem beginF_on {num : ByteArray → Nat → Tok × Int} {s : ByteArray} {n i : Nat} (h : (firstM num s i).2.1 = 0) (h2 : (firstM num s i).1.kind ≠ 0) : beginF num s (n + 1) i =
    ((firstM num s i).1 :: (beginF num s n ((firstM num s i).1.pos + (firstM num s i).1.text.size)).1, (beginF num s n ((firstM num s i).1.pos + (firstM num s i).1.text.size)).2) := by
  rw [beginF, if_neg (by simp [h]), if_neg h2]

end Pal
