/- scan.symbol. -/
import Derived.Test.YtljiogkfabfkmaaGreatDoorS3
import Derived.Test.YtljiogkfabfkmaaGreatDoorS14
import Derived.Test.YtljiogkfabfkmaaGreatDoorS15
open Go Go.RowKit Go.Proofs
namespace Pal.S

def symTok (s : ByteArray) (k e : Nat) (t : ByteArray) : Tok × Int := (⟨6, s.extract k e, k, 9, 0, 0, t⟩, 0)
def symbolP (s : ByteArray) (k : Nat) : Tok × Int :=
  if bt s (k + 1) = 40 ∨ bt s (k + 1) = 91 then (bareTok 8 (s.extract k (k + 2)) k, 0)
  else if bt s (k + 1) = 39 then (if (quotedP s (k + 1)).2 = 0 then (zeroTok, 142) else symTok s k (quotedP s (k + 1)).2 (quotedP s (k + 1)).1)
  else if k + 1 < s.size ∧ (binaryB (bt s (k + 1)) = true ∨ bt s (k + 1) = 124) then symTok s k (signEnd s (k + 1)) (s.extract (k + 1) (signEnd s (k + 1)))
  else if letterB (bt s (k + 1)) then (if (wordM s (k + 1)).2.2 = 0 then symTok s k (wordM s (k + 1)).1 (s.extract (k + 1) (wordM s (k + 1)).1) else (zeroTok, (wordM s (k + 1)).2.2))
  else (zeroTok, 141)

theorem lt_of_bt {s : ByteArray} {k : Nat} {c : Int} (h : bt s k = c) (hc : c ≠ 0) : k < s.size := by
  rcases Nat.lt_or_ge k s.size with h1 | h1
  · exact h1
  · rw [bt_ge (by omega)] at h; exact absurd h.symm hc

set_option maxHeartbeats 2000000 in
theorem symbol_mark (s : ByteArray) (i : Int) (k : Nat) (hi : i = k) (hs : s.size ≤ 16384) (hk : k < s.size) (hc : bt s (k + 1) = 40 ∨ bt s (k + 1) = 91) (w : World) :
    Calls Tryz.prog 76 #[.string s, .int .i64 i] w fun e w' => e = .returned (tokV (symbolP s k)) ∧ Below w.heap.size w w' := by
  subst hi
  have hv : symbolP s k = (bareTok 8 (s.extract k (k + 2)) k, 0) := if_pos hc
  rw [hv]; clear hv
  have hlt : k + 1 < s.size := by rcases hc with h | h <;> exact lt_of_bt h (by decide)
  have hp := peek_any s _ (k + 1) (show (k : Int) + 1 = ((k + 1 : Nat) : Int) by omega)
  have HP := Lib.hid hp; clear hp
  rcases hc with h | h
  all_goals
    have b0 : (bt s (k + 1) == 40) = decide (bt s (k + 1) = 40) := rfl
    rw [h] at HP
    clear b0 h
    go_enter Tryz.func76, Tryz.ntmps76
    go_wp2_with (first | (go_at_call 64; refine (HP.out _).mono ?_; rintro e w' ⟨rfl, rfl⟩))
    refine bodyPost_ret (by simp [results, Tryz.results76, go_sem]; first | rfl | exact ⟨rfl, rfl⟩) rfl ⟨rfl, (by repeat (first | with_reducible exact Below.refl _ _ | (with_reducible refine Below.alloc ?_ ?_ _; rotate_left 1; (focus (first | omega | (simp; done) | (simp; omega)))) | (with_reducible refine Below.setCell ?_ ?_ _; rotate_left 1; (focus (first | omega | (simp; done) | (simp; omega)))) | with_reducible refine Below.drew ?_ | with_reducible refine below_drewN ?_ _))⟩

set_option maxHeartbeats 2000000 in
theorem symbol_sign (s : ByteArray) (i : Int) (k : Nat) (hi : i = k) (hs : s.size ≤ 16384) (hk : k + 1 < s.size) (hc : binaryB (bt s (k + 1)) = true ∨ bt s (k + 1) = 124) (w : World) :
    Calls Tryz.prog 76 #[.string s, .int .i64 i] w fun e w' => e = .returned (tokV (symbolP s k)) ∧ Below w.heap.size w w' := by
  subst hi
  have hr := bt_range s (k + 1)
  have h1 : bt s (k + 1) ≠ 40 ∧ bt s (k + 1) ≠ 91 ∧ bt s (k + 1) ≠ 39 := by
    rcases hc with h | h
    · simp [binaryB] at h; omega
    · omega
  have hv : symbolP s k = symTok s k (signEnd s (k + 1)) (s.extract (k + 1) (signEnd s (k + 1))) := by
    unfold symbolP
    rw [if_neg (by omega), if_neg (by omega), if_pos ⟨hk, hc⟩]
  rw [hv]; clear hv
  have hle := signEnd_le s (k + 1) hk
  have hgt := signEnd_gt s (k + 1) hk hc
  have hsg := sign_any s ((k : Int) + 1) (k + 1) (by omega) (by omega) hk
  have hp := peek_any s _ (k + 1) (show (k : Int) + 1 = ((k + 1 : Nat) : Int) by omega)
  generalize signEnd s (k + 1) = r at *
  have hb := binary_any (bt s (k + 1)) (hc := hr)
  have b1 : (bt s (k + 1) == 40) = false := by simp; omega
  have b2 : (bt s (k + 1) == 91) = false := by simp; omega
  have b3 : (bt s (k + 1) == 39) = false := by simp; omega
  have hcase : binaryB (bt s (k + 1)) = true ∨ (binaryB (bt s (k + 1)) = false ∧ (bt s (k + 1) == 124) = true) := by
    cases h : binaryB (bt s (k + 1))
    · exact .inr ⟨rfl, by rw [h] at hc; simpa using hc⟩
    · exact .inl rfl
  clear hc h1
  generalize bt s (k + 1) = c at *
  have HP := Lib.hid hp; have HSG := Lib.hid hsg; have HBI := Lib.hid hb; clear hp hsg hb
  rcases hcase with h | ⟨h, h'⟩
  all_goals
    rw [h] at HBI
    go_enter Tryz.func76, Tryz.ntmps76
    go_wp2_with (first | (go_at_call 64; refine (HP.out _).mono ?_; rintro e w' ⟨rfl, rfl⟩) | (go_at_call 40; refine (HBI.out _).mono ?_; rintro e w' ⟨rfl, rfl⟩) | (go_at_call 41; refine (HSG.out _).mono ?_; rintro e w1 ⟨rfl, hb1⟩; obtain ⟨hc, hf, hz⟩ := grow hb1; have HB := Lib.hid (show Below w.heap.size w w1 from Below.on (W := (w.alloc _).alloc _) (by repeat (first | with_reducible exact Below.refl _ _ | (with_reducible refine Below.alloc ?_ ?_ _; rotate_left 1; (focus (first | omega | (simp; done) | (simp; omega)))) | (with_reducible refine Below.setCell ?_ ?_ _; rotate_left 1; (focus (first | omega | (simp; done) | (simp; omega)))) | with_reducible refine Below.drew ?_ | with_reducible refine below_drewN ?_ _)) hb1 (by simp; omega)); have s0 := hz w.heap.size (by simp; omega); have s1 := hz (w.heap.size + 1) (by simp); clear hb1))
    have hq := fun o => hc w.heap.size o (by simp; omega)
    have hqf := fun o => hf w.heap.size o (by simp; omega)
    refine bodyPost_ret (by simp [results, Tryz.results76, go_sem, hq, hqf]; first | rfl | exact ⟨rfl, rfl⟩) rfl ⟨rfl, (by repeat (first | with_reducible exact Below.refl _ _ | with_reducible exact HB.out | (with_reducible refine Below.alloc ?_ ?_ _; rotate_left 1; (focus (first | omega | (simp; done) | (simp; omega)))) | (with_reducible refine Below.setCell ?_ ?_ _; rotate_left 1; (focus (first | omega | (simp; done) | (simp; omega)))) | with_reducible refine Below.drew ?_ | with_reducible refine below_drewN ?_ _))⟩

theorem keysE_end (s : ByteArray) (i : Nat) (hi : i ≤ s.size) : (keysE s i).2 = 0 → (keysE s i).1 ≤ s.size := by
  fun_induction keysE s i
  · simp
  · rename_i i _ h _ ih
    intro h0
    have hc : colonB s (runE innerB s i) = true := by simp at h; exact h.2
    exact ih (colonB_lt hc) h0
  · intro _; exact hi
  · intro _; exact hi

theorem wordM_fine (s : ByteArray) (k : Nat) (hk : k ≤ s.size) : (wordM s k).2.2 = 0 ∧ k ≤ (wordM s k).1 ∧ (wordM s k).1 ≤ s.size ∨ (wordM s k).2.2 = 143 := by
  have hge := runE_ge innerB s k
  have hle := runE_le innerB s k hk
  unfold wordM
  split
  · exact .inr rfl
  · split
    · exact .inl ⟨rfl, hge, hle⟩
    · rename_i _ hc
      have hc' : colonB s (runE innerB s k) = true := by simpa using hc
      split
      · rename_i h0
        exact .inl ⟨rfl, by have := keysE_ge s _ h0; simp only; omega, keysE_end s _ (colonB_lt hc') h0⟩
      · exact .inr rfl

set_option maxHeartbeats 2000000 in
theorem symbol_word (s : ByteArray) (i : Int) (k : Nat) (hi : i = k) (hs : s.size ≤ 16384) (hk : k < s.size) (hl : letterB (bt s (k + 1)) = true) (w : World) :
    Calls Tryz.prog 76 #[.string s, .int .i64 i] w fun e w' => e = .returned (tokV (symbolP s k)) ∧ Below w.heap.size w w' := by
  subst hi
  have hr := bt_range s (k + 1)
  have h1 : bt s (k + 1) ≠ 40 ∧ bt s (k + 1) ≠ 91 ∧ bt s (k + 1) ≠ 39 ∧ bt s (k + 1) ≠ 124 ∧ binaryB (bt s (k + 1)) = false ∧ bt s (k + 1) ≠ 0 := by
    simp [letterB] at hl
    refine ⟨by omega, by omega, by omega, by omega, ?_, by omega⟩
    simp [binaryB]; omega
  obtain ⟨g1, g2, g3, g4, g5, g6⟩ := h1
  have hlt : k + 1 < s.size := lt_of_bt rfl g6
  have hv : symbolP s k = if (wordM s (k + 1)).2.2 = 0 then symTok s k (wordM s (k + 1)).1 (s.extract (k + 1) (wordM s (k + 1)).1) else (zeroTok, (wordM s (k + 1)).2.2) := by
    unfold symbolP
    rw [if_neg (by omega), if_neg (by omega), if_neg (by rintro ⟨_, h | h⟩ <;> simp_all), if_pos hl]
  rw [hv]; clear hv
  have hwd := word_many s ((k : Int) + 1) (k + 1) (by omega) (by omega) (by omega)
  have hp := peek_any s _ (k + 1) (show (k : Int) + 1 = ((k + 1 : Nat) : Int) by omega)
  have hfine : (wordM s (k + 1)).2.2 = 0 ∧ k + 1 ≤ (wordM s (k + 1)).1 ∧ (wordM s (k + 1)).1 ≤ s.size ∨ (wordM s (k + 1)).2.2 = 143 := wordM_fine s (k + 1) (by omega)
  generalize wordM s (k + 1) = r at *
  obtain ⟨e1, e2, e3⟩ := r
  have hb := binary_any (bt s (k + 1)) (hc := hr)
  have hlet := letter_any (bt s (k + 1)) (hc := hr)
  rw [g5] at hb; rw [hl] at hlet
  have b1 : (bt s (k + 1) == 40) = false := by simpa using g1
  have b2 : (bt s (k + 1) == 91) = false := by simpa using g2
  have b3 : (bt s (k + 1) == 39) = false := by simpa using g3
  have b4 : (bt s (k + 1) == 124) = false := by simpa using g4
  clear g1 g2 g3 g4 g5 g6 hl
  generalize bt s (k + 1) = c at *
  unfold wordV at hwd
  have HP := Lib.hid hp; have HWD := Lib.hid hwd; have HBI := Lib.hid hb; have HLE := Lib.hid hlet; clear hp hwd hb hlet
  rcases hfine with ⟨h0, h1, h2⟩ | h0
  · dsimp only at h0 h1 h2 HWD ⊢
    subst h0
    rw [if_pos rfl]
    go_enter Tryz.func76, Tryz.ntmps76
    go_wp2_with (first | (go_at_call 64; refine (HP.out _).mono ?_; rintro e w' ⟨rfl, rfl⟩) | (go_at_call 40; refine (HBI.out _).mono ?_; rintro e w' ⟨rfl, rfl⟩) | (go_at_call 37; refine (HLE.out _).mono ?_; rintro e w' ⟨rfl, rfl⟩) | (go_at_call 75; refine (HWD.out _).mono ?_; rintro e w' ⟨rfl, rfl⟩))
    refine bodyPost_ret (by simp [results, Tryz.results76, go_sem]; first | rfl | exact ⟨rfl, rfl⟩) rfl ⟨rfl, (by repeat (first | with_reducible exact Below.refl _ _ | (with_reducible refine Below.alloc ?_ ?_ _; rotate_left 1; (focus (first | omega | (simp; done) | (simp; omega)))) | (with_reducible refine Below.setCell ?_ ?_ _; rotate_left 1; (focus (first | omega | (simp; done) | (simp; omega)))) | with_reducible refine Below.drew ?_ | with_reducible refine below_drewN ?_ _))⟩
  · dsimp only at h0 HWD ⊢
    subst h0
    rw [if_neg (by decide)]
    go_enter Tryz.func76, Tryz.ntmps76
    go_wp2_with (first | (go_at_call 64; refine (HP.out _).mono ?_; rintro e w' ⟨rfl, rfl⟩) | (go_at_call 40; refine (HBI.out _).mono ?_; rintro e w' ⟨rfl, rfl⟩) | (go_at_call 37; refine (HLE.out _).mono ?_; rintro e w' ⟨rfl, rfl⟩) | (go_at_call 75; refine (HWD.out _).mono ?_; rintro e w' ⟨rfl, rfl⟩))
    refine bodyPost_ret (by simp [results, Tryz.results76, go_sem]; first | rfl | exact ⟨rfl, rfl⟩) rfl ⟨rfl, (by repeat (first | with_reducible exact Below.refl _ _ | (with_reducible refine Below.alloc ?_ ?_ _; rotate_left 1; (focus (first | omega | (simp; done) | (simp; omega)))) | (with_reducible refine Below.setCell ?_ ?_ _; rotate_left 1; (focus (first | omega | (simp; done) | (simp; omega)))) | with_reducible refine Below.drew ?_ | with_reducible refine below_drewN ?_ _))⟩
end Pal.S
