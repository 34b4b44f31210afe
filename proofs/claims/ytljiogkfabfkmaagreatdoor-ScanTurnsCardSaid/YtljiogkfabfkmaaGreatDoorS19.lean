/- scan.token. -/
import Derived.Test.YtljiogkfabfkmaaGreatDoorS18
import Derived.IntWalk
import Derived.BigRegion
open Go Go.RowKit Go.Proofs
namespace Pal.S

/-- what is asked of a number -/
def NumOk (num : ByteArray → Nat → Tok × Int) (s : ByteArray) : Prop :=
  ∀ (k : Nat) (w : World), k < s.size → digitB (bt s k) = true → Env w → Calls Tryz.prog 74 #[.string s, .int .i64 k] w fun e w' => e = .returned (tokV (num s k)) ∧ Below w.heap.size w w'

def tokenP (num : ByteArray → Nat → Tok × Int) (s : ByteArray) (k : Nat) : Tok × Int :=
  if digitB (bt s k) then num s k
  else if letterB (bt s k) then (if (wordO s k).2.2 = 0 then (bareTok (if (wordO s k).2.1 then 2 else 1) (s.extract k (wordO s k).1) k, 0) else (zeroTok, (wordO s k).2.2))
  else if binaryB (bt s k) = true ∨ bt s k = 124 then (bareTok 3 (s.extract k (signEnd s k)) k, 0)
  else if bt s k = 35 then symbolP s k
  else if bt s k = 39 then (if (quotedP s k).2 = 0 then (zeroTok, 142) else (⟨5, s.extract k (quotedP s k).2, k, 8, 0, 0, (quotedP s k).1⟩, 0))
  else if bt s k = 36 then (if k + 1 < s.size then (⟨7, s.extract k (k + 2), k, 7, bt s (k + 1), 0, noText⟩, 0) else (zeroTok, 142))
  else if bt s k = 58 ∧ bt s (k + 1) = 61 then (bareTok 8 (s.extract k (k + 2)) k, 0)
  else if markB (bt s k) then (bareTok 8 (s.extract k (k + 1)) k, 0) else (zeroTok, 141)

theorem wordO_fine (s : ByteArray) (k : Nat) (hk : k ≤ s.size) : (wordO s k).2.2 = 0 ∧ k ≤ (wordO s k).1 ∧ (wordO s k).1 ≤ s.size ∨ (wordO s k).2.2 = 143 := by
  have hge := runE_ge innerB s k
  have hle := runE_le innerB s k hk
  unfold wordO
  split
  · exact .inr rfl
  · split
    · exact .inl ⟨rfl, hge, hle⟩
    · rename_i _ hc
      have hc' : colonB s (runE innerB s k) = true := by simpa using hc
      have := colonB_lt hc'
      exact .inl ⟨rfl, by simp only; omega, by simp only; omega⟩


set_option maxHeartbeats 600000 in
theorem token_digit (num : ByteArray → Nat → Tok × Int) (s : ByteArray) (hnum : NumOk num s) (i : Int) (k : Nat) (hi : i = k) (hs : s.size ≤ 16384) (hk : k < s.size) (hd : digitB (bt s k) = true) (w : World) (he : Env w) : Calls Tryz.prog 56 #[.string s, .int .i64 i] w fun e w' => e = .returned (tokV (tokenP num s k)) ∧ Below w.heap.size w w' := by
  subst hi
  have hv : tokenP num s k = num s k := if_pos hd
  rw [hv]; clear hv
  have hr := bt_range s k
  have hbt := (bt_of hk).symm
  have hdg := digit_any (bt s k) (hc := hr)
  have hn := fun w' (h : Below w.heap.size w w') => hnum k w' hk hd (he.below he.size h)
  rw [hd] at hdg
  clear he hnum hd
  generalize num s k = r at *
  generalize bt s k = c at *
  obtain ⟨⟨kd, tx, ps, lk, ln, lb, lt⟩, er⟩ := r
  simp only [tokV, Tok.cells] at hn ⊢
  have HD := Lib.hid hdg; have HN := Lib.hid hn; clear hdg hn
  go_enter Tryz.func56, Tryz.ntmps56
  go_wp2_with (first | (go_at_call 53; refine (HD.out _).mono ?_; rintro e w' ⟨rfl, rfl⟩) | (go_at_call 74; refine (HN.out _ (by repeat (first | with_reducible exact Below.refl _ _ | (with_reducible refine Below.alloc ?_ ?_ _; rotate_left 1; (focus (first | omega | (simp; done) | (simp; omega)))) | (with_reducible refine Below.setCell ?_ ?_ _; rotate_left 1; (focus (first | omega | (simp; done) | (simp; omega)))) | with_reducible refine Below.drew ?_ | with_reducible refine below_drewN ?_ _))).mono ?_; rintro e w1 ⟨rfl, hb1⟩; obtain ⟨hc, hf, hz⟩ := grow hb1; have HB := Lib.hid (show Below w.heap.size w w1 from Below.on (W := (w.alloc _).alloc _) (by repeat (first | with_reducible exact Below.refl _ _ | (with_reducible refine Below.alloc ?_ ?_ _; rotate_left 1; (focus (first | omega | (simp; done) | (simp; omega)))) | (with_reducible refine Below.setCell ?_ ?_ _; rotate_left 1; (focus (first | omega | (simp; done) | (simp; omega)))) | with_reducible refine Below.drew ?_ | with_reducible refine below_drewN ?_ _)) hb1 (by simp; omega)); have s0 := hz w.heap.size (by simp; omega); have s1 := hz (w.heap.size + 1) (by simp); clear hb1))
  have hq := fun o => hc w.heap.size o (by simp; omega); have hqf := fun o => hf w.heap.size o (by simp; omega); refine bodyPost_ret (by simp [results, Tryz.results56, go_sem, hq, hqf, s0] <;> first | rfl | exact ⟨rfl, rfl⟩) rfl ⟨rfl, (by repeat (first | with_reducible exact Below.refl _ _ | with_reducible exact HB.out | (with_reducible refine Below.alloc ?_ ?_ _; rotate_left 1; (focus (first | omega | (simp; done) | (simp; omega)))) | (with_reducible refine Below.setCell ?_ ?_ _; rotate_left 1; (focus (first | omega | (simp; done) | (simp; omega)))) | with_reducible refine Below.drew ?_ | with_reducible refine below_drewN ?_ _))⟩

set_option maxHeartbeats 600000 in
theorem token_letter (num : ByteArray → Nat → Tok × Int) (s : ByteArray) (i : Int) (k : Nat) (hi : i = k) (hs : s.size ≤ 16384) (hk : k < s.size) (hl : letterB (bt s k) = true) (w : World) : Calls Tryz.prog 56 #[.string s, .int .i64 i] w fun e w' => e = .returned (tokV (tokenP num s k)) ∧ Below w.heap.size w w' := by
  subst hi
  have hr := bt_range s k
  have hr1 := bt_range s (k + 1)
  have hbt := (bt_of hk).symm
  have hdg := digit_any (bt s k) (hc := hr)
  have hlt := letter_any (bt s k) (hc := hr)
  have hbn := binary_any (bt s k) (hc := hr)
  have hpk := peek_any s _ (k + 1) (show (k : Int) + 1 = ((k + 1 : Nat) : Int) by omega)
  have hnd : digitB (bt s k) = false := by simp [letterB] at hl; simp [digitB]; omega
  have hv : tokenP num s k = if (wordO s k).2.2 = 0 then (bareTok (if (wordO s k).2.1 then 2 else 1) (s.extract k (wordO s k).1) k, 0) else (zeroTok, (wordO s k).2.2) := by
    unfold tokenP; rw [if_neg (by simp [hnd]), if_pos hl]
  rw [hv]; clear hv
  have hwd := word_one s k k rfl (by omega) (by omega)
  have hfine : (wordO s k).2.2 = 0 ∧ k ≤ (wordO s k).1 ∧ (wordO s k).1 ≤ s.size ∨ (wordO s k).2.2 = 143 := wordO_fine s k (by omega)
  generalize wordO s k = r at *
  rw [hnd] at hdg; rw [hl] at hlt
  clear hnd hl
  generalize bt s k = c at *
  obtain ⟨e1, e2, e3⟩ := r
  unfold wordV at hwd
  have HD := Lib.hid hdg; have HL := Lib.hid hlt; have HBN := Lib.hid hbn; have HP := Lib.hid hpk; clear hdg hlt hbn hpk
  have HW := Lib.hid hwd; clear hwd
  rcases hfine with ⟨h0, h1, h2⟩ | h0
  · dsimp only at h0 h1 h2 HW ⊢
    subst h0
    rw [if_pos rfl]
    cases e2
    all_goals
      go_enter Tryz.func56, Tryz.ntmps56
      go_wp2_with (first | (go_at_call 53; refine (HD.out _).mono ?_; rintro e w' ⟨rfl, rfl⟩) | (go_at_call 37; refine (HL.out _).mono ?_; rintro e w' ⟨rfl, rfl⟩) | (go_at_call 40; refine (HBN.out _).mono ?_; rintro e w' ⟨rfl, rfl⟩) | (go_at_call 64; refine (HP.out _).mono ?_; rintro e w' ⟨rfl, rfl⟩) | (go_at_call 75; refine (HW.out _).mono ?_; rintro e w' ⟨rfl, rfl⟩))
      refine bodyPost_ret (by simp [results, Tryz.results56, go_sem] <;> first | rfl | exact ⟨rfl, rfl⟩) rfl ⟨rfl, (by repeat (first | with_reducible exact Below.refl _ _ | (with_reducible refine Below.alloc ?_ ?_ _; rotate_left 1; (focus (first | omega | (simp; done) | (simp; omega)))) | (with_reducible refine Below.setCell ?_ ?_ _; rotate_left 1; (focus (first | omega | (simp; done) | (simp; omega)))) | with_reducible refine Below.drew ?_ | with_reducible refine below_drewN ?_ _))⟩
  · dsimp only at h0 HW ⊢
    subst h0
    rw [if_neg (by decide)]
    go_enter Tryz.func56, Tryz.ntmps56
    go_wp2_with (first | (go_at_call 53; refine (HD.out _).mono ?_; rintro e w' ⟨rfl, rfl⟩) | (go_at_call 37; refine (HL.out _).mono ?_; rintro e w' ⟨rfl, rfl⟩) | (go_at_call 40; refine (HBN.out _).mono ?_; rintro e w' ⟨rfl, rfl⟩) | (go_at_call 64; refine (HP.out _).mono ?_; rintro e w' ⟨rfl, rfl⟩) | (go_at_call 75; refine (HW.out _).mono ?_; rintro e w' ⟨rfl, rfl⟩))
    refine bodyPost_ret (by simp [results, Tryz.results56, go_sem] <;> first | rfl | exact ⟨rfl, rfl⟩) rfl ⟨rfl, (by repeat (first | with_reducible exact Below.refl _ _ | (with_reducible refine Below.alloc ?_ ?_ _; rotate_left 1; (focus (first | omega | (simp; done) | (simp; omega)))) | (with_reducible refine Below.setCell ?_ ?_ _; rotate_left 1; (focus (first | omega | (simp; done) | (simp; omega)))) | with_reducible refine Below.drew ?_ | with_reducible refine below_drewN ?_ _))⟩

set_option maxHeartbeats 600000 in
theorem token_sign (num : ByteArray → Nat → Tok × Int) (s : ByteArray) (i : Int) (k : Nat) (hi : i = k) (hs : s.size ≤ 16384) (hk : k < s.size) (hb : binaryB (bt s k) = true ∨ bt s k = 124) (w : World) : Calls Tryz.prog 56 #[.string s, .int .i64 i] w fun e w' => e = .returned (tokV (tokenP num s k)) ∧ Below w.heap.size w w' := by
  subst hi
  have hr := bt_range s k
  have hr1 := bt_range s (k + 1)
  have hbt := (bt_of hk).symm
  have hdg := digit_any (bt s k) (hc := hr)
  have hlt := letter_any (bt s k) (hc := hr)
  have hbn := binary_any (bt s k) (hc := hr)
  have hpk := peek_any s _ (k + 1) (show (k : Int) + 1 = ((k + 1 : Nat) : Int) by omega)
  have hnd : digitB (bt s k) = false := by rcases hb with h | h <;> simp [binaryB, digitB] at * <;> omega
  have hnl : letterB (bt s k) = false := by rcases hb with h | h <;> simp [binaryB, letterB] at * <;> omega
  have hv : tokenP num s k = (bareTok 3 (s.extract k (signEnd s k)) k, 0) := by
    unfold tokenP; rw [if_neg (by simp [hnd]), if_neg (by simp [hnl]), if_pos hb]
  rw [hv]; clear hv
  have hle := signEnd_le s k hk
  have hgt := signEnd_gt s k hk hb
  have hsg := sign_any s (k : Int) k rfl (by omega) hk
  generalize signEnd s k = r at *
  have hcase : binaryB (bt s k) = true ∨ (binaryB (bt s k) = false ∧ (bt s k == 124) = true) := by
    cases h : binaryB (bt s k)
    · exact .inr ⟨rfl, by rw [h] at hb; simpa using hb⟩
    · exact .inl rfl
  clear hb
  rw [hnd] at hdg; rw [hnl] at hlt
  clear hnd hnl
  generalize bt s k = c at *
  have HD := Lib.hid hdg; have HL := Lib.hid hlt; have HBN := Lib.hid hbn; have HP := Lib.hid hpk; clear hdg hlt hbn hpk
  have HSG := Lib.hid hsg; clear hsg
  rcases hcase with h | ⟨h, h'⟩
  all_goals
    rw [h] at HBN
    go_enter Tryz.func56, Tryz.ntmps56
    go_wp2_with (first | (go_at_call 53; refine (HD.out _).mono ?_; rintro e w' ⟨rfl, rfl⟩) | (go_at_call 37; refine (HL.out _).mono ?_; rintro e w' ⟨rfl, rfl⟩) | (go_at_call 40; refine (HBN.out _).mono ?_; rintro e w' ⟨rfl, rfl⟩) | (go_at_call 64; refine (HP.out _).mono ?_; rintro e w' ⟨rfl, rfl⟩) | (go_at_call 41; refine (HSG.out _).mono ?_; rintro e w1 ⟨rfl, hb1⟩; obtain ⟨hc, hf, hz⟩ := grow hb1; have HB := Lib.hid (show Below w.heap.size w w1 from Below.on (W := (w.alloc _).alloc _) (by repeat (first | with_reducible exact Below.refl _ _ | (with_reducible refine Below.alloc ?_ ?_ _; rotate_left 1; (focus (first | omega | (simp; done) | (simp; omega)))) | (with_reducible refine Below.setCell ?_ ?_ _; rotate_left 1; (focus (first | omega | (simp; done) | (simp; omega)))) | with_reducible refine Below.drew ?_ | with_reducible refine below_drewN ?_ _)) hb1 (by simp; omega)); have s0 := hz w.heap.size (by simp; omega); have s1 := hz (w.heap.size + 1) (by simp); clear hb1))
    have hq := fun o => hc w.heap.size o (by simp; omega); have hqf := fun o => hf w.heap.size o (by simp; omega); refine bodyPost_ret (by simp [results, Tryz.results56, go_sem, hq, hqf, s0] <;> first | rfl | exact ⟨rfl, rfl⟩) rfl ⟨rfl, (by repeat (first | with_reducible exact Below.refl _ _ | with_reducible exact HB.out | (with_reducible refine Below.alloc ?_ ?_ _; rotate_left 1; (focus (first | omega | (simp; done) | (simp; omega)))) | (with_reducible refine Below.setCell ?_ ?_ _; rotate_left 1; (focus (first | omega | (simp; done) | (simp; omega)))) | with_reducible refine Below.drew ?_ | with_reducible refine below_drewN ?_ _))⟩

set_option maxHeartbeats 600000 in
theorem token_hash (num : ByteArray → Nat → Tok × Int) (s : ByteArray) (i : Int) (k : Nat) (hi : i = k) (hs : s.size ≤ 16384) (hk : k < s.size) (hnd : digitB (bt s k) = false) (hnl : letterB (bt s k) = false) (hnb : binaryB (bt s k) = false) (hn4 : bt s k ≠ 124) (h35 : bt s k = 35) (w : World) (he : Env w) : Calls Tryz.prog 56 #[.string s, .int .i64 i] w fun e w' => e = .returned (tokV (tokenP num s k)) ∧ Below w.heap.size w w' := by
  subst hi
  have hr := bt_range s k
  have hr1 := bt_range s (k + 1)
  have hbt := (bt_of hk).symm
  have hdg := digit_any (bt s k) (hc := hr)
  have hlt := letter_any (bt s k) (hc := hr)
  have hbn := binary_any (bt s k) (hc := hr)
  have hpk := peek_any s _ (k + 1) (show (k : Int) + 1 = ((k + 1 : Nat) : Int) by omega)
  unfold tokenP
  rw [if_neg (by simp [hnd]), if_neg (by simp [hnl]), if_neg (by simp [hnb, hn4])]
  rw [if_pos h35]
  have hsy := fun w' (h : Below w.heap.size w w') => symbol_any s (k : Int) k rfl hs hk w' (he.below he.size h)
  have b35 : (bt s k == 35) = true := by simpa using h35
  rw [hnd] at hdg; rw [hnl] at hlt
  rw [hnb] at hbn
  have b124 : (bt s k == 124) = false := by simpa using hn4
  clear hnd hnl hnb hn4 h35 he
  generalize bt s k = c at *
  generalize symbolP s k = r at *
  obtain ⟨⟨kd, tx, ps, lk, ln, lb, lt⟩, er⟩ := r
  simp only [tokV, Tok.cells] at hsy ⊢
  have HD := Lib.hid hdg; have HL := Lib.hid hlt; have HBN := Lib.hid hbn; have HP := Lib.hid hpk; clear hdg hlt hbn hpk
  have HSY := Lib.hid hsy; clear hsy
  go_enter Tryz.func56, Tryz.ntmps56
  go_wp2_with (first | (go_at_call 53; refine (HD.out _).mono ?_; rintro e w' ⟨rfl, rfl⟩) | (go_at_call 37; refine (HL.out _).mono ?_; rintro e w' ⟨rfl, rfl⟩) | (go_at_call 40; refine (HBN.out _).mono ?_; rintro e w' ⟨rfl, rfl⟩) | (go_at_call 64; refine (HP.out _).mono ?_; rintro e w' ⟨rfl, rfl⟩) | (go_at_call 76; refine (HSY.out _ (by repeat (first | with_reducible exact Below.refl _ _ | (with_reducible refine Below.alloc ?_ ?_ _; rotate_left 1; (focus (first | omega | (simp; done) | (simp; omega)))) | (with_reducible refine Below.setCell ?_ ?_ _; rotate_left 1; (focus (first | omega | (simp; done) | (simp; omega)))) | with_reducible refine Below.drew ?_ | with_reducible refine below_drewN ?_ _))).mono ?_; rintro e w1 ⟨rfl, hb1⟩; obtain ⟨hc, hf, hz⟩ := grow hb1; have HB := Lib.hid (show Below w.heap.size w w1 from Below.on (W := (w.alloc _).alloc _) (by repeat (first | with_reducible exact Below.refl _ _ | (with_reducible refine Below.alloc ?_ ?_ _; rotate_left 1; (focus (first | omega | (simp; done) | (simp; omega)))) | (with_reducible refine Below.setCell ?_ ?_ _; rotate_left 1; (focus (first | omega | (simp; done) | (simp; omega)))) | with_reducible refine Below.drew ?_ | with_reducible refine below_drewN ?_ _)) hb1 (by simp; omega)); have s0 := hz w.heap.size (by simp; omega); have s1 := hz (w.heap.size + 1) (by simp); clear hb1))
  have hq := fun o => hc w.heap.size o (by simp; omega); have hqf := fun o => hf w.heap.size o (by simp; omega); refine bodyPost_ret (by simp [results, Tryz.results56, go_sem, hq, hqf, s0] <;> first | rfl | exact ⟨rfl, rfl⟩) rfl ⟨rfl, (by repeat (first | with_reducible exact Below.refl _ _ | with_reducible exact HB.out | (with_reducible refine Below.alloc ?_ ?_ _; rotate_left 1; (focus (first | omega | (simp; done) | (simp; omega)))) | (with_reducible refine Below.setCell ?_ ?_ _; rotate_left 1; (focus (first | omega | (simp; done) | (simp; omega)))) | with_reducible refine Below.drew ?_ | with_reducible refine below_drewN ?_ _))⟩

set_option maxHeartbeats 600000 in
theorem token_quote (num : ByteArray → Nat → Tok × Int) (s : ByteArray) (i : Int) (k : Nat) (hi : i = k) (hs : s.size ≤ 16384) (hk : k < s.size) (hnd : digitB (bt s k) = false) (hnl : letterB (bt s k) = false) (hnb : binaryB (bt s k) = false) (hn4 : bt s k ≠ 124) (h39 : bt s k = 39) (w : World) (he : Env w) : Calls Tryz.prog 56 #[.string s, .int .i64 i] w fun e w' => e = .returned (tokV (tokenP num s k)) ∧ Below w.heap.size w w' := by
  subst hi
  have hr := bt_range s k
  have hr1 := bt_range s (k + 1)
  have hbt := (bt_of hk).symm
  have hdg := digit_any (bt s k) (hc := hr)
  have hlt := letter_any (bt s k) (hc := hr)
  have hbn := binary_any (bt s k) (hc := hr)
  have hpk := peek_any s _ (k + 1) (show (k : Int) + 1 = ((k + 1 : Nat) : Int) by omega)
  unfold tokenP
  rw [if_neg (by simp [hnd]), if_neg (by simp [hnl]), if_neg (by simp [hnb, hn4])]
  rw [if_neg (by omega), if_pos h39]
  have hfine : (quotedP s k).2 = 0 ∨ (k < (quotedP s k).2 ∧ (quotedP s k).2 ≤ s.size) := by
    have := qEnd_fine s (k + 1)
    unfold quotedP
    split
    · exact .inl rfl
    · simp only; omega
  have hqt := fun w' (h : Below w.heap.size w w') => quoted_any s (k : Int) k rfl hs hk w' (he.below he.size h)
  have b39 : (bt s k == 39) = true := by simpa using h39
  have b35 : (bt s k == 35) = false := by simp; omega
  rw [hnd] at hdg; rw [hnl] at hlt
  rw [hnb] at hbn
  have b124 : (bt s k == 124) = false := by simpa using hn4
  clear hnd hnl hnb hn4 h39 he
  generalize bt s k = c at *
  generalize quotedP s k = r at *
  obtain ⟨t, e⟩ := r
  have HD := Lib.hid hdg; have HL := Lib.hid hlt; have HBN := Lib.hid hbn; have HP := Lib.hid hpk; clear hdg hlt hbn hpk
  have HQ := Lib.hid hqt; clear hqt
  dsimp only at hfine HQ ⊢
  by_cases h0 : e = 0
  · subst h0
    rw [if_pos rfl]
    go_enter Tryz.func56, Tryz.ntmps56
    go_wp2_with (first | (go_at_call 53; refine (HD.out _).mono ?_; rintro e w' ⟨rfl, rfl⟩) | (go_at_call 37; refine (HL.out _).mono ?_; rintro e w' ⟨rfl, rfl⟩) | (go_at_call 40; refine (HBN.out _).mono ?_; rintro e w' ⟨rfl, rfl⟩) | (go_at_call 64; refine (HP.out _).mono ?_; rintro e w' ⟨rfl, rfl⟩) | (go_at_call 77; refine (HQ.out _ (by repeat (first | with_reducible exact Below.refl _ _ | (with_reducible refine Below.alloc ?_ ?_ _; rotate_left 1; (focus (first | omega | (simp; done) | (simp; omega)))) | (with_reducible refine Below.setCell ?_ ?_ _; rotate_left 1; (focus (first | omega | (simp; done) | (simp; omega)))) | with_reducible refine Below.drew ?_ | with_reducible refine below_drewN ?_ _))).mono ?_; rintro e w1 ⟨rfl, hb1⟩; obtain ⟨hc, hf, hz⟩ := grow hb1; have HB := Lib.hid (show Below w.heap.size w w1 from Below.on (W := (w.alloc _).alloc _) (by repeat (first | with_reducible exact Below.refl _ _ | (with_reducible refine Below.alloc ?_ ?_ _; rotate_left 1; (focus (first | omega | (simp; done) | (simp; omega)))) | (with_reducible refine Below.setCell ?_ ?_ _; rotate_left 1; (focus (first | omega | (simp; done) | (simp; omega)))) | with_reducible refine Below.drew ?_ | with_reducible refine below_drewN ?_ _)) hb1 (by simp; omega)); have s0 := hz w.heap.size (by simp; omega); have s1 := hz (w.heap.size + 1) (by simp); clear hb1))
    have hq := fun o => hc w.heap.size o (by simp; omega); have hqf := fun o => hf w.heap.size o (by simp; omega); refine bodyPost_ret (by simp [results, Tryz.results56, go_sem, hq, hqf, s0] <;> first | rfl | exact ⟨rfl, rfl⟩) rfl ⟨rfl, (by repeat (first | with_reducible exact Below.refl _ _ | with_reducible exact HB.out | (with_reducible refine Below.alloc ?_ ?_ _; rotate_left 1; (focus (first | omega | (simp; done) | (simp; omega)))) | (with_reducible refine Below.setCell ?_ ?_ _; rotate_left 1; (focus (first | omega | (simp; done) | (simp; omega)))) | with_reducible refine Below.drew ?_ | with_reducible refine below_drewN ?_ _))⟩
  · have hf1 : k < e ∧ e ≤ s.size := by omega
    have b0 : ((e : Int) == 0) = false := by simp; omega
    rw [if_neg h0]
    clear hfine
    go_enter Tryz.func56, Tryz.ntmps56
    go_wp2_with (first | (go_at_call 53; refine (HD.out _).mono ?_; rintro e w' ⟨rfl, rfl⟩) | (go_at_call 37; refine (HL.out _).mono ?_; rintro e w' ⟨rfl, rfl⟩) | (go_at_call 40; refine (HBN.out _).mono ?_; rintro e w' ⟨rfl, rfl⟩) | (go_at_call 64; refine (HP.out _).mono ?_; rintro e w' ⟨rfl, rfl⟩) | (go_at_call 77; refine (HQ.out _ (by repeat (first | with_reducible exact Below.refl _ _ | (with_reducible refine Below.alloc ?_ ?_ _; rotate_left 1; (focus (first | omega | (simp; done) | (simp; omega)))) | (with_reducible refine Below.setCell ?_ ?_ _; rotate_left 1; (focus (first | omega | (simp; done) | (simp; omega)))) | with_reducible refine Below.drew ?_ | with_reducible refine below_drewN ?_ _))).mono ?_; rintro e w1 ⟨rfl, hb1⟩; obtain ⟨hc, hf, hz⟩ := grow hb1; have HB := Lib.hid (show Below w.heap.size w w1 from Below.on (W := (w.alloc _).alloc _) (by repeat (first | with_reducible exact Below.refl _ _ | (with_reducible refine Below.alloc ?_ ?_ _; rotate_left 1; (focus (first | omega | (simp; done) | (simp; omega)))) | (with_reducible refine Below.setCell ?_ ?_ _; rotate_left 1; (focus (first | omega | (simp; done) | (simp; omega)))) | with_reducible refine Below.drew ?_ | with_reducible refine below_drewN ?_ _)) hb1 (by simp; omega)); have s0 := hz w.heap.size (by simp; omega); have s1 := hz (w.heap.size + 1) (by simp); clear hb1))
    have hq := fun o => hc w.heap.size o (by simp; omega); have hqf := fun o => hf w.heap.size o (by simp; omega); refine bodyPost_ret (by simp [results, Tryz.results56, go_sem, hq, hqf, s0] <;> first | rfl | exact ⟨rfl, rfl⟩) rfl ⟨rfl, (by repeat (first | with_reducible exact Below.refl _ _ | with_reducible exact HB.out | (with_reducible refine Below.alloc ?_ ?_ _; rotate_left 1; (focus (first | omega | (simp; done) | (simp; omega)))) | (with_reducible refine Below.setCell ?_ ?_ _; rotate_left 1; (focus (first | omega | (simp; done) | (simp; omega)))) | with_reducible refine Below.drew ?_ | with_reducible refine below_drewN ?_ _))⟩

set_option maxRecDepth 100000 in
set_option maxHeartbeats 600000 in
theorem token_char (num : ByteArray → Nat → Tok × Int) (s : ByteArray) (i : Int) (k : Nat) (hi : i = k) (hs : s.size ≤ 16384) (hk : k < s.size) (hnd : digitB (bt s k) = false) (hnl : letterB (bt s k) = false) (hnb : binaryB (bt s k) = false) (hn4 : bt s k ≠ 124) (h36 : bt s k = 36) (w : World) : Calls Tryz.prog 56 #[.string s, .int .i64 i] w fun e w' => e = .returned (tokV (tokenP num s k)) ∧ Below w.heap.size w w' := by
  subst hi
  have hr := bt_range s k
  have hr1 := bt_range s (k + 1)
  have hbt := (bt_of hk).symm
  have hdg := digit_any (bt s k) (hc := hr)
  have hlt := letter_any (bt s k) (hc := hr)
  have hbn := binary_any (bt s k) (hc := hr)
  have hpk := peek_any s _ (k + 1) (show (k : Int) + 1 = ((k + 1 : Nat) : Int) by omega)
  unfold tokenP
  rw [if_neg (by simp [hnd]), if_neg (by simp [hnl]), if_neg (by simp [hnb, hn4])]
  rw [if_neg (by omega), if_neg (by omega), if_pos h36]
  have b36 : (bt s k == 36) = true := by simpa using h36
  have b39 : (bt s k == 39) = false := by simp; omega
  have b35 : (bt s k == 35) = false := by simp; omega
  rw [hnd] at hdg; rw [hnl] at hlt
  rw [hnb] at hbn
  have b124 : (bt s k == 124) = false := by simpa using hn4
  clear hnd hnl hnb hn4 h36
  by_cases h1 : k + 1 < s.size
  · rw [if_pos h1]
    have hbt1 := (bt_of h1).symm
    have b1 : ((k : Int) + 1 == (s.size : Int)) = false := by simp; omega
    generalize bt s k = c at *
    generalize bt s (k + 1) = c1 at *
    have HD := Lib.hid hdg; have HL := Lib.hid hlt; have HBN := Lib.hid hbn; have HP := Lib.hid hpk; clear hdg hlt hbn hpk
    go_enter Tryz.func56, Tryz.ntmps56
    go_wp2_with (first | (go_at_call 53; refine (HD.out _).mono ?_; rintro e w' ⟨rfl, rfl⟩) | (go_at_call 37; refine (HL.out _).mono ?_; rintro e w' ⟨rfl, rfl⟩) | (go_at_call 40; refine (HBN.out _).mono ?_; rintro e w' ⟨rfl, rfl⟩) | (go_at_call 64; refine (HP.out _).mono ?_; rintro e w' ⟨rfl, rfl⟩) | go_region)
    all_goals (go_wp2; refine bodyPost_ret (by simp [results, Tryz.results56, go_sem] <;> first | rfl | exact ⟨rfl, rfl⟩) rfl ⟨rfl, (by repeat (first | with_reducible exact Below.refl _ _ | (with_reducible refine Below.alloc ?_ ?_ _; rotate_left 1; (focus (first | omega | (simp; done) | (simp; omega)))) | (with_reducible refine Below.setCell ?_ ?_ _; rotate_left 1; (focus (first | omega | (simp; done) | (simp; omega)))) | with_reducible refine Below.drew ?_ | with_reducible refine below_drewN ?_ _))⟩)
  · rw [if_neg h1]
    have b1 : ((k : Int) + 1 == (s.size : Int)) = true := by simp; omega
    generalize bt s k = c at *
    generalize bt s (k + 1) = c1 at *
    have HD := Lib.hid hdg; have HL := Lib.hid hlt; have HBN := Lib.hid hbn; have HP := Lib.hid hpk; clear hdg hlt hbn hpk
    go_enter Tryz.func56, Tryz.ntmps56
    go_wp2_with (first | (go_at_call 53; refine (HD.out _).mono ?_; rintro e w' ⟨rfl, rfl⟩) | (go_at_call 37; refine (HL.out _).mono ?_; rintro e w' ⟨rfl, rfl⟩) | (go_at_call 40; refine (HBN.out _).mono ?_; rintro e w' ⟨rfl, rfl⟩) | (go_at_call 64; refine (HP.out _).mono ?_; rintro e w' ⟨rfl, rfl⟩))
    refine bodyPost_ret (by simp [results, Tryz.results56, go_sem] <;> first | rfl | exact ⟨rfl, rfl⟩) rfl ⟨rfl, (by repeat (first | with_reducible exact Below.refl _ _ | (with_reducible refine Below.alloc ?_ ?_ _; rotate_left 1; (focus (first | omega | (simp; done) | (simp; omega)))) | (with_reducible refine Below.setCell ?_ ?_ _; rotate_left 1; (focus (first | omega | (simp; done) | (simp; omega)))) | with_reducible refine Below.drew ?_ | with_reducible refine below_drewN ?_ _))⟩

theorem marks_index : ∀ n : Nat, n < 256 → decide (0 ≤ Lib.indexByte [40, 41, 91, 93, 123, 125, 94, 46, 59, 58] n.toUInt8) = markB (n : Int) := by decide +kernel

set_option maxHeartbeats 600000 in
theorem token_set (num : ByteArray → Nat → Tok × Int) (s : ByteArray) (i : Int) (k : Nat) (hi : i = k) (hs : s.size ≤ 16384) (hk : k < s.size) (hnd : digitB (bt s k) = false) (hnl : letterB (bt s k) = false) (hnb : binaryB (bt s k) = false) (hn4 : bt s k ≠ 124) (h58 : bt s k = 58) (h61 : bt s (k + 1) = 61) (w : World) : Calls Tryz.prog 56 #[.string s, .int .i64 i] w fun e w' => e = .returned (tokV (tokenP num s k)) ∧ Below w.heap.size w w' := by
  subst hi
  have hr := bt_range s k
  have hr1 := bt_range s (k + 1)
  have hbt := (bt_of hk).symm
  have hdg := digit_any (bt s k) (hc := hr)
  have hlt := letter_any (bt s k) (hc := hr)
  have hbn := binary_any (bt s k) (hc := hr)
  have hpk := peek_any s _ (k + 1) (show (k : Int) + 1 = ((k + 1 : Nat) : Int) by omega)
  unfold tokenP
  rw [if_neg (by simp [hnd]), if_neg (by simp [hnl]), if_neg (by simp [hnb, hn4])]
  rw [if_neg (by omega), if_neg (by omega), if_neg (by omega), if_pos ⟨h58, h61⟩]
  have hk1 : k + 1 < s.size := lt_of_bt h61 (by decide)
  have b58 : (bt s k == 58) = true := by simpa using h58
  have b61 : (bt s (k + 1) == 61) = true := by simpa using h61
  have b39 : (bt s k == 39) = false := by simp; omega
  have b35 : (bt s k == 35) = false := by simp; omega
  have b36 : (bt s k == 36) = false := by simp; omega
  rw [hnd] at hdg; rw [hnl] at hlt
  rw [hnb] at hbn
  have b124 : (bt s k == 124) = false := by simpa using hn4
  clear hnd hnl hnb hn4 h58 h61
  generalize bt s k = c at *
  generalize bt s (k + 1) = c1 at *
  have HD := Lib.hid hdg; have HL := Lib.hid hlt; have HBN := Lib.hid hbn; have HP := Lib.hid hpk; clear hdg hlt hbn hpk
  go_enter Tryz.func56, Tryz.ntmps56
  go_wp2_with (first | (go_at_call 53; refine (HD.out _).mono ?_; rintro e w' ⟨rfl, rfl⟩) | (go_at_call 37; refine (HL.out _).mono ?_; rintro e w' ⟨rfl, rfl⟩) | (go_at_call 40; refine (HBN.out _).mono ?_; rintro e w' ⟨rfl, rfl⟩) | (go_at_call 64; refine (HP.out _).mono ?_; rintro e w' ⟨rfl, rfl⟩))
  refine bodyPost_ret (by simp [results, Tryz.results56, go_sem] <;> first | rfl | exact ⟨rfl, rfl⟩) rfl ⟨rfl, (by repeat (first | with_reducible exact Below.refl _ _ | (with_reducible refine Below.alloc ?_ ?_ _; rotate_left 1; (focus (first | omega | (simp; done) | (simp; omega)))) | (with_reducible refine Below.setCell ?_ ?_ _; rotate_left 1; (focus (first | omega | (simp; done) | (simp; omega)))) | with_reducible refine Below.drew ?_ | with_reducible refine below_drewN ?_ _))⟩

set_option maxHeartbeats 600000 in
theorem token_mark (num : ByteArray → Nat → Tok × Int) (s : ByteArray) (i : Int) (k : Nat) (hi : i = k) (hs : s.size ≤ 16384) (hk : k < s.size) (hnd : digitB (bt s k) = false) (hnl : letterB (bt s k) = false) (hnb : binaryB (bt s k) = false) (hn4 : bt s k ≠ 124) (h35 : bt s k ≠ 35) (h39 : bt s k ≠ 39) (h36 : bt s k ≠ 36) (h58 : ¬ (bt s k = 58 ∧ bt s (k + 1) = 61)) (w : World) : Calls Tryz.prog 56 #[.string s, .int .i64 i] w fun e w' => e = .returned (tokV (tokenP num s k)) ∧ Below w.heap.size w w' := by
  subst hi
  have hr := bt_range s k
  have hr1 := bt_range s (k + 1)
  have hbt := (bt_of hk).symm
  have hdg := digit_any (bt s k) (hc := hr)
  have hlt := letter_any (bt s k) (hc := hr)
  have hbn := binary_any (bt s k) (hc := hr)
  have hpk := peek_any s _ (k + 1) (show (k : Int) + 1 = ((k + 1 : Nat) : Int) by omega)
  unfold tokenP
  rw [if_neg (by simp [hnd]), if_neg (by simp [hnl]), if_neg (by simp [hnb, hn4])]
  rw [if_neg h35, if_neg h39, if_neg h36, if_neg h58]
  have hcase : (bt s k == 58) = false ∨ ((bt s k == 58) = true ∧ (bt s (k + 1) == 61) = false) := by
    cases h : (bt s k == 58)
    · exact .inl rfl
    · exact .inr ⟨rfl, by simpa using fun hd => h58 ⟨by simpa using h, hd⟩⟩
  have b39 : (bt s k == 39) = false := by simpa using h39
  have b35 : (bt s k == 35) = false := by simpa using h35
  have b36 : (bt s k == 36) = false := by simpa using h36
  have hix := fun w => Tryz.strings_IndexByte ⟨#[40, 41, 91, 93, 123, 125, 94, 46, 59, 58]⟩ (bt s k) w
  have him := marks_index (bt s k).toNat (by omega)
  rw [Int.toNat_of_nonneg hr.1] at him
  change ∀ w, Calls _ _ _ _ fun e w' => e = .returned (.int .i64 (Lib.indexByte [40, 41, 91, 93, 123, 125, 94, 46, 59, 58] (bt s k).toNat.toUInt8)) ∧ _ at hix
  rw [hnd] at hdg; rw [hnl] at hlt
  rw [hnb] at hbn
  have b124 : (bt s k == 124) = false := by simpa using hn4
  clear hnd hnl hnb hn4 h35 h36 h39 h58
  generalize bt s k = c at *
  generalize bt s (k + 1) = c1 at *
  have HD := Lib.hid hdg; have HL := Lib.hid hlt; have HBN := Lib.hid hbn; have HP := Lib.hid hpk; clear hdg hlt hbn hpk
  have HIX := Lib.hid hix; clear hix
  generalize Lib.indexByte [40, 41, 91, 93, 123, 125, 94, 46, 59, 58] c.toNat.toUInt8 = j at *
  cases hm : markB c
  · rw [if_neg (by simp)]
    have hj : j < 0 := by rw [hm] at him; simpa using him
    clear him hm
    rcases hcase with b58 | ⟨b58, b61⟩
    all_goals
      go_enter Tryz.func56, Tryz.ntmps56
      go_wp2_with (first | (go_at_call 53; refine (HD.out _).mono ?_; rintro e w' ⟨rfl, rfl⟩) | (go_at_call 37; refine (HL.out _).mono ?_; rintro e w' ⟨rfl, rfl⟩) | (go_at_call 40; refine (HBN.out _).mono ?_; rintro e w' ⟨rfl, rfl⟩) | (go_at_call 64; refine (HP.out _).mono ?_; rintro e w' ⟨rfl, rfl⟩) | (go_at_call 62; refine (HIX.out _).mono ?_; rintro e w' ⟨rfl, rfl⟩))
      refine bodyPost_ret (by simp [results, Tryz.results56, go_sem] <;> first | rfl | exact ⟨rfl, rfl⟩) rfl ⟨rfl, (by repeat (first | with_reducible exact Below.refl _ _ | (with_reducible refine Below.alloc ?_ ?_ _; rotate_left 1; (focus (first | omega | (simp; done) | (simp; omega)))) | (with_reducible refine Below.setCell ?_ ?_ _; rotate_left 1; (focus (first | omega | (simp; done) | (simp; omega)))) | with_reducible refine Below.drew ?_ | with_reducible refine below_drewN ?_ _))⟩
  · rw [if_pos rfl]
    have hj : ¬ j < 0 := by rw [hm] at him; simpa using him
    clear him hm
    rcases hcase with b58 | ⟨b58, b61⟩
    all_goals
      go_enter Tryz.func56, Tryz.ntmps56
      go_wp2_with (first | (go_at_call 53; refine (HD.out _).mono ?_; rintro e w' ⟨rfl, rfl⟩) | (go_at_call 37; refine (HL.out _).mono ?_; rintro e w' ⟨rfl, rfl⟩) | (go_at_call 40; refine (HBN.out _).mono ?_; rintro e w' ⟨rfl, rfl⟩) | (go_at_call 64; refine (HP.out _).mono ?_; rintro e w' ⟨rfl, rfl⟩) | (go_at_call 62; refine (HIX.out _).mono ?_; rintro e w' ⟨rfl, rfl⟩))
      refine bodyPost_ret (by simp [results, Tryz.results56, go_sem] <;> first | rfl | exact ⟨rfl, rfl⟩) rfl ⟨rfl, (by repeat (first | with_reducible exact Below.refl _ _ | (with_reducible refine Below.alloc ?_ ?_ _; rotate_left 1; (focus (first | omega | (simp; done) | (simp; omega)))) | (with_reducible refine Below.setCell ?_ ?_ _; rotate_left 1; (focus (first | omega | (simp; done) | (simp; omega)))) | with_reducible refine Below.drew ?_ | with_reducible refine below_drewN ?_ _))⟩

theorem token_any (num : ByteArray → Nat → Tok × Int) (s : ByteArray) (hnum : NumOk num s) (i : Int) (k : Nat) (hi : i = k) (hs : s.size ≤ 16384) (hk : k < s.size) (w : World) (he : Env w) : Calls Tryz.prog 56 #[.string s, .int .i64 i] w fun e w' => e = .returned (tokV (tokenP num s k)) ∧ Below w.heap.size w w' := by
  cases hd : digitB (bt s k)
  · cases hl : letterB (bt s k)
    · by_cases hb : binaryB (bt s k) = true ∨ bt s k = 124
      · exact token_sign num s i k hi hs hk hb w
      · have hnb : binaryB (bt s k) = false := by simpa using fun h => hb (.inl h)
        have hn4 : bt s k ≠ 124 := fun h => hb (.inr h)
        by_cases h35 : bt s k = 35
        · exact token_hash num s i k hi hs hk hd hl hnb hn4 h35 w he
        by_cases h39 : bt s k = 39
        · exact token_quote num s i k hi hs hk hd hl hnb hn4 h39 w he
        by_cases h36 : bt s k = 36
        · exact token_char num s i k hi hs hk hd hl hnb hn4 h36 w
        by_cases h58 : bt s k = 58 ∧ bt s (k + 1) = 61
        · exact token_set num s i k hi hs hk hd hl hnb hn4 h58.1 h58.2 w
        · exact token_mark num s i k hi hs hk hd hl hnb hn4 h35 h39 h36 h58 w
    · exact token_letter num s i k hi hs hk hl w
  · exact token_digit num s hnum i k hi hs hk hd w he
end Pal.S
