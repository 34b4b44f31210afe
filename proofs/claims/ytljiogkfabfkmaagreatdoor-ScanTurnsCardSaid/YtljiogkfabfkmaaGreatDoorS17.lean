/- scan.symbol: a quote, nothing. -/
import Derived.Test.YtljiogkfabfkmaaGreatDoorS16
open Go Go.RowKit Go.Proofs
namespace Pal.S

set_option maxHeartbeats 2000000 in
theorem symbol_none (s : ByteArray) (i : Int) (k : Nat) (hi : i = k) (hs : s.size ≤ 16384) (hk : k < s.size) (g1 : bt s (k + 1) ≠ 40) (g2 : bt s (k + 1) ≠ 91) (g3 : bt s (k + 1) ≠ 39) (g4 : bt s (k + 1) ≠ 124) (g5 : binaryB (bt s (k + 1)) = false) (hl : letterB (bt s (k + 1)) = false) (w : World) :
    Calls Tryz.prog 76 #[.string s, .int .i64 i] w fun e w' => e = .returned (tokV (symbolP s k)) ∧ Below w.heap.size w w' := by
  subst hi
  have hr := bt_range s (k + 1)
  have hv : symbolP s k = (zeroTok, 141) := by
    unfold symbolP
    rw [if_neg (by omega), if_neg (by omega), if_neg (by rintro ⟨_, h | h⟩ <;> simp_all), if_neg (by simp [hl])]
  rw [hv]; clear hv
  have hp := peek_any s _ (k + 1) (show (k : Int) + 1 = ((k + 1 : Nat) : Int) by omega)
  have hb := binary_any (bt s (k + 1)) (hc := hr)
  have hlet := letter_any (bt s (k + 1)) (hc := hr)
  rw [g5] at hb; rw [hl] at hlet
  have b1 : (bt s (k + 1) == 40) = false := by simpa using g1
  have b2 : (bt s (k + 1) == 91) = false := by simpa using g2
  have b3 : (bt s (k + 1) == 39) = false := by simpa using g3
  have b4 : (bt s (k + 1) == 124) = false := by simpa using g4
  clear g1 g2 g3 g4 g5 hl
  generalize bt s (k + 1) = c at *
  have HP := Lib.hid hp; have HBI := Lib.hid hb; have HLE := Lib.hid hlet; clear hp hb hlet
  by_cases hlt : k + 1 < s.size
  · go_enter Tryz.func76, Tryz.ntmps76
    go_wp2_with (first | (go_at_call 64; refine (HP.out _).mono ?_; rintro e w' ⟨rfl, rfl⟩) | (go_at_call 40; refine (HBI.out _).mono ?_; rintro e w' ⟨rfl, rfl⟩) | (go_at_call 37; refine (HLE.out _).mono ?_; rintro e w' ⟨rfl, rfl⟩))
    refine bodyPost_ret (by simp [results, Tryz.results76, go_sem]; first | rfl | exact ⟨rfl, rfl⟩) rfl ⟨rfl, (by repeat (first | with_reducible exact Below.refl _ _ | (with_reducible refine Below.alloc ?_ ?_ _; rotate_left 1; (focus (first | omega | (simp; done) | (simp; omega)))) | (with_reducible refine Below.setCell ?_ ?_ _; rotate_left 1; (focus (first | omega | (simp; done) | (simp; omega)))) | with_reducible refine Below.drew ?_ | with_reducible refine below_drewN ?_ _))⟩
  · go_enter Tryz.func76, Tryz.ntmps76
    go_wp2_with (first | (go_at_call 64; refine (HP.out _).mono ?_; rintro e w' ⟨rfl, rfl⟩) | (go_at_call 40; refine (HBI.out _).mono ?_; rintro e w' ⟨rfl, rfl⟩) | (go_at_call 37; refine (HLE.out _).mono ?_; rintro e w' ⟨rfl, rfl⟩))
    refine bodyPost_ret (by simp [results, Tryz.results76, go_sem]; first | rfl | exact ⟨rfl, rfl⟩) rfl ⟨rfl, (by repeat (first | with_reducible exact Below.refl _ _ | (with_reducible refine Below.alloc ?_ ?_ _; rotate_left 1; (focus (first | omega | (simp; done) | (simp; omega)))) | (with_reducible refine Below.setCell ?_ ?_ _; rotate_left 1; (focus (first | omega | (simp; done) | (simp; omega)))) | with_reducible refine Below.drew ?_ | with_reducible refine below_drewN ?_ _))⟩

theorem qEnd_fine (s : ByteArray) (e : Nat) : qEnd s e = 0 ∨ (e < qEnd s e ∧ qEnd s e ≤ s.size) := by
  fun_induction qEnd s e with
  | case1 e h1 h2 => have := runE_ge plainB s e; exact .inr ⟨by omega, by omega⟩
  | case2 e h1 h2 ih => have := runE_ge plainB s e; rcases ih with h | h
                        · exact .inl h
                        · exact .inr ⟨by omega, h.2⟩
  | case3 e h => exact .inl rfl

set_option maxHeartbeats 2000000 in
theorem symbol_quote (s : ByteArray) (i : Int) (k : Nat) (hi : i = k) (hs : s.size ≤ 16384) (hk : k < s.size) (g3 : bt s (k + 1) = 39) (w : World) (he : Env w) :
    Calls Tryz.prog 76 #[.string s, .int .i64 i] w fun e w' => e = .returned (tokV (symbolP s k)) ∧ Below w.heap.size w w' := by
  subst hi
  have hlt : k + 1 < s.size := lt_of_bt g3 (by decide)
  have hv : symbolP s k = if (quotedP s (k + 1)).2 = 0 then (zeroTok, 142) else symTok s k (quotedP s (k + 1)).2 (quotedP s (k + 1)).1 := by
    unfold symbolP
    rw [if_neg (by omega), if_pos g3]
  rw [hv]; clear hv
  have hfine : (quotedP s (k + 1)).2 = 0 ∨ (k + 1 < (quotedP s (k + 1)).2 ∧ (quotedP s (k + 1)).2 ≤ s.size) := by
    have := qEnd_fine s (k + 1 + 1)
    unfold quotedP
    split
    · exact .inl rfl
    · simp only; omega
  have hqt := fun w' (h : Below w.heap.size w w') => quoted_any s ((k : Int) + 1) (k + 1) (by omega) hs hlt w' (he.below he.size h)
  have hp := peek_any s _ (k + 1) (show (k : Int) + 1 = ((k + 1 : Nat) : Int) by omega)
  rw [g3] at hp
  clear g3 he
  generalize quotedP s (k + 1) = r at *
  obtain ⟨t, e⟩ := r
  have HP := Lib.hid hp; have HQ := Lib.hid hqt; clear hp hqt
  dsimp only at hfine HQ ⊢
  by_cases h0 : e = 0
  · subst h0
    rw [if_pos rfl]
    go_enter Tryz.func76, Tryz.ntmps76
    go_wp2_with (first | (go_at_call 64; refine (HP.out _).mono ?_; rintro e w' ⟨rfl, rfl⟩) | (go_at_call 77; refine (HQ.out _ (by repeat (first | with_reducible exact Below.refl _ _ | (with_reducible refine Below.alloc ?_ ?_ _; rotate_left 1; (focus (first | omega | (simp; done) | (simp; omega)))) | (with_reducible refine Below.setCell ?_ ?_ _; rotate_left 1; (focus (first | omega | (simp; done) | (simp; omega)))) | with_reducible refine Below.drew ?_ | with_reducible refine below_drewN ?_ _))).mono ?_; rintro e w1 ⟨rfl, hb1⟩; obtain ⟨hc, hf, hz⟩ := grow hb1; have HB := Lib.hid (show Below w.heap.size w w1 from Below.on (W := (w.alloc _).alloc _) (by repeat (first | with_reducible exact Below.refl _ _ | (with_reducible refine Below.alloc ?_ ?_ _; rotate_left 1; (focus (first | omega | (simp; done) | (simp; omega)))) | (with_reducible refine Below.setCell ?_ ?_ _; rotate_left 1; (focus (first | omega | (simp; done) | (simp; omega)))) | with_reducible refine Below.drew ?_ | with_reducible refine below_drewN ?_ _)) hb1 (by simp; omega)); have s0 := hz w.heap.size (by simp; omega); have s1 := hz (w.heap.size + 1) (by simp); clear hb1))
    have hq := fun o => hc w.heap.size o (by simp; omega)
    have hqf := fun o => hf w.heap.size o (by simp; omega)
    refine bodyPost_ret (by simp [results, Tryz.results76, go_sem, hq, hqf]; first | rfl | exact ⟨rfl, rfl⟩) rfl ⟨rfl, (by repeat (first | with_reducible exact Below.refl _ _ | with_reducible exact HB.out | (with_reducible refine Below.alloc ?_ ?_ _; rotate_left 1; (focus (first | omega | (simp; done) | (simp; omega)))) | (with_reducible refine Below.setCell ?_ ?_ _; rotate_left 1; (focus (first | omega | (simp; done) | (simp; omega)))) | with_reducible refine Below.drew ?_ | with_reducible refine below_drewN ?_ _))⟩
  · have hf1 : k + 1 < e ∧ e ≤ s.size := by omega
    have b0 : ((e : Int) == 0) = false := by simp; omega
    rw [if_neg h0]
    clear hfine
    go_enter Tryz.func76, Tryz.ntmps76
    go_wp2_with (first | (go_at_call 64; refine (HP.out _).mono ?_; rintro e w' ⟨rfl, rfl⟩) | (go_at_call 77; refine (HQ.out _ (by repeat (first | with_reducible exact Below.refl _ _ | (with_reducible refine Below.alloc ?_ ?_ _; rotate_left 1; (focus (first | omega | (simp; done) | (simp; omega)))) | (with_reducible refine Below.setCell ?_ ?_ _; rotate_left 1; (focus (first | omega | (simp; done) | (simp; omega)))) | with_reducible refine Below.drew ?_ | with_reducible refine below_drewN ?_ _))).mono ?_; rintro e w1 ⟨rfl, hb1⟩; obtain ⟨hc, hf, hz⟩ := grow hb1; have HB := Lib.hid (show Below w.heap.size w w1 from Below.on (W := (w.alloc _).alloc _) (by repeat (first | with_reducible exact Below.refl _ _ | (with_reducible refine Below.alloc ?_ ?_ _; rotate_left 1; (focus (first | omega | (simp; done) | (simp; omega)))) | (with_reducible refine Below.setCell ?_ ?_ _; rotate_left 1; (focus (first | omega | (simp; done) | (simp; omega)))) | with_reducible refine Below.drew ?_ | with_reducible refine below_drewN ?_ _)) hb1 (by simp; omega)); have s0 := hz w.heap.size (by simp; omega); have s1 := hz (w.heap.size + 1) (by simp); clear hb1))
    have hq := fun o => hc w.heap.size o (by simp; omega)
    have hqf := fun o => hf w.heap.size o (by simp; omega)
    refine bodyPost_ret (by simp [results, Tryz.results76, go_sem, hq, hqf]; first | rfl | exact ⟨rfl, rfl⟩) rfl ⟨rfl, (by repeat (first | with_reducible exact Below.refl _ _ | with_reducible exact HB.out | (with_reducible refine Below.alloc ?_ ?_ _; rotate_left 1; (focus (first | omega | (simp; done) | (simp; omega)))) | (with_reducible refine Below.setCell ?_ ?_ _; rotate_left 1; (focus (first | omega | (simp; done) | (simp; omega)))) | with_reducible refine Below.drew ?_ | with_reducible refine below_drewN ?_ _))⟩

theorem symbol_any (s : ByteArray) (i : Int) (k : Nat) (hi : i = k) (hs : s.size ≤ 16384) (hk : k < s.size) (w : World) (he : Env w) :
    Calls Tryz.prog 76 #[.string s, .int .i64 i] w fun e w' => e = .returned (tokV (symbolP s k)) ∧ Below w.heap.size w w' := by
  by_cases h1 : bt s (k + 1) = 40 ∨ bt s (k + 1) = 91
  · exact symbol_mark s i k hi hs hk h1 w
  by_cases h2 : bt s (k + 1) = 39
  · exact symbol_quote s i k hi hs hk h2 w he
  by_cases h3 : binaryB (bt s (k + 1)) = true ∨ bt s (k + 1) = 124
  · have hlt : k + 1 < s.size := by
      rcases h3 with h | h
      · refine lt_of_bt rfl (fun e => ?_)
        rw [e] at h; exact absurd h (by decide)
      · exact lt_of_bt h (by decide)
    exact symbol_sign s i k hi hs hlt h3 w
  by_cases h4 : letterB (bt s (k + 1)) = true
  · exact symbol_word s i k hi hs hk h4 w
  · exact symbol_none s i k hi hs hk (fun e => h1 (.inl e)) (fun e => h1 (.inr e)) h2 (fun e => h3 (.inr e)) (by simpa using fun e => h3 (.inl e)) (by simpa using h4) w
end Pal.S
