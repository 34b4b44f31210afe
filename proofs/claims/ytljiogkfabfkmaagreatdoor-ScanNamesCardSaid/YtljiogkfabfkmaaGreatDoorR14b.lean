/- palaverref14: names, selectors. -/
import Derived.Test.YtljiogkfabfkmaaGreatDoorR14a
open Go Go.RowKit Go.Proofs
namespace Pal.R14

theorem word_any (s : ByteArray) (i : Int) (k : Nat) (hi : i = k) (hs : s.size ≤ 140737488355328) (hk : k ≤ s.size) (w : World) :
    Calls Tryz.prog 45 #[.string s, .int .i64 i] w fun e w' => e = .returned (.int .i64 (runE innerB s k)) ∧ w = w' := by
  subst hi
  go_enter Tryz.func45, Tryz.ntmps45
  go_wp2
  go_loop [1] (fun i => ∃ j : Nat, j ≤ s.size ∧ i = .int .i64 j ∧ runE innerB s j = runE innerB s k) (fun i => s.size - (intOf i).toNat)
  case atStart => exact ⟨k, hk, rfl, rfl⟩
  case round =>
    obtain ⟨j, hj, rfl, he⟩ := hrel
    have HE := Lib.hid he; clear he
    by_cases hlt : j < s.size
    · have hbt := (bt_of hlt).symm
      have hr := bt_range s j
      by_cases hb : innerB (bt s j) = true
      · have HB := Lib.hid hb
        go_wp2_with (go_at_call 67; refine (inner_any _ _ hr).mono ?_; rintro e w' ⟨rfl, rfl⟩)
        go_round
        case rel => exact ⟨j + 1, by omega, by go_num, by rw [← HE.out, runE_step hlt HB.out]⟩
        case measure => simp [intOf]; omega
      · have hb' : innerB (bt s j) = false := by simpa using hb
        clear hb
        have HB := Lib.hid hb'
        go_wp2_with (go_at_call 67; refine (inner_any _ _ hr).mono ?_; rintro e w' ⟨rfl, rfl⟩)
        go_ret
        exact ⟨ret_int (by rw [← HE.out, runE_stop hlt HB.out]), rfl⟩
    · go_wp2
      go_ret
      exact ⟨ret_int (by rw [← HE.out, runE_end hlt]), rfl⟩

theorem colon_any (s : ByteArray) (i : Int) (k : Nat) (hi : i = k) (hs : s.size ≤ 140737488355328) (hk : k ≤ s.size) (w : World) :
    Calls Tryz.prog 103 #[.string s, .int .i64 i] w fun e w' => e = .returned (.bool (colonB s k)) ∧ w = w' := by
  subst hi
  go_enter Tryz.func103, Tryz.ntmps103
  go_wp2_with (first | (go_at_call 69; refine (at_any s _ k (by omega) _).mono ?_; rintro e w' ⟨rfl, rfl⟩) | (go_at_call 69; refine (at_any s _ (k + 1) (by omega) _).mono ?_; rintro e w' ⟨rfl, rfl⟩))
  all_goals (go_ret; exact ⟨ret_bool (by simp_all [colonB]), rfl⟩)

theorem sign_any (s : ByteArray) (i : Int) (k : Nat) (hi : i = k) (hs : s.size ≤ 140737488355328) (hk : k < s.size) (w : World) :
    Calls Tryz.prog 47 #[.string s, .int .i64 i] w fun e w' => e = .returned (.int .i64 (signEnd s k)) ∧ w = w' := by
  subst hi
  have hbt := (bt_of hk).symm
  by_cases h0 : bt s k = 124
  · have h0' : (bt s k == 124) = true := by simp [h0]
    have H0 := Lib.hid h0; clear h0
    go_enter Tryz.func47, Tryz.ntmps47
    go_wp2
    go_ret
    exact ⟨ret_int (by rw [signEnd, if_pos H0.out]; rfl), rfl⟩
  · have h0' : (bt s k == 124) = false := by simpa using h0
    have hfin : signEnd s k = signE s k k := by rw [signEnd, if_neg h0]
    rw [hfin]; clear hfin h0
    go_enter Tryz.func47, Tryz.ntmps47
    go_wp2
    clear hbt
    go_loop [5] (fun i => ∃ j : Nat, k ≤ j ∧ j ≤ s.size ∧ i = .int .i64 j ∧ signE s k j = signE s k k) (fun i => s.size - (intOf i).toNat)
    case atStart => exact ⟨k, by omega, by omega, rfl, rfl⟩
    case round =>
      obtain ⟨j, hkj, hj, rfl, he⟩ := hrel
      have HE := Lib.hid he; clear he
      by_cases hlt : j < s.size
      · have hbt := (bt_of hlt).symm
        have hr := bt_range s j
        have hr1 := bt_range s (j + 1)
        have E1 := Lib.hid (signE.eq_1 s k j)
        cases hc1 : binaryB (bt s j)
        · have H1 := Lib.hid hc1
          go_wp2_with (first | (go_at_call 46; refine (binary_any _ _ hr).mono ?_; rintro e w' ⟨rfl, rfl⟩))
          go_ret
          exact ⟨ret_int (by rw [← HE.out, E1.out, if_pos hlt, if_neg (by simp [H1.out])]), rfl⟩
        · have H1 := Lib.hid hc1
          by_cases hc2 : k < j
          · by_cases hc3 : bt s j = 45
            · have hc3' : (bt s j == 45) = true := by simp [hc3]
              have H3 := Lib.hid hc3; clear hc3
              cases hc4 : digitB (bt s (j + 1))
              · have H4 := Lib.hid hc4
                go_wp2_with (first | (go_at_call 46; refine (binary_any _ _ hr).mono ?_; rintro e w' ⟨rfl, rfl⟩) | (go_at_call 68; refine (digit_any _ _ hr1).mono ?_; rintro e w' ⟨rfl, rfl⟩) | (go_at_call 69; refine (at_any s _ (j + 1) (by omega) _).mono ?_; rintro e w' ⟨rfl, rfl⟩))
                go_round
                case rel => exact ⟨j + 1, by omega, by omega, by go_num, by rw [← HE.out, E1.out, if_pos hlt, if_pos (by simp [H1.out, H4.out])]⟩
                case measure => simp [intOf]; omega
              · have H4 := Lib.hid hc4
                go_wp2_with (first | (go_at_call 46; refine (binary_any _ _ hr).mono ?_; rintro e w' ⟨rfl, rfl⟩) | (go_at_call 68; refine (digit_any _ _ hr1).mono ?_; rintro e w' ⟨rfl, rfl⟩) | (go_at_call 69; refine (at_any s _ (j + 1) (by omega) _).mono ?_; rintro e w' ⟨rfl, rfl⟩))
                go_ret
                exact ⟨ret_int (by rw [← HE.out, E1.out, if_pos hlt, if_neg (by simp [H4.out, H3.out, hc2])]), rfl⟩
            · have hc3' : (bt s j == 45) = false := by simpa using hc3
              have H3 := Lib.hid hc3'; clear hc3
              go_wp2_with (first | (go_at_call 46; refine (binary_any _ _ hr).mono ?_; rintro e w' ⟨rfl, rfl⟩) | (go_at_call 68; refine (digit_any _ _ hr1).mono ?_; rintro e w' ⟨rfl, rfl⟩) | (go_at_call 69; refine (at_any s _ (j + 1) (by omega) _).mono ?_; rintro e w' ⟨rfl, rfl⟩))
              go_round
              case rel => exact ⟨j + 1, by omega, by omega, by go_num, by rw [← HE.out, E1.out, if_pos hlt, if_pos (by simp [H1.out, H3.out])]⟩
              case measure => simp [intOf]; omega
          · go_wp2_with (first | (go_at_call 46; refine (binary_any _ _ hr).mono ?_; rintro e w' ⟨rfl, rfl⟩) | (go_at_call 68; refine (digit_any _ _ hr1).mono ?_; rintro e w' ⟨rfl, rfl⟩) | (go_at_call 69; refine (at_any s _ (j + 1) (by omega) _).mono ?_; rintro e w' ⟨rfl, rfl⟩))
            go_round
            case rel => exact ⟨j + 1, by omega, by omega, by go_num, by rw [← HE.out, E1.out, if_pos hlt, if_pos (by simp [H1.out, hc2])]⟩
            case measure => simp [intOf]; omega
      · go_wp2
        go_ret
        exact ⟨ret_int (by rw [← HE.out, signE, if_neg hlt]), rfl⟩

theorem Name_any (s : ByteArray) (hs : s.size ≤ 140737488355328) (w : World) :
    Calls Tryz.prog 22 #[.string s] w fun e w' => e = .returned (.bool (nameB s)) ∧ w = w' := by
  go_enter Tryz.func22, Tryz.ntmps22
  by_cases h0 : 0 < s.size
  · have hbt := (bt_of h0).symm
    have hr := bt_range s 0
    go_wp2_with (first | (go_at_call 44; refine (letter_any _ _ hr).mono ?_; rintro e w' ⟨rfl, rfl⟩) | (go_at_call 45; refine (word_any s _ 0 (by omega) hs (by omega) _).mono ?_; rintro e w' ⟨rfl, rfl⟩))
    all_goals (go_ret; exact ⟨ret_bool (by first | (simp_all [nameB]; done) | (rw [Bool.eq_iff_iff]; simp [nameB, *]; omega)), rfl⟩)
  · go_wp2
    go_ret
    exact ⟨ret_bool (by simp [nameB]; omega), rfl⟩

theorem keywords_any (s : ByteArray) (hs : s.size ≤ 140737488355328) (w : World) :
    Calls Tryz.prog 48 #[.string s] w fun e w' => e = .returned (.int .i64 (keywordsE s 0 0)) ∧ w = w' := by
  go_enter Tryz.func48, Tryz.ntmps48
  go_wp2
  go_loop [3, 4] (fun n i => ∃ j m : Nat, j ≤ s.size ∧ m ≤ j ∧ i = .int .i64 j ∧ n = .int .i64 m ∧ keywordsE s j m = keywordsE s 0 0) (fun _ i => s.size - (intOf i).toNat)
  case atStart => exact ⟨0, 0, by omega, by omega, rfl, rfl, rfl⟩
  case round =>
    obtain ⟨j, m, hj, hm, rfl, rfl, he⟩ := hrel
    have HE := Lib.hid he; clear he
    by_cases hlt : j < s.size
    · have E1 := Lib.hid (keywordsE.eq_1 s j m)
      have h1 := runE_ge innerB s j
      have h2 := runE_le innerB s j hj
      obtain ⟨e, he⟩ : ∃ e, runE innerB s j = e := ⟨_, rfl⟩
      rw [he] at h1 h2
      have HEE := Lib.hid he; clear he
      have hext : (s.extract j e).size ≤ 140737488355328 := by simp; omega
      have hr := bt_range s e
      go_wp2_with (first | (go_at_call 45; refine (word_any s _ j (by omega) hs hj _).mono ?_; rintro e' w' ⟨rfl, rfl⟩; rw [HEE.out]) | fail)
      cases hn : nameB (s.extract j e)
      · have HN := Lib.hid hn; clear hn
        go_wp2_with (first | (go_at_call 22; refine (Name_any _ hext _).mono ?_; rintro e' w' ⟨rfl, rfl⟩; rw [HN.out]) | (go_at_call 69; refine (at_any s _ e (by omega) _).mono ?_; rintro e w' ⟨rfl, rfl⟩))
        go_ret
        exact ⟨ret_int (by rw [← HE.out, E1.out, if_pos hlt, HEE.out, if_neg (by simp [HN.out])]), rfl⟩
      · have HN := Lib.hid hn; clear hn
        by_cases hq : bt s e = 58
        · have hq' : (bt s e == 58) = true := by simp [hq]
          have hlt2 : e < s.size := by
            by_cases h : e < s.size
            · exact h
            · rw [bt_ge h] at hq; omega
          have HQ := Lib.hid hq; clear hq
          go_wp2_with (first | (go_at_call 22; refine (Name_any _ hext _).mono ?_; rintro e' w' ⟨rfl, rfl⟩; rw [HN.out]) | (go_at_call 69; refine (at_any s _ e (by omega) _).mono ?_; rintro e w' ⟨rfl, rfl⟩))
          go_round
          case rel => exact ⟨e + 1, m + 1, by omega, by omega, by go_num, by go_num, by rw [← HE.out, E1.out, if_pos hlt, HEE.out, if_pos (by simp [HN.out, HQ.out])]⟩
          case measure => simp [intOf]; omega
        · have hq' : (bt s e == 58) = false := by simpa using hq
          have HQ := Lib.hid hq; clear hq
          go_wp2_with (first | (go_at_call 22; refine (Name_any _ hext _).mono ?_; rintro e' w' ⟨rfl, rfl⟩; rw [HN.out]) | (go_at_call 69; refine (at_any s _ e (by omega) _).mono ?_; rintro e w' ⟨rfl, rfl⟩))
          go_ret
          exact ⟨ret_int (by rw [← HE.out, E1.out, if_pos hlt, HEE.out, if_neg (by simp [HQ.out])]), rfl⟩
    · go_wp2
      go_ret
      exact ⟨ret_int (by rw [← HE.out, keywordsE, if_neg hlt]), rfl⟩
end Pal.R14
