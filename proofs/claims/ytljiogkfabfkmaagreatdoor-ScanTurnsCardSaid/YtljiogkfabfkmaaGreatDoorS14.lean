/- scan.word. -/
import Derived.Test.YtljiogkfabfkmaaGreatDoorS13
open Go Go.RowKit Go.Proofs
namespace Pal.S

def wordM (s : ByteArray) (k : Nat) : Nat × Bool × Int :=
  if 40 < runE innerB s k - k then (0, false, 143)
  else if colonB s (runE innerB s k) = false then (runE innerB s k, false, 0)
  else if (keysE s (runE innerB s k + 1)).2 = 0 then ((keysE s (runE innerB s k + 1)).1, true, 0) else (0, false, 143)
def wordV (r : Nat × Bool × Int) : Value := .tuple #[.int .i64 r.1, .bool r.2.1, .int .i64 r.2.2]

theorem letter_zero : letterB 0 = false := by decide
set_option maxHeartbeats 2000000 in
theorem word_many (s : ByteArray) (i : Int) (k : Nat) (hi : i = k) (hs : s.size ≤ 140737488355328) (hk : k ≤ s.size) (w : World) :
    Calls Tryz.prog 75 #[.string s, .int .i64 i, .bool true] w fun e w' => e = .returned (wordV (wordM s k)) ∧ w = w' := by
  subst hi
  go_enter Tryz.func75, Tryz.ntmps75
  go_wp2
  go_loop [1, 9] (fun i q => ∃ j : Nat, j ≤ s.size ∧ i = .int .i64 j ∧ ((q = .bool false ∧ j = k) ∨ (q = .bool true ∧ wordM s k = if (keysE s j).2 = 0 then ((keysE s j).1, true, 0) else (0, false, 143)))) (fun i _ => s.size - (intOf i).toNat)
  case atStart => exact ⟨k, hk, rfl, .inl ⟨rfl, rfl⟩⟩
  case round =>
    obtain ⟨j, hj, rfl, ⟨rfl, rfl⟩ | ⟨rfl, he⟩⟩ := hrel
    · have hm : wordM s j = _ := wordM.eq_1 s j
      have hge := runE_ge innerB s j
      have hle := runE_le innerB s j hj
      have hrun := run_inner s j j rfl hs hj
      generalize runE innerB s j = r at *
      have HR := Lib.hid hrun; have HM := Lib.hid hm; clear hrun hm
      cases hc : colonB s r
      · by_cases h40 : (r : Int) - j > 40
        · go_wp2_with (first | (go_at_call 38; refine (HR.out _).mono ?_; rintro e w' ⟨rfl, rfl⟩) | (go_at_call 101; refine (colon_any s _ r (by omega) hs hle _).mono ?_; rintro e w' ⟨rfl, rfl⟩))
          refine bodyPost_ret (by simp [results, Tryz.results75, go_sem]; rfl) rfl ?_
          refine ⟨?_, rfl⟩
          rw [HM.out]
          rw [if_pos (by omega)]
          rfl
        · go_wp2_with (first | (go_at_call 38; refine (HR.out _).mono ?_; rintro e w' ⟨rfl, rfl⟩) | (go_at_call 101; refine (colon_any s _ r (by omega) hs hle _).mono ?_; rintro e w' ⟨rfl, rfl⟩))
          refine bodyPost_ret (by simp [results, Tryz.results75, go_sem]; rfl) rfl ?_
          refine ⟨?_, rfl⟩
          rw [HM.out]
          rw [if_neg (by omega), if_pos hc]
          rfl
      · by_cases h40 : (r : Int) - j > 40
        · go_wp2_with (first | (go_at_call 38; refine (HR.out _).mono ?_; rintro e w' ⟨rfl, rfl⟩) | (go_at_call 101; refine (colon_any s _ r (by omega) hs hle _).mono ?_; rintro e w' ⟨rfl, rfl⟩))
          refine bodyPost_ret (by simp [results, Tryz.results75, go_sem]; rfl) rfl ?_
          refine ⟨?_, rfl⟩
          rw [HM.out]
          rw [if_pos (by omega)]
          rfl
        · have hlt := colonB_lt hc
          go_wp2_with (first | (go_at_call 38; refine (HR.out _).mono ?_; rintro e w' ⟨rfl, rfl⟩) | (go_at_call 101; refine (colon_any s _ r (by omega) hs hle _).mono ?_; rintro e w' ⟨rfl, rfl⟩))
          go_round
          case rel => exact ⟨r + 1, by omega, by go_num, .inr ⟨rfl, by rw [HM.out, if_neg (by omega), if_neg (by rw [hc]; decide)]⟩⟩
          case measure => simp [intOf]; omega
    · have hge := runE_ge innerB s j
      have hle := runE_le innerB s j hj
      have hrun := run_inner s j j rfl hs hj
      have hr := bt_range s j
      have hk := keysE.eq_1 s j
      generalize runE innerB s j = r at *
      have HR := Lib.hid hrun; have HE := Lib.hid he; have HK := Lib.hid hk; clear hrun he hk
      cases hc : colonB s r
      · have hend : keysE s j = (j, 0) := by
          rw [HK.out]
          split
          · rw [if_neg (by simp [hc])]
          · rfl
        have HEND := Lib.hid hend; clear hend
        go_wp2_with (first | (go_at_call 38; refine (HR.out _).mono ?_; rintro e w' ⟨rfl, rfl⟩) | (go_at_call 101; refine (colon_any s _ r (by omega) hs hle _).mono ?_; rintro e w' ⟨rfl, rfl⟩))
        refine bodyPost_ret (by simp [results, Tryz.results75, go_sem]; rfl) rfl ?_
        refine ⟨?_, rfl⟩
        rw [HE.out, HEND.out]
        rfl
      · have hlt := colonB_lt hc
        cases hl : letterB (bt s j)
        · have hend : keysE s j = (j, 0) := by
            rw [HK.out]
            split
            · rw [if_neg (by simp [hl])]
            · rfl
          have HEND := Lib.hid hend; clear hend
          go_wp2_with (first | (go_at_call 38; refine (HR.out _).mono ?_; rintro e w' ⟨rfl, rfl⟩) | (go_at_call 101; refine (colon_any s _ r (by omega) hs hle _).mono ?_; rintro e w' ⟨rfl, rfl⟩) | (go_at_call 64; refine (peek_any s _ j (by omega) _).mono ?_; rintro e w' ⟨rfl, rfl⟩) | (go_at_call 37; refine (letter_any _ _ hr).mono ?_; rintro e w' ⟨rfl, rfl⟩))
          refine bodyPost_ret (by simp [results, Tryz.results75, go_sem]; rfl) rfl ?_
          refine ⟨?_, rfl⟩
          rw [HE.out, HEND.out]
          rfl
        · have hjs : j < s.size := by omega
          by_cases h40 : (r : Int) - j > 40
          · have hend : keysE s j = (0, 143) := by rw [HK.out, if_pos hjs, if_pos (by simp [hl, hc]), if_pos (by omega)]
            have HEND := Lib.hid hend; clear hend
            go_wp2_with (first | (go_at_call 38; refine (HR.out _).mono ?_; rintro e w' ⟨rfl, rfl⟩) | (go_at_call 101; refine (colon_any s _ r (by omega) hs hle _).mono ?_; rintro e w' ⟨rfl, rfl⟩) | (go_at_call 64; refine (peek_any s _ j (by omega) _).mono ?_; rintro e w' ⟨rfl, rfl⟩) | (go_at_call 37; refine (letter_any _ _ hr).mono ?_; rintro e w' ⟨rfl, rfl⟩))
            refine bodyPost_ret (by simp [results, Tryz.results75, go_sem]; rfl) rfl ?_
            refine ⟨?_, rfl⟩
            rw [HE.out, HEND.out]
            rfl
          · have hend : keysE s j = keysE s (r + 1) := by rw [HK.out, if_pos hjs, if_pos (by simp [hl, hc]), if_neg (by omega)]
            have HEND := Lib.hid hend; clear hend
            go_wp2_with (first | (go_at_call 38; refine (HR.out _).mono ?_; rintro e w' ⟨rfl, rfl⟩) | (go_at_call 101; refine (colon_any s _ r (by omega) hs hle _).mono ?_; rintro e w' ⟨rfl, rfl⟩) | (go_at_call 64; refine (peek_any s _ j (by omega) _).mono ?_; rintro e w' ⟨rfl, rfl⟩) | (go_at_call 37; refine (letter_any _ _ hr).mono ?_; rintro e w' ⟨rfl, rfl⟩))
            go_round
            case rel => exact ⟨r + 1, by omega, by go_num, .inr ⟨rfl, by rw [HE.out, HEND.out]⟩⟩
            case measure => simp [intOf]; omega

def wordO (s : ByteArray) (k : Nat) : Nat × Bool × Int :=
  if 40 < runE innerB s k - k then (0, false, 143)
  else if colonB s (runE innerB s k) = false then (runE innerB s k, false, 0)
  else (runE innerB s k + 1, true, 0)

set_option maxHeartbeats 2000000 in
theorem word_one (s : ByteArray) (i : Int) (k : Nat) (hi : i = k) (hs : s.size ≤ 140737488355328) (hk : k ≤ s.size) (w : World) :
    Calls Tryz.prog 75 #[.string s, .int .i64 i, .bool false] w fun e w' => e = .returned (wordV (wordO s k)) ∧ w = w' := by
  subst hi
  go_enter Tryz.func75, Tryz.ntmps75
  go_wp2
  go_loop [1, 9] (fun i q => i = .int .i64 k ∧ q = .bool false) (fun _ _ => 0)
  case atStart => exact ⟨rfl, rfl⟩
  case round =>
    obtain ⟨rfl, rfl⟩ := hrel
    have hm : wordO s k = _ := wordO.eq_1 s k
    have hge := runE_ge innerB s k
    have hle := runE_le innerB s k hk
    have hrun := run_inner s k k rfl hs hk
    generalize runE innerB s k = r at *
    have HR := Lib.hid hrun; have HM := Lib.hid hm; clear hrun hm
    cases hc : colonB s r
    · by_cases h40 : (r : Int) - k > 40
      · go_wp2_with (first | (go_at_call 38; refine (HR.out _).mono ?_; rintro e w' ⟨rfl, rfl⟩) | (go_at_call 101; refine (colon_any s _ r (by omega) hs hle _).mono ?_; rintro e w' ⟨rfl, rfl⟩))
        refine bodyPost_ret (by simp [results, Tryz.results75, go_sem]; rfl) rfl ?_
        refine ⟨?_, rfl⟩
        rw [HM.out, if_pos (by omega)]
        rfl
      · go_wp2_with (first | (go_at_call 38; refine (HR.out _).mono ?_; rintro e w' ⟨rfl, rfl⟩) | (go_at_call 101; refine (colon_any s _ r (by omega) hs hle _).mono ?_; rintro e w' ⟨rfl, rfl⟩))
        refine bodyPost_ret (by simp [results, Tryz.results75, go_sem]; rfl) rfl ?_
        refine ⟨?_, rfl⟩
        rw [HM.out, if_neg (by omega), if_pos hc]
        rfl
    · by_cases h40 : (r : Int) - k > 40
      · go_wp2_with (first | (go_at_call 38; refine (HR.out _).mono ?_; rintro e w' ⟨rfl, rfl⟩) | (go_at_call 101; refine (colon_any s _ r (by omega) hs hle _).mono ?_; rintro e w' ⟨rfl, rfl⟩))
        refine bodyPost_ret (by simp [results, Tryz.results75, go_sem]; rfl) rfl ?_
        refine ⟨?_, rfl⟩
        rw [HM.out, if_pos (by omega)]
        rfl
      · have hlt := colonB_lt hc
        go_wp2_with (first | (go_at_call 38; refine (HR.out _).mono ?_; rintro e w' ⟨rfl, rfl⟩) | (go_at_call 101; refine (colon_any s _ r (by omega) hs hle _).mono ?_; rintro e w' ⟨rfl, rfl⟩))
        refine bodyPost_ret (by simp [results, Tryz.results75, go_sem]; rfl) rfl ?_
        refine ⟨?_, rfl⟩
        rw [HM.out, if_neg (by omega), if_neg (by rw [hc]; decide)]
        rfl
end Pal.S
