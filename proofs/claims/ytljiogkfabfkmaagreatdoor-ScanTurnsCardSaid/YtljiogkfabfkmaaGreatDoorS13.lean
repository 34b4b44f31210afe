/- scan.skip, scan.colon. -/
import Derived.Test.YtljiogkfabfkmaaGreatDoorS1
import Derived.Test.YtljiogkfabfkmaaGreatDoorRunE
import Derived.WalkMore
open Go Go.RowKit Go.Proofs
namespace Pal.S

theorem colon_any (s : ByteArray) (i : Int) (k : Nat) (hi : i = k) (hs : s.size ≤ 140737488355328) (hk : k ≤ s.size) (w : World) :
    Calls Tryz.prog 101 #[.string s, .int .i64 i] w fun e w' => e = .returned (.bool (colonB s k)) ∧ w = w' := by
  subst hi
  go_enter Tryz.func101, Tryz.ntmps101
  go_wp2_with (first | (go_at_call 64; refine (peek_any s _ k (by omega) _).mono ?_; rintro e w' ⟨rfl, rfl⟩) | (go_at_call 64; refine (peek_any s _ (k + 1) (by omega) _).mono ?_; rintro e w' ⟨rfl, rfl⟩))
  all_goals (go_ret; exact ⟨ret_bool (by simp_all [colonB]), rfl⟩)

theorem rest_is (c : Int) : decide (c ≠ ((34 : UInt8).toNat : Int)) = restB c := rfl

theorem skip_any (s : ByteArray) (i : Int) (k : Nat) (hi : i = k) (hs : s.size ≤ 140737488355328) (hk : k ≤ s.size) (w : World) :
    Calls Tryz.prog 55 #[.string s, .int .i64 i] w fun e w' => e = .returned (.tuple #[.int .i64 (overE s k).1, .bool (overE s k).2]) ∧ w = w' := by
  subst hi
  go_enter Tryz.func55, Tryz.ntmps55
  go_wp2
  go_step3
  go_wp2
  go_step3
  go_wp2
  go_loop [1] (fun i => ∃ k' : Nat, k' ≤ s.size ∧ i = .int .i64 k' ∧ overE s k' = overE s k) (fun i => s.size - (intOf i).toNat)
  case atStart => exact ⟨k, hk, rfl, rfl⟩
  case round =>
    obtain ⟨j, hj, rfl, he⟩ := hrel
    have HE := Lib.hid he; clear he
    by_cases hlt : j < s.size
    · have hbt := (bt_of hlt).symm
      have hr := bt_range s j
      by_cases hb : blankB (bt s j) = true
      · have HB := Lib.hid hb
        have hb' : bt s j = 32 ∨ bt s j = 9 ∨ bt s j = 10 ∨ bt s j = 12 ∨ bt s j = 13 := by simpa [blankB] using hb
        clear hb
        rcases hb' with hb' | hb' | hb' | hb' | hb'
        all_goals
          go_wp2
          go_round
          case rel => exact ⟨j + 1, by omega, by go_num, by rw [← HE.out, overE.eq_1 s j, if_pos hlt, if_pos HB.out]⟩
          case measure => simp [intOf]; omega
      · have HB := Lib.hid hb
        have hb' : bt s j ≠ 32 ∧ bt s j ≠ 9 ∧ bt s j ≠ 10 ∧ bt s j ≠ 12 ∧ bt s j ≠ 13 := by simpa [blankB] using hb
        clear hb
        have b1 : (bt s j == 32) = false := by simpa using hb'.1
        have b2 : (bt s j == 9) = false := by simpa using hb'.2.1
        have b3 : (bt s j == 10) = false := by simpa using hb'.2.2.1
        have b4 : (bt s j == 12) = false := by simpa using hb'.2.2.2.1
        have b5 : (bt s j == 13) = false := by simpa using hb'.2.2.2.2
        clear hb'
        by_cases hq : bt s j = 34
        · have hq' : (bt s j == 34) = true := by simp [hq]
          have HQ := Lib.hid hq; clear hq
          have hix := index_run 34 s (j + 1) (by omega)
          have hcall := Tryz.strings_IndexByte (s.extract (j + 1) s.size) 34
          simp only [show (34 : Int).toNat.toUInt8 = 34 from rfl] at hcall
          have fin : overE s j = if runE restB s (j + 1) < s.size then overE s (runE restB s (j + 1) + 1) else (j, false) := by
            rw [overE.eq_1 s j, if_pos hlt, if_neg HB.out, if_neg (by simp [HQ.out])]
          have hge := runE_ge restB s (j + 1)
          have hre : runE (fun x => decide (x ≠ ((34 : UInt8).toNat : Int))) s (j + 1) = runE restB s (j + 1) := rfl
          rw [hre] at hix
          generalize runE restB s (j + 1) = r at *
          by_cases h2 : r < s.size
          · rw [if_pos h2] at hix fin
            rw [hix] at hcall
            have HC := Lib.hid hcall; have FIN := Lib.hid fin; clear hcall fin hix hre
            have n1 : ¬ ((r - (j + 1) : Nat) : Int) < 0 := by omega
            go_wp2_with (go_at_call 62; refine (HC.out _).mono ?_; rintro e w' ⟨rfl, rfl⟩)
            go_round
            case rel => exact ⟨r + 1, by omega, congrArg _ (by omega), by rw [← HE.out, FIN.out]⟩
            case measure => simp [intOf]; omega
          · rw [if_neg h2] at hix fin
            rw [hix] at hcall
            have HC := Lib.hid hcall; have FIN := Lib.hid fin; clear hcall fin hix hre
            go_wp2_with (go_at_call 62; refine (HC.out _).mono ?_; rintro e w' ⟨rfl, rfl⟩)
            rw [Exit.noGoto_ret]
            go_ret2
            exact ⟨by rw [← HE.out, FIN.out]; rfl, rfl⟩
        · have hq' : (bt s j == 34) = false := by simpa using hq
          have HQ := Lib.hid hq; clear hq
          go_wp2
          go_ret2
          have fin : overE s j = (j, true) := by rw [overE.eq_1 s j, if_pos hlt, if_neg HB.out, if_pos HQ.out]
          exact ⟨by rw [← HE.out, fin]; rfl, rfl⟩
    · go_wp2
      go_ret2
      have fin : overE s j = (j, true) := by rw [overE.eq_1 s j, if_neg hlt]
      exact ⟨by rw [← HE.out, fin]; rfl, rfl⟩
end Pal.S
