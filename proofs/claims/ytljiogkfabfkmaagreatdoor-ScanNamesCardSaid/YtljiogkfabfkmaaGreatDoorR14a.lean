/- palaverref14's small functions come to the models. -/
import Derived.Test.YtljiogkfabfkmaaGreatDoorProg
import Derived.Test.YtljiogkfabfkmaaGreatDoorScanM
open Go Go.RowKit Go.Proofs
namespace Pal.R14

theorem letter_any (c : Int) (w : World) (hc : 0 ≤ c ∧ c ≤ 255) :
    Calls Tryz.prog 44 #[.int .u8 c] w fun e w' => e = .returned (.bool (letterB c)) ∧ w = w' := by
  go_enter Tryz.func44, Tryz.ntmps44
  go_wp2
  all_goals (go_ret; exact ⟨ret_bool (by rw [Bool.eq_iff_iff]; simp [letterB]; omega), rfl⟩)

theorem digit_any (c : Int) (w : World) (hc : 0 ≤ c ∧ c ≤ 255) :
    Calls Tryz.prog 68 #[.int .u8 c] w fun e w' => e = .returned (.bool (digitB c)) ∧ w = w' := by
  go_enter Tryz.func68, Tryz.ntmps68
  go_wp2
  all_goals (go_ret; exact ⟨ret_bool (by rw [Bool.eq_iff_iff]; simp [digitB]; omega), rfl⟩)

theorem inner_any (c : Int) (w : World) (hc : 0 ≤ c ∧ c ≤ 255) :
    Calls Tryz.prog 67 #[.int .u8 c] w fun e w' => e = .returned (.bool (innerB c)) ∧ w = w' := by
  go_enter Tryz.func67, Tryz.ntmps67
  go_wp2_with (first | (go_at_call 44; refine (letter_any _ _ hc).mono ?_; rintro e w' ⟨rfl, rfl⟩) | (go_at_call 68; refine (digit_any _ _ hc).mono ?_; rintro e w' ⟨rfl, rfl⟩))
  all_goals (go_ret; exact ⟨ret_bool (by simp [innerB, *]), rfl⟩)

theorem at_any (s : ByteArray) (i : Int) (k : Nat) (hi : i = k) (w : World) :
    Calls Tryz.prog 69 #[.string s, .int .i64 i] w fun e w' => e = .returned (.int .u8 (bt s k)) ∧ w = w' := by
  subst hi
  go_enter Tryz.func69, Tryz.ntmps69
  by_cases h : k < s.size
  · go_wp2
    go_ret
    exact ⟨ret_int (by rw [bt_of h]), rfl⟩
  · go_wp2
    go_ret
    exact ⟨ret_int (by rw [bt_ge h]), rfl⟩

def signs : ByteArray := ⟨#[43, 45, 42, 47, 92, 126, 60, 62, 61, 64, 37, 38, 63, 44, 33]⟩
theorem signs_yes : ∀ k, k < 15 → binaryB (bt signs k) = true := by decide +kernel
theorem signs_no (c : Int) (h : ∀ k, k < 15 → bt signs k ≠ c) : binaryB c = false := by
  have g : ∀ k v, k < 15 → bt signs k = v → c ≠ v := fun k v hk hv hc => h k hk (hv.trans hc.symm)
  have := g 0 43 (by omega) (by decide +kernel); have := g 1 45 (by omega) (by decide +kernel); have := g 2 42 (by omega) (by decide +kernel)
  have := g 3 47 (by omega) (by decide +kernel); have := g 4 92 (by omega) (by decide +kernel); have := g 5 126 (by omega) (by decide +kernel)
  have := g 6 60 (by omega) (by decide +kernel); have := g 7 62 (by omega) (by decide +kernel); have := g 8 61 (by omega) (by decide +kernel)
  have := g 9 64 (by omega) (by decide +kernel); have := g 10 37 (by omega) (by decide +kernel); have := g 11 38 (by omega) (by decide +kernel)
  have := g 12 63 (by omega) (by decide +kernel); have := g 13 44 (by omega) (by decide +kernel); have := g 14 33 (by omega) (by decide +kernel)
  simp [binaryB]; omega

theorem binary_any (c : Int) (w : World) (_hc : 0 ≤ c ∧ c ≤ 255) :
    Calls Tryz.prog 46 #[.int .u8 c] w fun e w' => e = .returned (.bool (binaryB c)) ∧ w = w' := by
  go_enter Tryz.func46, Tryz.ntmps46
  go_wp2
  rw [show ({ data := #[43, 45, 42, 47, 92, 126, 60, 62, 61, 64, 37, 38, 63, 44, 33] } : ByteArray) = signs from rfl]
  have hsz : signs.size = 15 := by decide +kernel
  have HSZ := Lib.hid hsz; clear hsz
  go_loop [4] (fun i => ∃ k : Nat, k ≤ 15 ∧ i = .int .i64 k ∧ ∀ j, j < k → bt signs j ≠ c) (fun i => 15 - (intOf i).toNat)
  case atStart => exact ⟨0, by omega, rfl, by omega⟩
  case round =>
    obtain ⟨k, hk, rfl, hno⟩ := hrel
    have HNO := Lib.hid hno; clear hno
    by_cases hlt : k < signs.size
    · have hle : k < 15 := by rw [HSZ.out] at hlt; exact hlt
      have hbt := (bt_of hlt).symm
      have hr := bt_range signs k
      by_cases hcc : bt signs k = c
      · have hcc' : (bt signs k == c) = true := by simpa using hcc
        have HCC := Lib.hid hcc; clear hcc
        go_wp2
        go_ret
        exact ⟨ret_bool (by rw [← HCC.out, signs_yes k hle]), rfl⟩
      · have hcc' : (bt signs k == c) = false := by simpa using hcc
        have HCC := Lib.hid hcc; clear hcc
        go_wp2
        go_round
        case rel => exact ⟨k + 1, by omega, by go_num, fun j hj => by
          by_cases e : j = k
          · subst e; exact HCC.out
          · exact HNO.out j (by omega)⟩
        case measure => simp [intOf]; omega
    · have hge : ¬ k < 15 := by rw [HSZ.out] at hlt; exact hlt
      go_wp2
      go_ret
      exact ⟨ret_bool (by rw [signs_no c (fun j hj => HNO.out j (by omega))]), rfl⟩

theorem over_any (s : ByteArray) (i : Int) (k : Nat) (hi : i = k) (hs : s.size ≤ 140737488355328) (hk : k ≤ s.size) (w : World) :
    Calls Tryz.prog 60 #[.string s, .int .i64 i] w fun e w' => e = .returned (.tuple #[.int .i64 (overE s k).1, .bool (overE s k).2]) ∧ w = w' := by
  subst hi
  go_enter Tryz.func60, Tryz.ntmps60
  go_wp2
  go_loop [1] (fun i => ∃ k' : Nat, k' ≤ s.size ∧ i = .int .i64 k' ∧ overE s k' = overE s k) (fun i => s.size - (intOf i).toNat)
  case atStart => exact ⟨k, hk, rfl, rfl⟩
  case round =>
    obtain ⟨j, hj, rfl, he⟩ := hrel
    have HE := Lib.hid he; clear he
    by_cases hlt : j < s.size
    · have hbt := (bt_of hlt).symm
      have hr := bt_range s j
      by_cases hb : blankB (bt s j) = true
      · have HB := Lib.hid hb
        have hb' : bt s j = 32 ∨ bt s j = 9 ∨ bt s j = 10 ∨ bt s j = 12 ∨ bt s j = 13 := by simpa [blankB] using hb
        clear hb
        rcases hb' with hb' | hb' | hb' | hb' | hb'
        all_goals
          go_wp2
          go_round
          case rel => exact ⟨j + 1, by omega, by go_num, by rw [← HE.out, overE.eq_1 s j, if_pos hlt, if_pos HB.out]⟩
          case measure => simp [intOf]; omega
      · have HB := Lib.hid hb
        have hb' : bt s j ≠ 32 ∧ bt s j ≠ 9 ∧ bt s j ≠ 10 ∧ bt s j ≠ 12 ∧ bt s j ≠ 13 := by simpa [blankB] using hb
        clear hb
        have b1 : (bt s j == 32) = false := by simpa using hb'.1
        have b2 : (bt s j == 9) = false := by simpa using hb'.2.1
        have b3 : (bt s j == 10) = false := by simpa using hb'.2.2.1
        have b4 : (bt s j == 12) = false := by simpa using hb'.2.2.2.1
        have b5 : (bt s j == 13) = false := by simpa using hb'.2.2.2.2
        clear hb'
        by_cases hq : bt s j = 34
        · have hq' : (bt s j == 34) = true := by simp [hq]
          have HQ := Lib.hid hq; clear hq
          go_wp2
          go_loop [7] (fun i => ∃ e : Nat, j + 1 ≤ e ∧ e ≤ s.size ∧ i = .int .i64 e ∧ runE restB s e = runE restB s (j + 1)) (fun i => s.size - (intOf i).toNat)
          case atStart => exact ⟨j + 1, by omega, by omega, by go_num, rfl⟩
          case round =>
            obtain ⟨e, he1, he2, rfl, hre⟩ := hrel
            have HRE := Lib.hid hre; clear hre
            clear hbt
            have hov : bt s j = 34 := HQ.out
            have HOV := Lib.hid hov; clear hov
            have fin : overE s j = if runE restB s (j + 1) < s.size then overE s (runE restB s (j + 1) + 1) else (j, false) := by
              rw [overE.eq_1 s j, if_pos hlt, if_neg HB.out, if_neg (by simp [HOV.out])]
            have FIN := Lib.hid fin; clear fin
            by_cases hlt2 : e < s.size
            · have hbt := (bt_of hlt2).symm
              have hr2 := bt_range s e
              by_cases hq2 : bt s e = 34
              · have hq3 : (bt s e == 34) = true := by simp [hq2]
                have HQ2 := Lib.hid hq2; clear hq2
                have hend : runE restB s (j + 1) = e := by rw [← HRE.out]; exact runE_stop hlt2 (by simp [restB, HQ2.out])
                have HEND := Lib.hid hend; clear hend
                have hne : ((e : Int) == (s.size : Int)) = false := by simp; omega
                go_wp2
                go_round
                case rel => exact ⟨e + 1, by omega, by go_num, by rw [← HE.out, FIN.out, HEND.out, if_pos hlt2]⟩
                case measure => simp [intOf]; omega
              · have hq3 : (bt s e == 34) = false := by simpa using hq2
                have HQ2 := Lib.hid hq2; clear hq2
                go_wp2
                go_round
                case rel => exact ⟨e + 1, by omega, by omega, by go_num, by rw [← HRE.out]; exact (runE_step hlt2 (by simp [restB, HQ2.out])).symm⟩
                case measure => simp [intOf]; omega
            · have hend : runE restB s (j + 1) = e := by rw [← HRE.out]; exact runE_end hlt2
              have HEND := Lib.hid hend; clear hend
              obtain rfl : e = s.size := by omega
              go_wp2
              go_ret2
              rw [← HE.out, FIN.out, HEND.out, if_neg (by omega)]
              exact ⟨rfl, rfl⟩
        · have hq' : (bt s j == 34) = false := by simpa using hq
          have HQ := Lib.hid hq; clear hq
          go_wp2
          go_ret2
          rw [← HE.out, overE, if_pos hlt, if_neg HB.out, if_pos HQ.out]
          exact ⟨rfl, rfl⟩
    · go_wp2
      go_ret2
      rw [← HE.out, overE, if_neg hlt]
      exact ⟨rfl, rfl⟩
end Pal.R14
