/- scan's small functions come to the models. -/
import Derived.Test.YtljiogkfabfkmaaGreatDoorProg
import Derived.Test.YtljiogkfabfkmaaGreatDoorShelf
import Derived.Test.YtljiogkfabfkmaaGreatDoorScanM
import Derived.Laws.Closers25b
open Go Go.RowKit Go.Proofs
namespace Pal.S

theorem letter_any (c : Int) (w : World) (hc : 0 ≤ c ∧ c ≤ 255) :
    Calls Tryz.prog 37 #[.int .u8 c] w fun e w' => e = .returned (.bool (letterB c)) ∧ w = w' := by
  go_enter Tryz.func37, Tryz.ntmps37
  go_wp2
  all_goals (go_ret; exact ⟨ret_bool (by rw [Bool.eq_iff_iff]; simp [letterB]; omega), rfl⟩)

theorem digit_any (c : Int) (w : World) (hc : 0 ≤ c ∧ c ≤ 255) :
    Calls Tryz.prog 53 #[.int .u8 c] w fun e w' => e = .returned (.bool (digitB c)) ∧ w = w' := by
  go_enter Tryz.func53, Tryz.ntmps53
  go_wp2
  all_goals (go_ret; exact ⟨ret_bool (by rw [Bool.eq_iff_iff]; simp [digitB]; omega), rfl⟩)

theorem inner_any (c : Int) (w : World) (hc : 0 ≤ c ∧ c ≤ 255) :
    Calls Tryz.prog 39 #[.int .u8 c] w fun e w' => e = .returned (.bool (innerB c)) ∧ w = w' := by
  go_enter Tryz.func39, Tryz.ntmps39
  go_wp2_with (first | (go_at_call 37; refine (letter_any _ _ hc).mono ?_; rintro e w' ⟨rfl, rfl⟩) | (go_at_call 53; refine (digit_any _ _ hc).mono ?_; rintro e w' ⟨rfl, rfl⟩))
  all_goals (go_ret; exact ⟨ret_bool (by simp [innerB, *]), rfl⟩)

theorem peek_any (s : ByteArray) (i : Int) (k : Nat) (hi : i = k) (w : World) :
    Calls Tryz.prog 64 #[.string s, .int .i64 i] w fun e w' => e = .returned (.int .u8 (bt s k)) ∧ w = w' := by
  subst hi
  go_enter Tryz.func64, Tryz.ntmps64
  by_cases h : k < s.size
  · go_wp2
    go_ret
    exact ⟨ret_int (by rw [bt_of h]), rfl⟩
  · go_wp2
    go_ret
    exact ⟨ret_int (by rw [bt_ge h]), rfl⟩

theorem signs_index : ∀ n : Nat, n < 256 → decide (0 ≤ Lib.indexByte [43, 45, 42, 47, 92, 126, 60, 62, 61, 64, 37, 38, 63, 44, 33] n.toUInt8) = binaryB (n : Int) := by decide +kernel

theorem binary_any (c : Int) (w : World) (hc : 0 ≤ c ∧ c ≤ 255) :
    Calls Tryz.prog 40 #[.int .u8 c] w fun e w' => e = .returned (.bool (binaryB c)) ∧ w = w' := by
  have h := signs_index c.toNat (by omega)
  rw [Int.toNat_of_nonneg hc.1] at h
  go_enter Tryz.func40, Tryz.ntmps40
  go_wp2_with (go_at_call 62; refine (Tryz.strings_IndexByte _ _ _).mono ?_; rintro e w' ⟨rfl, rfl⟩)
  go_ret
  exact ⟨ret_bool (by rw [← h]), rfl⟩

/-- a place gone on to as long as a test by places holds -/
def runP (p : Nat → Bool) (n i : Nat) : Nat := if i < n then (if p i then runP p n (i + 1) else i) else i
termination_by n - i
theorem runP_ge (p : Nat → Bool) (n i : Nat) : i ≤ runP p n i := by
  fun_induction runP p n i <;> omega
theorem runP_E (q : Int → Bool) (s : ByteArray) (i : Nat) : runP (fun j => q (bt s j)) s.size i = runE q s i := by
  fun_induction runE q s i with
  | case1 i h hp ih => rw [runP, if_pos h, if_pos hp, ih]
  | case2 i h hp => rw [runP, if_pos h, if_neg hp]
  | case3 i h => rw [runP, if_neg h]

theorem run_inv (g : Nat) (lb : Array Value) (eg : ∀ args w, (callFunc g args).run Tryz.prog w = .ok (.enter g args) w) (s : ByteArray) (i : Int) (k : Nat) (hi : i = k) (hs : s.size ≤ 140737488355328) (hk : k ≤ s.size)
    (p : Nat → Bool) (I : Nat → World → Prop) (hstep : ∀ j W, k ≤ j → j < s.size → I j W → Calls Tryz.prog g (#[.int .u8 (bt s j)] ++ lb) W fun e w' => e = .returned (.bool (p j)) ∧ I (j + 1) w') (w : World) (hI : I k w) :
    Calls Tryz.prog 38 #[.string s, .int .i64 i, .func (.func g) #[] lb] w fun e w' => e = .returned (.int .i64 (runP p s.size k)) ∧ ∃ j, I j w' := by
  subst hi
  have HS := Lib.hid hstep; clear hstep
  have HI := Lib.hid hI; clear hI
  go_enter Tryz.func38, Tryz.ntmps38
  go_wp2
  go_loopw [1] (fun i wr => ∃ j : Nat, k ≤ j ∧ j ≤ s.size ∧ i = .int .i64 j ∧ I j wr ∧ runP p s.size j = runP p s.size k) (fun i _ => s.size - (intOf i).toNat)
  case atStart => exact ⟨k, Nat.le_refl _, hk, rfl, HI.out, rfl⟩
  case round =>
    obtain ⟨j, hkj, hj, rfl, hI, he⟩ := hrel
    have HE := Lib.hid he; clear he
    have HI := Lib.hid hI; clear hI
    by_cases hlt : j < s.size
    · have hbt := (bt_of hlt).symm
      have hcall := HS.out j wr hkj hlt HI.out
      have HC := Lib.hid hcall; clear hcall
      cases hp : p j
      · have HP := Lib.hid hp
        rw [hp] at HC
        go_wp2_with (go_at_fn g; refine HC.out.mono ?_; rintro e w' ⟨rfl, hI'⟩; have HI' := Lib.hid hI'; clear hI')
        go_ret
        exact ⟨ret_int (by rw [← HE.out, runP, if_pos hlt, if_neg (by simp [HP.out])]), _, HI'.out⟩
      · have HP := Lib.hid hp
        rw [hp] at HC
        go_wp2_with (go_at_fn g; refine HC.out.mono ?_; rintro e w' ⟨rfl, hI'⟩; have HI' := Lib.hid hI'; clear hI')
        go_roundw
        case rel => exact ⟨j + 1, by omega, by omega, by go_num, HI'.out, by rw [← HE.out, eq_comm, runP, if_pos hlt, if_pos HP.out]⟩
        case measure => simp [intOf]; omega
    · go_wp2
      go_ret
      exact ⟨ret_int (by rw [← HE.out, runP, if_neg hlt]), _, HI.out⟩

theorem run_pure (g : Nat) (eg : ∀ args w, (callFunc g args).run Tryz.prog w = .ok (.enter g args) w) (q : Int → Bool) (hq : ∀ c w, 0 ≤ c ∧ c ≤ 255 → Calls Tryz.prog g #[.int .u8 c] w fun e w' => e = .returned (.bool (q c)) ∧ w = w')
    (s : ByteArray) (i : Int) (k : Nat) (hi : i = k) (hs : s.size ≤ 140737488355328) (hk : k ≤ s.size) (w : World) :
    Calls Tryz.prog 38 #[.string s, .int .i64 i, .func (.func g) #[] #[]] w fun e w' => e = .returned (.int .i64 (runE q s k)) ∧ w = w' := by
  refine (run_inv g #[] eg s i k hi hs hk (fun j => q (bt s j)) (fun _ W => w = W) (fun j W _ _ h => ?_) w rfl).mono ?_
  · subst h
    exact hq _ _ (bt_range s j)
  · rintro e w' ⟨rfl, _, rfl⟩
    exact ⟨by rw [runP_E], rfl⟩

theorem run_inner (s : ByteArray) (i : Int) (k : Nat) (hi : i = k) (hs : s.size ≤ 140737488355328) (hk : k ≤ s.size) (w : World) :
    Calls Tryz.prog 38 #[.string s, .int .i64 i, .func (.func 39) #[] #[]] w fun e w' => e = .returned (.int .i64 (runE innerB s k)) ∧ w = w' :=
  run_pure 39 (enters_of Tryz.func39 (by kernel_rfl) rfl) innerB (fun c w h => inner_any c w h) s i k hi hs hk w
theorem run_digit (s : ByteArray) (i : Int) (k : Nat) (hi : i = k) (hs : s.size ≤ 140737488355328) (hk : k ≤ s.size) (w : World) :
    Calls Tryz.prog 38 #[.string s, .int .i64 i, .func (.func 53) #[] #[]] w fun e w' => e = .returned (.int .i64 (runE digitB s k)) ∧ w = w' :=
  run_pure 53 (enters_of Tryz.func53 (by kernel_rfl) rfl) digitB (fun c w h => digit_any c w h) s i k hi hs hk w

theorem nil_iff {s : ByteArray} : s.toList = [] ↔ s.size = 0 := by
  rw [toList_nil_iff_emptyBytes]
  constructor
  · rintro rfl; rfl
  · intro h; exact ByteArray.ext (Array.eq_empty_of_size_eq_zero h)

theorem Name_any (s : ByteArray) (hs : s.size ≤ 140737488355328) (w : World) :
    Calls Tryz.prog 20 #[.string s] w fun e w' => e = .returned (.bool (nameB s)) ∧ w = w' := by
  go_enter Tryz.func20, Tryz.ntmps20
  by_cases h0 : 0 < s.size
  · have hbt := (bt_of h0).symm
    have hr := bt_range s 0
    have hl : ¬ s.toList = [] := by rw [nil_iff]; omega
    go_wp2_with (first | (go_at_call 37; refine (letter_any _ _ hr).mono ?_; rintro e w' ⟨rfl, rfl⟩) | (go_at_call 38; refine (run_inner s _ 0 (by omega) hs (by omega) _).mono ?_; rintro e w' ⟨rfl, rfl⟩))
    all_goals (go_ret; exact ⟨ret_bool (by first | (simp_all [nameB]; done) | (rw [Bool.eq_iff_iff]; simp [nameB, *]; omega)), rfl⟩)
  · have hl : s.toList = [] := by rw [nil_iff]; omega
    go_wp2
    go_ret
    exact ⟨ret_bool (by simp [nameB]; omega), rfl⟩
end Pal.S
