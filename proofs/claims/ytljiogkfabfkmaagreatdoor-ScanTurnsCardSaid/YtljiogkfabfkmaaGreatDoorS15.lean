/- scan.quoted. -/
import Derived.Test.YtljiogkfabfkmaaGreatDoorS13
import Derived.Test.YtljiogkfabfkmaaGreatDoorEnv
open Go Go.RowKit Go.Proofs
namespace Pal.S

def plainB (c : Int) : Bool := decide (c ≠ 39)
/-- the place behind a string's end, gone through from a place on; 0: it is not shut -/
def qEnd (s : ByteArray) (e : Nat) : Nat :=
  if runE plainB s e < s.size then (if bt s (runE plainB s e + 1) ≠ 39 then runE plainB s e + 1 else qEnd s (runE plainB s e + 2)) else 0
termination_by s.size - e
decreasing_by have := runE_ge plainB s e; omega
def unq (t : ByteArray) : ByteArray := ⟨(Lib.replaceAll t.data.toList [39, 39] [39]).toArray⟩
def quotedP (s : ByteArray) (k : Nat) : ByteArray × Nat := if qEnd s (k + 1) = 0 then (noText, 0) else (unq (s.extract (k + 1) (qEnd s (k + 1) - 1)), qEnd s (k + 1))

set_option maxHeartbeats 1000000 in
theorem quoted_any (s : ByteArray) (i : Int) (k : Nat) (hi : i = k) (hs : s.size ≤ 16384) (hk : k < s.size) (w : World) (he : Env w) :
    Calls Tryz.prog 77 #[.string s, .int .i64 i] w fun e w' => e = .returned (.tuple #[.string (quotedP s k).1, .int .i64 (quotedP s k).2]) ∧ Below w.heap.size w w' := by
  subst hi
  obtain ⟨m, hm⟩ := he.mlen
  go_enter Tryz.func77, Tryz.ntmps77
  go_wp2
  go_loop [6] (fun i => ∃ j : Nat, k + 1 ≤ j ∧ j ≤ s.size ∧ i = .int .i64 j ∧ qEnd s j = qEnd s (k + 1)) (fun i => s.size - (intOf i).toNat)
  case atStart => exact ⟨k + 1, by omega, by omega, by go_num, rfl⟩
  case round =>
    obtain ⟨j, hkj, hj, rfl, he⟩ := hrel
    have HE := Lib.hid he; clear he
    have hix := index_run 39 s j hj
    have hre : runE (fun x => decide (x ≠ ((39 : UInt8).toNat : Int))) s j = runE plainB s j := rfl
    rw [hre] at hix; clear hre
    have hcall := Tryz.strings_IndexByte (s.extract j s.size) 39
    simp only [show (39 : Int).toNat.toUInt8 = 39 from rfl] at hcall
    have hq := qEnd.eq_1 s j
    have hge := runE_ge plainB s j
    generalize runE plainB s j = r at *
    by_cases hlt : r < s.size
    · rw [if_pos hlt] at hix hq
      rw [hix] at hcall
      have HC := Lib.hid hcall; have HQ := Lib.hid hq; clear hcall hq hix
      have n1 : ¬ ((r - j : Nat) : Int) < 0 := by omega
      have n2 : (j : Int) + (((r - j : Nat) : Int) + 1) = ((r + 1 : Nat) : Int) := by omega
      by_cases h39 : bt s (r + 1) = 39
      · have b1 : (bt s (r + 1) != 39) = false := by simp [h39]
        have H39 := Lib.hid h39; clear h39
        have hr1 : r + 1 < s.size := by
          rcases Nat.lt_or_ge (r + 1) s.size with h | h
          · exact h
          · have := H39.out; rw [bt_ge (by omega)] at this; cases this
        go_wp2_with (first | (go_at_call 62; refine (HC.out _).mono ?_; rintro e w' ⟨rfl, rfl⟩) | (go_at_call 64; refine (peek_any s _ (r + 1) (by omega) _).mono ?_; rintro e w' ⟨rfl, rfl⟩))
        go_round
        case rel => exact ⟨r + 2, by omega, by omega, congrArg _ (by omega), by rw [← HE.out, HQ.out, if_neg (by simp [H39.out])]⟩
        case measure => simp [intOf]; omega
      · have b1 : (bt s (r + 1) != 39) = true := by simpa using h39
        have hfin : qEnd s (k + 1) = r + 1 := by rw [← HE.out, HQ.out, if_pos h39]
        have hres : quotedP s k = (unq (s.extract (k + 1) r), r + 1) := by unfold quotedP; rw [hfin, if_neg (by omega)]; rfl
        clear h39
        have hrep : ∀ w : World, w.cell? ⟨1, 0, none⟩ = some (.int .i64 m) → Calls Tryz.prog 102 #[.string (s.extract (k + 1) r), .string ⟨#[39, 39]⟩, .string ⟨#[39]⟩] w fun e w' => e = .returned (.string (unq (s.extract (k + 1) r))) ∧ Below w.heap.size w w' := fun w hm =>
          Tryz.strings_ReplaceAll (s.extract (k + 1) r) ⟨#[39, 39]⟩ ⟨#[39]⟩ m w (by simp; omega) hm (by decide) (by
            have := Lib.countB_le ⟨#[39, 39]⟩ (by decide) _ (s.extract (k + 1) r) (Nat.le_refl _)
            simp at this ⊢
            rw [show (⟨#[39]⟩ : ByteArray).size = 1 from rfl]
            omega)
        have HREP := Lib.hid hrep; have HRES := Lib.hid hres; clear hrep hres hfin
        go_wp2_with (first | (go_at_call 62; refine (HC.out _).mono ?_; rintro e w' ⟨rfl, rfl⟩) | (go_at_call 64; refine (peek_any s _ (r + 1) (by omega) _).mono ?_; rintro e w' ⟨rfl, rfl⟩) | (go_at_call 102; refine (HREP.out _ hm).mono ?_; rintro e w' ⟨rfl, hb⟩))
        go_ret2
        refine ⟨?_, hb⟩
        rw [HRES.out]
        simp
    · rw [if_neg hlt] at hix hq
      rw [hix] at hcall
      have HC := Lib.hid hcall; have HQ := Lib.hid hq; clear hcall hq hix
      go_wp2_with (first | (go_at_call 62; refine (HC.out _).mono ?_; rintro e w' ⟨rfl, rfl⟩))
      go_ret2
      have hres : quotedP s k = (noText, 0) := by unfold quotedP; rw [← HE.out, HQ.out, if_pos rfl]
      exact ⟨by rw [hres]; rfl, Below.refl _ _⟩
end Pal.S
