/- scan.sign: a closure that counts. -/
import Derived.Test.YtljiogkfabfkmaaGreatDoorS1
open Go Go.RowKit Go.Proofs
namespace Pal.S

def signP (s : ByteArray) (k j : Nat) : Bool := binaryB (bt s j) && (j == k || bt s j != 45 || !digitB (bt s (j + 1)))

/-- the closure's three variables, and what they hold -/
structure SignI (s : ByteArray) (k n : Nat) (w0 : World) (j : Nat) (w : World) : Prop where
  cs : w.cell? ⟨n, 0, none⟩ = some (.string s)
  ca : w.cell? ⟨n + 1, 0, none⟩ = some (.int .i64 j)
  cf : w.cell? ⟨n + 2, 0, none⟩ = some (.int .i64 k)
  fa : w.frozen? ⟨n + 1, 0, none⟩ = false
  below : Below n w0 w

theorem SignI.next {s : ByteArray} {k n : Nat} {w0 : World} {j : Nat} {w : World} (h : SignI s k n w0 j w) : SignI s k n w0 (j + 1) (w.setCell ⟨n + 1, 0, none⟩ (.int .i64 (j + 1 : Int))) := by
  obtain ⟨h1, h2, h3, h4, h5⟩ := h
  refine ⟨?_, ?_, ?_, ?_, (by repeat (first | with_reducible exact Below.refl _ _ | with_reducible exact h5 | (with_reducible refine Below.alloc ?_ ?_ _; rotate_left 1; (focus (first | omega | (simp; done) | (simp; omega)))) | (with_reducible refine Below.setCell ?_ ?_ _; rotate_left 1; (focus (first | omega | (simp; done) | (simp; omega)))) | with_reducible refine Below.drew ?_ | with_reducible refine below_drewN ?_ _))⟩
  · rw [World.cell?_setCell_other]; exact h1; simp
  · have e : ((j : Int) + 1) = ((j + 1 : Nat) : Int) := by omega
    rw [World.cell?_setCell_same _ _ _ h2, e]
  · rw [World.cell?_setCell_other]; exact h3; simp
  · simpa using h4

theorem sign1_any (s : ByteArray) (k n j : Nat) (w0 w : World) (hs : s.size ≤ 140737488355328) (hkj : k ≤ j) (hj : j < s.size) (h : SignI s k n w0 j w) :
    Calls Tryz.prog 63 #[.int .u8 (bt s j), .pointer (some ⟨n + 1, 0, none⟩), .pointer (some ⟨n + 2, 0, none⟩), .pointer (some ⟨n, 0, none⟩)] w fun e w' => e = .returned (.bool (signP s k j)) ∧ SignI s k n w0 (j + 1) w' := by
  have hn := Lib.hid h.next
  obtain ⟨h1, h2, h3, h4, h5⟩ := h
  clear h5
  have hr := bt_range s j
  have hr1 := bt_range s (j + 1)
  have hw : ∀ x : World, Hid (SignI s k n w0 (j + 1) x) → SignI s k n w0 (j + 1) x := fun _ h => h.out
  cases hc1 : binaryB (bt s j)
  · have hv : signP s k j = false := by simp [signP, hc1]
    rw [hv]; clear hv
    go_enter Tryz.func63, Tryz.ntmps63
    go_wp2_with (first | (go_at_call 40; refine (binary_any _ _ hr).mono ?_; rintro e w' ⟨rfl, rfl⟩))
    go_ret
    exact ⟨rfl, hw _ hn⟩
  · by_cases hc2 : j = k
    · subst hc2
      have hv : signP s j j = true := by simp [signP, hc1]
      rw [hv]; clear hv
      go_enter Tryz.func63, Tryz.ntmps63
      go_wp2_with (first | (go_at_call 40; refine (binary_any _ _ hr).mono ?_; rintro e w' ⟨rfl, rfl⟩))
      go_ret
      exact ⟨rfl, hw _ hn⟩
    · have hc2' : ((j : Int) == (k : Int)) = false := by simp; omega
      have hc2'' : (j == k) = false := by simpa using hc2
      by_cases hc3 : bt s j = 45
      · have hv : signP s k j = !digitB (bt s (j + 1)) := by unfold signP; rw [hc1, hc2'', hc3]; rfl
        have hc3' : (bt s j != 45) = false := by simp [hc3]
        have hc3'' : (bt s j == 45) = true := by simp [hc3]
        rw [hv]; clear hv hc2
        have HC3 := Lib.hid hc3; clear hc3
        go_enter Tryz.func63, Tryz.ntmps63
        go_wp2_with (first | (go_at_call 40; refine (binary_any _ _ hr).mono ?_; rintro e w' ⟨rfl, rfl⟩) | (go_at_call 53; refine (digit_any _ _ hr1).mono ?_; rintro e w' ⟨rfl, rfl⟩) | (go_at_call 64; refine (peek_any s _ (j + 1) (by omega) _).mono ?_; rintro e w' ⟨rfl, rfl⟩))
        go_ret
        exact ⟨by first | rfl | (simp; done), hw _ hn⟩
      · have hv : signP s k j = true := by simp [signP, hc1, hc2'', hc3]
        have hc3' : (bt s j != 45) = true := by simpa using hc3
        have hc3'' : (bt s j == 45) = false := by simpa using hc3
        rw [hv]; clear hv hc2 hc3
        go_enter Tryz.func63, Tryz.ntmps63
        go_wp2_with (first | (go_at_call 40; refine (binary_any _ _ hr).mono ?_; rintro e w' ⟨rfl, rfl⟩) | (go_at_call 53; refine (digit_any _ _ hr1).mono ?_; rintro e w' ⟨rfl, rfl⟩) | (go_at_call 64; refine (peek_any s _ (j + 1) (by omega) _).mono ?_; rintro e w' ⟨rfl, rfl⟩))
        go_ret
        exact ⟨rfl, hw _ hn⟩
end Pal.S
