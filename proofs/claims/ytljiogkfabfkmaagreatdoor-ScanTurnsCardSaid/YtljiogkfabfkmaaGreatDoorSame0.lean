/- palaverref00.SameLit of literals without items. -/
import Derived.Test.YtljiogkfabfkmaaGreatDoorProg
import Derived.Test.YtljiogkfabfkmaaGreatDoorOwn
open Go Go.RowKit Go.Proofs
namespace Pal.R00

theorem text_ne {t t' : ByteArray} (h : t ≠ t') : (t.toList == t'.toList) = false := by
  rw [Bool.eq_false_iff, ne_eq, beq_iff_eq]
  intro e
  apply h
  rw [ByteArray.toList_eq, ByteArray.toList_eq] at e
  exact ByteArray.ext (Array.toList_inj.1 e)

set_option maxHeartbeats 1000000 in
theorem same_eq (k n b : Int) (t : ByteArray) (a a' : Option Addr) (c c' : Nat) (w : World) :
    Calls Tryz.prog 25 #[.agg #[.int .u8 k, .int .i64 n, .int .u64 b, .string t, .slice a 0 c], .agg #[.int .u8 k, .int .i64 n, .int .u64 b, .string t, .slice a' 0 c']] w fun e w' => e = .returned (.bool true) ∧ Below w.heap.size w w' := by
  have h1 : (t.toList == t.toList) = true := by simp
  have h2 : (t.toList != t.toList) = false := by simp
  go_enter Tryz.func25, Tryz.ntmps25
  go_wp2
  go_loop [5] (fun i => i = .int .i64 0) (fun _ => 0)
  case atStart => rfl
  case round =>
    obtain rfl := hrel
    go_wp2
    go_ret
    exact ⟨rfl, (by repeat (first | with_reducible exact Below.refl _ _ | (with_reducible refine Below.alloc ?_ ?_ _; rotate_left 1; (focus (first | omega | (simp; done) | (simp; omega)))) | (with_reducible refine Below.setCell ?_ ?_ _; rotate_left 1; (focus (first | omega | (simp; done) | (simp; omega)))) | with_reducible refine Below.drew ?_ | with_reducible refine below_drewN ?_ _))⟩

set_option maxHeartbeats 1000000 in
theorem same_ne (k n b k' n' b' : Int) (t t' : ByteArray) (a a' : Option Addr) (c c' : Nat) (h : ¬ (k = k' ∧ n = n' ∧ b = b' ∧ t = t')) (w : World) :
    Calls Tryz.prog 25 #[.agg #[.int .u8 k, .int .i64 n, .int .u64 b, .string t, .slice a 0 c], .agg #[.int .u8 k', .int .i64 n', .int .u64 b', .string t', .slice a' 0 c']] w fun e w' => e = .returned (.bool false) ∧ Below w.heap.size w w' := by
  by_cases hk : k = k'
  · subst hk
    by_cases hn : n = n'
    · subst hn
      by_cases hb : b = b'
      · subst hb
        have ht : t ≠ t' := fun e => h ⟨rfl, rfl, rfl, e⟩
        have h1 := text_ne ht
        have h2 : (t.toList != t'.toList) = true := by rw [bne, h1]; rfl
        clear h
        go_enter Tryz.func25, Tryz.ntmps25
        go_wp2
        go_ret
        exact ⟨rfl, (by repeat (first | with_reducible exact Below.refl _ _ | (with_reducible refine Below.alloc ?_ ?_ _; rotate_left 1; (focus (first | omega | (simp; done) | (simp; omega)))) | (with_reducible refine Below.setCell ?_ ?_ _; rotate_left 1; (focus (first | omega | (simp; done) | (simp; omega)))) | with_reducible refine Below.drew ?_ | with_reducible refine below_drewN ?_ _))⟩
      · have h1 : (b == b') = false := by simpa using hb
        have h2 : (b != b') = true := by simpa using hb
        clear h
        go_enter Tryz.func25, Tryz.ntmps25
        go_wp2
        go_ret
        exact ⟨rfl, (by repeat (first | with_reducible exact Below.refl _ _ | (with_reducible refine Below.alloc ?_ ?_ _; rotate_left 1; (focus (first | omega | (simp; done) | (simp; omega)))) | (with_reducible refine Below.setCell ?_ ?_ _; rotate_left 1; (focus (first | omega | (simp; done) | (simp; omega)))) | with_reducible refine Below.drew ?_ | with_reducible refine below_drewN ?_ _))⟩
    · have h1 : (n == n') = false := by simpa using hn
      have h2 : (n != n') = true := by simpa using hn
      clear h
      go_enter Tryz.func25, Tryz.ntmps25
      go_wp2
      go_ret
      exact ⟨rfl, (by repeat (first | with_reducible exact Below.refl _ _ | (with_reducible refine Below.alloc ?_ ?_ _; rotate_left 1; (focus (first | omega | (simp; done) | (simp; omega)))) | (with_reducible refine Below.setCell ?_ ?_ _; rotate_left 1; (focus (first | omega | (simp; done) | (simp; omega)))) | with_reducible refine Below.drew ?_ | with_reducible refine below_drewN ?_ _))⟩
  · have h1 : (k == k') = false := by simpa using hk
    have h2 : (k != k') = true := by simpa using hk
    clear h
    go_enter Tryz.func25, Tryz.ntmps25
    go_wp2
    go_ret
    exact ⟨rfl, (by repeat (first | with_reducible exact Below.refl _ _ | (with_reducible refine Below.alloc ?_ ?_ _; rotate_left 1; (focus (first | omega | (simp; done) | (simp; omega)))) | (with_reducible refine Below.setCell ?_ ?_ _; rotate_left 1; (focus (first | omega | (simp; done) | (simp; omega)))) | with_reducible refine Below.drew ?_ | with_reducible refine below_drewN ?_ _))⟩
end Pal.R00
