/- pieces of a text behind each colon; an index of a byte by places. -/
import Derived.Test.YtljiogkfabfkmaaGreatDoorScanM
import Derived.Lib.Bytealg
open Go Go.RowKit
namespace Pal

theorem data_drop (s : ByteArray) (i : Nat) : (s.extract i s.size).data.toList = s.data.toList.drop i := by
  rw [ByteArray.data_extract, Array.toList_extract, List.extract_eq_take_drop]
  exact List.take_of_length_le (by rw [List.length_drop, Array.length_toList]; exact Nat.le_refl _)

theorem drop_bt {s : ByteArray} {i : Nat} (h : i < s.size) : s.data.toList.drop i = s[i] :: s.data.toList.drop (i + 1) := by
  rw [List.drop_eq_getElem_cons (by rw [Array.length_toList]; exact h)]
  simp [ByteArray.getElem_eq_getElem_data]

/-- the first place from one on where a byte stands -/
theorem index_run (c : UInt8) (s : ByteArray) (i : Nat) (hi : i ≤ s.size) :
    Lib.indexByte (s.extract i s.size).data.toList c = if runE (fun x => decide (x ≠ c.toNat)) s i < s.size then ((runE (fun x => decide (x ≠ c.toNat)) s i - i : Nat) : Int) else -1 := by
  rw [data_drop]
  fun_induction runE (fun x => decide (x ≠ c.toNat)) s i with
  | case1 i h hp ih =>
    rw [drop_bt h, Lib.indexByte, ih (by omega)]
    have hne : (s[i] == c) = false := by
      rw [bt_of h] at hp
      simp at hp ⊢
      intro e; exact hp (by rw [e])
    rw [hne]
    have hge := runE_ge (fun x => decide (x ≠ c.toNat)) s (i + 1)
    by_cases hlt : runE (fun x => decide (x ≠ c.toNat)) s (i + 1) < s.size
    · simp only [if_pos hlt]
      rw [if_neg (by simp), if_neg (by simp; try omega)]
      omega
    · simp only [if_neg hlt]
      simp
  | case2 i h hp =>
    rw [drop_bt h, Lib.indexByte]
    have he : (s[i] == c) = true := by
      rw [bt_of h] at hp
      simp at hp ⊢
      exact UInt8.toNat_inj.1 (by omega)
    rw [he, if_pos rfl, if_pos h]
    simp
  | case3 i h =>
    rw [List.drop_eq_nil_of_le (by rw [Array.length_toList]; exact Nat.le_of_not_lt h)]
    rw [if_neg h]
    rfl

/-- the places behind which a text is parted: up to a colon, and it; the last piece goes to the end -/
def pieces (s : ByteArray) (i : Nat) : List ByteArray :=
  if runE (fun x => decide (x ≠ 58)) s i < s.size then s.extract i (runE (fun x => decide (x ≠ 58)) s i + 1) :: pieces s (runE (fun x => decide (x ≠ 58)) s i + 1) else [s.extract i s.size]
termination_by s.size - i
decreasing_by have := runE_ge (fun x => decide (x ≠ 58)) s i; omega

/-- what the arity is of pieces -/
def arityL : List ByteArray → Nat → Int
  | [], n => n
  | p :: l, n => if p.size = 0 then n else if bt p (p.size - 1) = 58 ∧ nameB (p.extract 0 (p.size - 1)) = true then arityL l (n + 1) else -1
end Pal
