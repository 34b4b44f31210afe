/- Plain law of strings' content: ReplaceAll of two quotes by one is the content gone through. -/
import Derived.Test.YtljiogkfabfkmaaGreatDoorS15
open Go
namespace Pal.S

/-- two quotes, one behind the other, are one -/
def pairs : List UInt8 → List UInt8
  | [] => []
  | [c] => [c]
  | c :: d :: r => if c = 39 ∧ d = 39 then 39 :: pairs r else c :: pairs (d :: r)

theorem pairs_ne {c : UInt8} (h : c ≠ 39) (r : List UInt8) : pairs (c :: r) = c :: pairs r := by
  cases r with
  | nil => rfl
  | cons d r => rw [pairs, if_neg (fun e => h e.1)]
theorem pairs_two (r : List UInt8) : pairs (39 :: 39 :: r) = 39 :: pairs r := by rw [pairs, if_pos ⟨rfl, rfl⟩]

theorem prefix_two (c d : UInt8) (r : List UInt8) : ([39, 39] : List UInt8).isPrefixOf (c :: d :: r) = decide (c = 39 ∧ d = 39) := by
  rw [Bool.eq_iff_iff]
  simp [List.isPrefixOf]
  constructor
  · rintro ⟨h1, h2⟩; exact ⟨h1.symm, h2.symm⟩
  · rintro ⟨h1, h2⟩; exact ⟨h1.symm, h2.symm⟩
theorem index_one (c : UInt8) : Lib.index [c] [39, 39] = -1 := by simp [Lib.index, List.isPrefixOf]
theorem index_nil : Lib.index [] [39, 39] = -1 := by simp [Lib.index]

theorem pairs_miss (l : List UInt8) (h : Lib.index l [39, 39] = -1) : pairs l = l := by
  induction l with
  | nil => rfl
  | cons c r ih =>
    cases r with
    | nil => rfl
    | cons d r =>
      rw [Lib.index, prefix_two] at h
      by_cases hp : c = 39 ∧ d = 39
      · rw [if_pos (by simpa using hp)] at h; cases h
      · rw [if_neg (by simpa using hp)] at h
        rw [pairs, if_neg hp, ih]
        split at h
        · rename_i h1; exact beq_iff_eq.1 h1
        · have := Lib.index_ge (d :: r) [39, 39]; omega

theorem pairs_hit (l : List UInt8) : ∀ i : Nat, Lib.index l [39, 39] = i → pairs l = l.take i ++ [39] ++ pairs (l.drop (i + 2)) := by
  induction l with
  | nil => intro i h; rw [index_nil] at h; omega
  | cons c r ih =>
    intro i h
    cases r with
    | nil => rw [index_one] at h; omega
    | cons d r =>
      rw [Lib.index, prefix_two] at h
      by_cases hp : c = 39 ∧ d = 39
      · rw [if_pos (by simpa using hp)] at h
        have : i = 0 := by omega
        subst this
        rw [pairs, if_pos hp]; rfl
      · rw [if_neg (by simpa using hp)] at h
        split at h
        · omega
        · rename_i h1
          have h2 : Lib.index (d :: r) [39, 39] ≠ -1 := fun e => h1 (by rw [e]; rfl)
          have h3 := Lib.index_ge (d :: r) [39, 39]
          obtain ⟨j, rfl⟩ : ∃ j, i = j + 1 := ⟨i - 1, by omega⟩
          rw [pairs, if_neg hp, ih j (by omega)]
          rfl

theorem replaceK_pairs : ∀ (k : Nat) (l : List UInt8), Lib.count l [39, 39] ≤ k → Lib.replaceK [39, 39] [39] k l = pairs l := by
  intro k
  induction k with
  | zero =>
    intro l h
    by_cases hm : Lib.index l [39, 39] = -1
    · rw [pairs_miss l hm]; rfl
    · exfalso
      have hge := Lib.index_ge l [39, 39]
      have := Lib.count_hit (s := l) (sub := [39, 39]) (i := (Lib.index l [39, 39]).toNat) (by simp) (by omega)
      omega
  | succ k ih =>
    intro l h
    by_cases hm : Lib.index l [39, 39] = -1
    · rw [pairs_miss l hm, Lib.replaceK, if_pos (beq_iff_eq.2 hm)]
    · have hge := Lib.index_ge l [39, 39]
      have hi : Lib.index l [39, 39] = ((Lib.index l [39, 39]).toNat : Nat) := by omega
      have hc := Lib.count_hit (i := (Lib.index l [39, 39]).toNat) (by simp) hi
      rw [Lib.replaceK_hit _ _ _ _ _ hi, pairs_hit l _ hi]
      rw [show ([39, 39] : List UInt8).length = 2 from rfl] at hc ⊢
      rw [ih _ (by omega)]

theorem replace_pairs (l : List UInt8) : Lib.replaceAll l [39, 39] [39] = pairs l := by
  unfold Lib.replaceAll Lib.replace
  rw [if_neg (by decide)]
  refine replaceK_pairs _ l ?_
  unfold Lib.replaceNum
  rw [if_pos (.inl (by decide))]
  exact Nat.le_refl _

theorem pairs_le (n : Nat) : ∀ l : List UInt8, l.length ≤ n → (pairs l).length ≤ l.length := by
  induction n with
  | zero => intro l h; cases l with
    | nil => exact Nat.le_refl _
    | cons c r => simp at h
  | succ n ih =>
    intro l h
    cases l with
    | nil => exact Nat.le_refl _
    | cons c r =>
      cases r with
      | nil => exact Nat.le_refl _
      | cons d r =>
        simp only [List.length_cons] at h
        rw [pairs]
        split
        · have := ih r (by omega)
          simp only [List.length_cons]; omega
        · have := ih (d :: r) (by simp only [List.length_cons]; omega)
          simp only [List.length_cons] at this ⊢; omega

theorem unq_list (t : ByteArray) : (unq t).data.toList = pairs t.data.toList := by
  unfold unq; rw [replace_pairs]
theorem unq_size (t : ByteArray) : (unq t).size ≤ t.size := by
  have h := pairs_le _ t.data.toList (Nat.le_refl _)
  rw [← unq_list, Array.length_toList, Array.length_toList] at h
  exact h

/-- a string's content, told in two ways -/
theorem quotedA_is (s : ByteArray) (k : Nat) (acc : ByteArray) : (quotedA s k acc).2 = qEnd s k ∧
    (qEnd s k ≠ 0 → k + 1 ≤ qEnd s k ∧ (quotedA s k acc).1.data.toList = acc.data.toList ++ pairs ((s.data.toList.drop k).take (qEnd s k - 1 - k))) := by
  fun_induction quotedA s k acc with
  | case1 k acc h1 h2 ih =>
    have hq : qEnd s k = qEnd s (k + 1) := by
      have hr : runE plainB s k = runE plainB s (k + 1) := runE_step h1 (by simpa [plainB] using h2)
      rw [qEnd.eq_1 s k, hr, ← qEnd.eq_1 s (k + 1)]
    rw [hq]
    refine ⟨ih.1, fun h0 => ?_⟩
    obtain ⟨h3, h4⟩ := ih.2 h0
    refine ⟨by omega, ?_⟩
    rw [h4, ByteArray.data_append, Array.toList_append, drop_bt h1, show qEnd s (k + 1) - 1 - k = (qEnd s (k + 1) - 1 - (k + 1)) + 1 by omega, List.take_succ_cons]
    have hne : s[k] ≠ 39 := by
      intro e; rw [bt_of h1, e] at h2; exact h2 rfl
    rw [pairs_ne hne, List.append_assoc]
    congr 1
    have : (s.extract k (k + 1)).data.toList = [s[k]] := by
      rw [ByteArray.data_extract, Array.toList_extract, List.extract_eq_take_drop, drop_bt h1, show k + 1 - k = 1 by omega]; rfl
    rw [this]; rfl
  | case2 k acc h1 h2 h3 =>
    have h2' : bt s k = 39 := by simpa using h2
    have hq : qEnd s k = k + 1 := by
      have hr : runE plainB s k = k := runE_stop h1 (by simp [plainB, h2'])
      rw [qEnd, hr, if_pos h1, if_pos h3]
    rw [hq]
    refine ⟨rfl, fun _ => ⟨Nat.le_refl _, ?_⟩⟩
    rw [show k + 1 - 1 - k = 0 by omega]
    simp [pairs]
  | case3 k acc h1 h2 h3 ih =>
    have h2' : bt s k = 39 := by simpa using h2
    have h3' : bt s (k + 1) = 39 := by simpa using h3
    have hk1 : k + 1 < s.size := by
      rcases Nat.lt_or_ge (k + 1) s.size with h | h
      · exact h
      · rw [bt_ge (by omega)] at h3'; cases h3'
    have hq : qEnd s k = qEnd s (k + 2) := by
      have hr : runE plainB s k = k := runE_stop h1 (by simp [plainB, h2'])
      rw [qEnd.eq_1 s k, hr, if_pos h1, if_neg h3]
    rw [hq]
    refine ⟨ih.1, fun h0 => ?_⟩
    obtain ⟨h4, h5⟩ := ih.2 h0
    refine ⟨by omega, ?_⟩
    have e1 : s[k] = 39 := by rw [bt_of h1] at h2'; exact UInt8.toNat_inj.1 (by rw [show (39 : UInt8).toNat = 39 from rfl]; omega)
    have e2 : s[k + 1] = 39 := by rw [bt_of hk1] at h3'; exact UInt8.toNat_inj.1 (by rw [show (39 : UInt8).toNat = 39 from rfl]; omega)
    rw [h5, ByteArray.data_append, Array.toList_append, drop_bt h1, drop_bt hk1, show qEnd s (k + 2) - 1 - k = (qEnd s (k + 2) - 1 - (k + 2)) + 1 + 1 by omega, List.take_succ_cons, List.take_succ_cons, e1, e2, pairs_two]
    simp
  | case4 k acc h1 =>
    have hq : qEnd s k = 0 := by
      rw [qEnd, runE_end h1, if_neg h1]
    rw [hq]
    exact ⟨rfl, fun h => absurd rfl h⟩

theorem quotedP_is (s : ByteArray) (k : Nat) : quotedP s k = quotedM s k := by
  obtain ⟨h1, h2⟩ := quotedA_is s (k + 1) noText
  unfold quotedP quotedM
  by_cases h0 : qEnd s (k + 1) = 0
  · rw [if_pos h0]
    rw [h0] at h1
    have h3 : ∀ (j : Nat) (acc : ByteArray), (quotedA s j acc).2 = 0 → quotedA s j acc = (noText, 0) := by
      intro j acc
      fun_induction quotedA s j acc with
      | case1 k acc h1 h2 ih => exact ih
      | case2 k acc h1 h2 h3 => intro h; cases h
      | case3 k acc h1 h2 h3 ih => exact ih
      | case4 k acc h1 => intro _; rfl
    exact (h3 _ _ h1).symm
  · rw [if_neg h0]
    obtain ⟨h3, h4⟩ := h2 h0
    refine Prod.ext ?_ h1.symm
    refine ByteArray.ext (Array.toList_inj.1 ?_)
    rw [h4]
    show (unq _).data.toList = _
    rw [unq_list, ByteArray.data_extract, Array.toList_extract, List.extract_eq_take_drop]
    rfl
end Pal.S
