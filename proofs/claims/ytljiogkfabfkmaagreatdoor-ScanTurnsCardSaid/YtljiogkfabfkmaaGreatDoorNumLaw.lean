/- Plain law of integers' texts: a sign turned twice. -/
import Derived.Test.YtljiogkfabfkmaaGreatDoorS12
open Go
namespace Pal.S

theorem data_size (s : ByteArray) : s.data.toList.length = s.size := by rw [Array.length_toList]; rfl
theorem bt_at (s : ByteArray) (i : Nat) (h : i < s.data.toList.length) : bt s i = ((s.data.toList[i]).toNat : Int) := by
  have h' : i < s.size := by rw [data_size] at h; exact h
  rw [bt_of h', Array.getElem_toList]; rfl

/-- digits' value, behind others' -/
def valA (acc : Nat) (l : List UInt8) : Nat := l.foldl (fun a c => a * 10 + (c.toNat - 48)) acc
def Digs (l : List UInt8) : Prop := ∀ c ∈ l, 48 ≤ c.toNat ∧ c.toNat ≤ 57

theorem valA_ge (l : List UInt8) : ∀ acc, acc ≤ valA acc l := by
  induction l with
  | nil => intro acc; exact Nat.le_refl _
  | cons c r ih =>
    intro acc
    have := ih (acc * 10 + (c.toNat - 48))
    show acc ≤ valA (acc * 10 + (c.toNat - 48)) r
    omega

theorem parse_val (l : List UInt8) : ∀ acc, Digs l → acc ≤ 18446744073709551615 → Lib.parseUintM 18446744073709551615 acc l = if valA acc l ≤ 18446744073709551615 then .ok (valA acc l) else .range := by
  induction l with
  | nil => intro acc _ h; show _ = if acc ≤ _ then _ else _; rw [if_pos h]; rfl
  | cons c r ih =>
    intro acc hd h
    have hc := hd c (List.mem_cons_self ..)
    have hg := valA_ge r (acc * 10 + (c.toNat - 48))
    have hv : valA acc (c :: r) = valA (acc * 10 + (c.toNat - 48)) r := rfl
    unfold Lib.parseUintM
    rw [if_pos hc, hv]
    by_cases h1 : 1844674407370955162 ≤ acc
    · rw [if_pos h1, if_neg (by omega)]
    · rw [if_neg h1]
      by_cases h2 : 18446744073709551615 < acc * 10 + (c.toNat - 48)
      · rw [if_pos h2, if_neg (by omega)]
      · rw [if_neg h2]
        exact ih _ (fun x hx => hd x (List.mem_cons_of_mem _ hx)) (by omega)

theorem dig_nat (d : Nat) (h : d < 10) : (UInt8.ofNat (48 + d)).toNat = 48 + d := by
  rw [UInt8.toNat_ofNat']; omega

theorem dec_digs (u : Nat) : Digs (Lib.decDigits u) := by
  induction u using Nat.strongRecOn with
  | ind u ih =>
    rw [Lib.decDigits]
    split
    · intro c hc
      rw [List.mem_singleton] at hc
      rw [hc, dig_nat u (by assumption)]; omega
    · intro c hc
      rw [List.mem_append, List.mem_singleton] at hc
      rcases hc with hc | rfl
      · exact ih (u / 10) (by omega) c hc
      · rw [dig_nat _ (by omega)]; omega

theorem dec_val (u : Nat) : valA 0 (Lib.decDigits u) = u := by
  induction u using Nat.strongRecOn with
  | ind u ih =>
    rw [Lib.decDigits]
    split
    · show 0 * 10 + ((UInt8.ofNat (48 + u)).toNat - 48) = u
      rw [dig_nat u (by assumption)]; omega
    · unfold valA
      rw [List.foldl_append]
      show valA 0 (Lib.decDigits (u / 10)) * 10 + _ = u
      rw [ih (u / 10) (by omega), dig_nat _ (by omega)]; omega

theorem dec_ne (u : Nat) : Lib.decDigits u ≠ [] := by
  rw [Lib.decDigits]; split
  · simp
  · simp

/-- no nought ahead -/
def NoNought (l : List UInt8) : Prop := l.length = 1 ∨ ∃ c r, l = c :: r ∧ c.toNat ≠ 48

theorem dec_of (n : Nat) : ∀ l : List UInt8, l.length = n → Digs l → NoNought l → l = Lib.decDigits (valA 0 l) := by
  induction n with
  | zero =>
    intro l hl hd hn
    rcases hn with h | ⟨c, r, rfl, _⟩
    · omega
    · cases hl
  | succ n ih =>
    intro l hl hd hn
    obtain ⟨l', c, rfl⟩ : ∃ l' c, l = l' ++ [c] := ⟨l.dropLast, l.getLast (by intro e; rw [e] at hl; cases hl), (List.dropLast_concat_getLast (by intro e; rw [e] at hl; cases hl)).symm⟩
    have hlen : l'.length = n := by simpa using hl
    have hc := hd c (by simp)
    have hcc : UInt8.ofNat (48 + (c.toNat - 48)) = c := by
      apply UInt8.toNat_inj.1
      rw [UInt8.toNat_ofNat']; have := c.toNat_lt; omega
    have hv : valA 0 (l' ++ [c]) = valA 0 l' * 10 + (c.toNat - 48) := by unfold valA; rw [List.foldl_append]; rfl
    rcases Nat.eq_zero_or_pos n with h0 | h0
    · have : l' = [] := List.eq_nil_of_length_eq_zero (by omega)
      subst this
      rw [hv, Lib.decDigits, dif_pos (show valA 0 [] * 10 + (c.toNat - 48) < 10 by show 0 * 10 + _ < 10; omega)]
      show [c] = [UInt8.ofNat (48 + (0 * 10 + (c.toNat - 48)))]
      rw [Nat.zero_mul, Nat.zero_add, hcc]
    · obtain ⟨x, r, hx, hne⟩ : ∃ x r, l' = x :: r ∧ x.toNat ≠ 48 := by
        rcases hn with h | ⟨y, r, h, hy⟩
        · rw [List.length_append, List.length_cons, List.length_nil] at h; omega
        · cases l' with
          | nil => simp at hlen; omega
          | cons x r' => simp at h; exact ⟨x, r', rfl, by rw [h.1]; exact hy⟩
      have hd' : Digs l' := fun y hy => hd y (by simp [hy])
      have h1 := ih l' hlen hd' (.inr ⟨x, r, hx, hne⟩)
      have h2 : 1 ≤ valA 0 l' := by
        have h3 := hd' x (by simp [hx])
        have h4 := valA_ge r (0 * 10 + (x.toNat - 48))
        rw [hx]; show 1 ≤ valA (0 * 10 + (x.toNat - 48)) r
        omega
      rw [hv]
      have hdv : (valA 0 l' * 10 + (c.toNat - 48)) / 10 = valA 0 l' := by omega
      have hmd : (valA 0 l' * 10 + (c.toNat - 48)) % 10 = c.toNat - 48 := by omega
      rw [Lib.decDigits, dif_neg (by omega), hdv, hmd, ← h1, hcc]

theorem dec_nought (u : Nat) : NoNought (Lib.decDigits u) := by
  induction u using Nat.strongRecOn with
  | ind u ih =>
    rw [Lib.decDigits]
    split
    · exact .inl rfl
    · rename_i h
      refine .inr ?_
      rcases ih (u / 10) (by omega) with h1 | ⟨c, r, h1, h2⟩
      · by_cases h3 : u / 10 < 10
        · rw [Lib.decDigits, dif_pos h3]
          exact ⟨_, _, rfl, by rw [dig_nat _ h3]; omega⟩
        · rw [Lib.decDigits, dif_neg h3] at h1
          have := dec_ne (u / 10 / 10)
          cases h4 : Lib.decDigits (u / 10 / 10) with
          | nil => exact absurd h4 this
          | cons a b => rw [h4] at h1; simp at h1
      · rw [h1]; exact ⟨c, _, rfl, h2⟩

/-- digits as a text -/
def decT (u : Nat) : ByteArray := ⟨(Lib.decDigits u).toArray⟩
theorem decT_list (u : Nat) : (decT u).data.toList = Lib.decDigits u := rfl
theorem decT_size (u : Nat) : (decT u).size = Lib.nDigits u := by
  rw [← data_size, decT_list, Lib.decDigits_length]

theorem parse_dec (u : Nat) : Lib.parseIntB 64 (decT u).data.toList = if u < 9223372036854775808 then .ok (u : Int) else .range := by
  have hd := dec_digs u
  have hv := dec_val u
  rw [decT_list]
  have hp := parse_val (Lib.decDigits u) 0 hd (by omega)
  rw [hv] at hp
  have hne := dec_ne u
  generalize Lib.decDigits u = l at *
  cases l with
  | nil => exact absurd rfl hne
  | cons c r =>
    have hc := hd c (List.mem_cons_self ..)
    unfold Lib.parseIntB
    simp only
    rw [if_neg (by omega), Lib.parseUintB, if_neg (by simp), show (2 ^ 64 - 1 : Nat) = 18446744073709551615 from rfl, hp]
    by_cases h1 : u ≤ 18446744073709551615
    · rw [if_pos h1]
      simp only
      by_cases h2 : u < 9223372036854775808
      · rw [if_pos h2, if_neg (by omega), if_neg (by omega), if_neg (by omega)]
      · rw [if_neg h2, if_pos (by omega)]
    · rw [if_neg h1, if_neg (by omega)]

/-- an integer's literal, of its value -/
def wholeU (u : Nat) (m : Bool) : IntL :=
  if (if m then u ≤ 1152921504606846976 else u ≤ 1152921504606846975) then ⟨4, if m then -(u : Int) else u, noText⟩ else largeL (decT u) m

theorem pow_len (u : Nat) (h : 19 < Lib.nDigits u) : 10000000000000000000 ≤ u := by
  rw [Nat.le_iff_lt_add_one] at *
  rcases Nat.lt_or_ge u 10000000000000000000 with h1 | h1
  · exfalso
    have : ∀ n v : Nat, v < 10 ^ n → 1 ≤ n → Lib.nDigits v ≤ n := by
      intro n
      induction n with
      | zero => intro v _ h; omega
      | succ n ih =>
        intro v hv _
        by_cases h10 : v < 10
        · rw [Lib.nDigits_small h10]; omega
        · rw [Lib.nDigits_big h10]
          have hn : 1 ≤ n := by
            rcases Nat.eq_zero_or_pos n with h0 | h0
            · subst h0; simp at hv; omega
            · exact h0
          have := ih (v / 10) (by rw [Nat.pow_succ] at hv; omega) hn
          omega
    have := this 19 u (by simpa using h1) (by omega)
    omega
  · omega

theorem whole_dec (u : Nat) (m : Bool) : wholeM (decT u) m = wholeU u m := by
  unfold wholeM wholeU
  rw [decT_size, parse_dec]
  by_cases h : Lib.nDigits u ≤ 19
  · rw [if_pos h]
    by_cases h1 : u < 9223372036854775808
    · rw [if_pos h1]
      simp only [smallL]
      cases m
      · simp only [Bool.false_eq_true, if_false]
        by_cases h2 : u ≤ 1152921504606846975
        · rw [if_pos h2, if_pos (by omega)]
        · rw [if_neg h2, if_neg (by omega)]
      · simp only [if_true]
        by_cases h2 : u ≤ 1152921504606846976
        · rw [if_pos h2, if_pos (by omega)]
        · rw [if_neg h2, if_neg (by omega)]
    · rw [if_neg h1]
      simp only
      rw [if_neg]
      cases m <;> simp <;> omega
  · rw [if_neg h, if_neg]
    have := pow_len u (by omega)
    cases m <;> simp <;> omega

/-- a sign and digits -/
def signT (u : Nat) (m : Bool) : ByteArray := if m then ⟨#[45]⟩ ++ decT u else decT u

theorem neg_dec (u : Nat) : negB (decT u) = false := by
  unfold negB
  have hs := decT_size u
  have := Lib.nDigits_pos u
  have h0 : 0 < (decT u).data.toList.length := by rw [data_size]; omega
  have hb := bt_at (decT u) 0 h0
  have hd := dec_digs u _ (List.getElem_mem (l := Lib.decDigits u) (n := 0) h0)
  have : bt (decT u) 0 ≠ 45 := by
    rw [hb]
    simp only [decT_list]
    omega
  simp [this]

theorem sign_neg (u : Nat) (m : Bool) : negB (signT u m) = m ∧ bareS (signT u m) = decT u := by
  cases m
  · have h := neg_dec u
    refine ⟨h, ?_⟩
    show bareS (decT u) = decT u
    unfold bareS; rw [h]; rfl
  · have hs : (⟨#[45]⟩ ++ decT u : ByteArray).size = 1 + (decT u).size := by rw [ByteArray.size_append]; rfl
    have h : negB (signT u true) = true := by
      show negB (⟨#[45]⟩ ++ decT u) = true
      unfold negB
      have : bt (⟨#[45]⟩ ++ decT u) 0 = 45 := by
        rw [bt_of (by omega), ByteArray.getElem_append_left (by show 0 < 1; omega)]; rfl
      rw [this, hs]; simp; omega
    refine ⟨h, ?_⟩
    unfold bareS
    rw [h, if_pos rfl]
    show ByteArray.extract (⟨#[45]⟩ ++ decT u) 1 (⟨#[45]⟩ ++ decT u : ByteArray).size = _
    rw [hs]
    exact ByteArray.extract_append_eq_right (by rfl) (by show 1 + _ = 1 + _; rfl)

theorem num_sign (v : Int) : numText v = signT v.natAbs (decide (v < 0)) := by
  unfold numText signT Lib.itoa
  by_cases h : v < 0
  · rw [if_pos h, decide_eq_true h, if_pos rfl]
    refine ByteArray.ext ?_
    rw [ByteArray.data_append]
    apply Array.toList_inj.1
    simp [decT]
  · rw [if_neg h, decide_eq_false h]
    simp only [Bool.false_eq_true, if_false]
    rw [show v.toNat = v.natAbs by omega]; rfl

theorem run_dec (u : Nat) : runE digitB (decT u) 0 = (decT u).size := by
  refine runE_is (Nat.zero_le _) (Nat.le_refl _) (fun k _ h => ?_) (fun h => by omega)
  have hk : k < (decT u).data.toList.length := by rw [data_size]; exact h
  rw [bt_at _ k hk]
  have := dec_digs u _ (List.getElem_mem (l := Lib.decDigits u) (n := k) hk)
  exact decide_eq_true (by simp only [decT_list]; omega)

theorem plainI_head (s : ByteArray) (i : Nat) : plainI s i + 1 < s.size → bt s (plainI s i) ≠ 48 := by
  fun_induction plainI s i with
  | case1 i h hc ih => exact ih
  | case2 i h hc => intro _; exact hc
  | case3 i h => intro h1; exact absurd h1 h

theorem plain_is (b : ByteArray) (h0 : 0 < b.size) (h : runE digitB b 0 = b.size) : ∃ u, plainS b = decT u := by
  have hd := plain_digit h0 h
  have hh := plainI_head b 0
  have hall : ∀ k, k < (plainS b).size → digitB (bt (plainS b) k) = true := by
    intro k hk
    have hs : (plainS b).size = b.size - plainI b 0 := by simp [plainS]
    unfold plainS
    rw [bt_extract b (Nat.le_refl _) (by omega)]
    exact runE_all (p := digitB) (s := b) (i := 0) _ (by omega) (by omega)
  have hD : Digs (plainS b).data.toList := by
    intro c hc
    obtain ⟨k, hk, rfl⟩ := List.getElem_of_mem hc
    have := hall k (by rw [data_size] at hk; exact hk)
    rw [bt_at _ k hk] at this
    simp only [digitB, decide_eq_true_eq] at this
    omega
  have hN : NoNought (plainS b).data.toList := by
    have hs : (plainS b).size = b.size - plainI b 0 := by simp [plainS]
    rcases Nat.lt_or_ge (plainI b 0 + 1) b.size with h1 | h1
    · right
      have h2 := hh h1
      have h3 : 0 < (plainS b).data.toList.length := by rw [data_size]; omega
      refine ⟨(plainS b).data.toList[0], (plainS b).data.toList.drop 1, ?_, ?_⟩
      · have := List.drop_eq_getElem_cons h3; rwa [List.drop_zero] at this
      · have h4 : bt (plainS b) 0 = bt b (plainI b 0) := by unfold plainS; rw [bt_extract b (Nat.le_refl _) (by omega)]; rfl
        rw [bt_at _ 0 h3] at h4
        omega
    · left; rw [data_size]; omega
  refine ⟨valA 0 (plainS b).data.toList, ?_⟩
  have := dec_of _ _ rfl hD hN
  exact ByteArray.ext (Array.toList_inj.1 this)

theorem plain_dec (u : Nat) : plainS (decT u) = decT u := by
  have h0 : 0 < (decT u).size := by rw [decT_size]; exact Lib.nDigits_pos u
  have hp : plainI (decT u) 0 = 0 := by
    rw [plainI]
    split
    · rename_i h
      rw [if_neg]
      rcases dec_nought u with h1 | ⟨c, r, h1, h2⟩
      · rw [← decT_list, data_size] at h1; omega
      · rw [bt_at _ 0 (by rw [data_size]; exact h0)]
        simp only [decT_list, h1, List.getElem_cons_zero]
        omega
    · rfl
  unfold plainS
  rw [hp]
  exact ByteArray.ext (by simp)

theorem int_sign (u : Nat) (m : Bool) (h : Lib.nDigits u ≤ 255) : intM (signT u m) = (wholeU u m, 0) := by
  obtain ⟨h1, h2⟩ := sign_neg u m
  unfold intM
  have := Lib.nDigits_pos u
  have hs := decT_size u
  rw [h1, h2, plain_dec, run_dec, whole_dec, if_neg]
  rintro (h3 | h3 | h3)
  · omega
  · omega
  · exact h3 rfl

/-- what an integer's text is read as -/
theorem int_whole (s : ByteArray) (h : (intM s).2 = 0) : ∃ u m, Lib.nDigits u ≤ 255 ∧ intM s = (wholeU u m, 0) := by
  unfold intM at h ⊢
  split at h
  · cases h
  · rename_i hn
    rw [if_neg hn]
    obtain ⟨u, hu⟩ := plain_is (bareS s) (by omega) (by omega)
    refine ⟨u, negB s, ?_, ?_⟩
    · rw [← decT_size, ← hu]; omega
    · rw [hu, whole_dec]

theorem whole_small {u : Nat} {m : Bool} (h : if m then u ≤ 1152921504606846976 else u ≤ 1152921504606846975) : wholeU u m = ⟨4, if m then -(u : Int) else u, noText⟩ := if_pos h
theorem whole_large {u : Nat} {m : Bool} (h : ¬ if m then u ≤ 1152921504606846976 else u ≤ 1152921504606846975) : wholeU u m = ⟨5, 0, signT u m⟩ := by
  unfold wholeU; rw [if_neg h]; cases m <;> rfl

/-- the sign turned, of a large one's text -/
theorem turn_large (u : Nat) (m : Bool) : turnT (signT u m) = wholeU u (!m) := by
  obtain ⟨h1, h2⟩ := sign_neg u m
  unfold turnT
  rw [h1, h2, whole_dec]
/-- and of a small one's -/
theorem turn_small (u : Nat) (m : Bool) : turnT (numText (if m then -(u : Int) else u)) = wholeU u (!m) := by
  rw [num_sign, turn_large]
  rcases Nat.eq_zero_or_pos u with h0 | h0
  · subst h0
    cases m <;> rfl
  · cases m
    · simp [show ¬ (u : Int) < 0 by omega]
    · simp [h0]
theorem whole_same (u : Nat) (m : Bool) : wholeU u m = wholeU u (!m) ↔ u = 0 := by
  constructor
  · intro h
    rcases Nat.eq_zero_or_pos u with h0 | h0
    · exact h0
    · exfalso
      unfold wholeU at h
      cases m
      · simp only [Bool.false_eq_true, if_false, Bool.not_false, if_true] at h
        split at h
        · rw [if_pos (by omega)] at h
          injection h with _ h _; omega
        · split at h
          · injection h with h _ _; cases h
          · injection h with _ _ h
            have h1 : (decT u).size = (⟨#[45]⟩ ++ decT u : ByteArray).size := congrArg ByteArray.size h
            rw [ByteArray.size_append] at h1
            have : (⟨#[45]⟩ : ByteArray).size = 1 := rfl
            omega
      · simp only [Bool.false_eq_true, if_false, Bool.not_true, if_true] at h
        split at h
        · split at h
          · injection h with _ h _; omega
          · injection h with h _ _; cases h
        · rw [if_neg (by omega)] at h
          injection h with _ _ h
          have h1 : (⟨#[45]⟩ ++ decT u : ByteArray).size = (decT u).size := congrArg ByteArray.size h
          rw [ByteArray.size_append] at h1
          have : (⟨#[45]⟩ : ByteArray).size = 1 := rfl
          omega
  · rintro rfl; cases m <;> rfl
end Pal.S
