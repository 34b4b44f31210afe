/- scan.plain: digits without noughts ahead; a sign cut off. -/
import Derived.Test.YtljiogkfabfkmaaGreatDoorS1
import Derived.Test.YtljiogkfabfkmaaGreatDoorRunE
import Derived.Test.YtljiogkfabfkmaaGreatDoorOwn
open Go Go.RowKit Go.Proofs
namespace Pal.S

def noughtB (c : Int) : Bool := c == 48

theorem dropWhile_run (s : ByteArray) (i : Nat) (hi : i ≤ s.size) : (s.data.toList.drop i).dropWhile (· == 48) = s.data.toList.drop (runE noughtB s i) := by
  fun_induction runE noughtB s i with
  | case1 i h hp ih =>
    rw [drop_bt h, List.dropWhile_cons]
    have he : (s[i] == 48) = true := by
      rw [bt_of h] at hp
      simp [noughtB] at hp ⊢
      exact UInt8.toNat_inj.1 (by rw [show (48 : UInt8).toNat = 48 from rfl]; omega)
    rw [he]
    exact ih (by omega)
  | case2 i h hp =>
    rw [drop_bt h, List.dropWhile_cons]
    have he : (s[i] == 48) = false := by
      rw [bt_of h] at hp
      simp [noughtB] at hp ⊢
      intro e; exact hp (by rw [e]; rfl)
    rw [he]
    simp
  | case3 i h => rw [List.drop_eq_nil_of_le (by rw [Array.length_toList]; exact Nat.le_of_not_lt h)]; rfl

theorem trim_run (s : ByteArray) : (⟨(Lib.trimLeftB s.data.toList 48).toArray⟩ : ByteArray) = s.extract (runE noughtB s 0) s.size := by
  refine ByteArray.ext ?_
  have h := dropWhile_run s 0 (Nat.zero_le _)
  rw [List.drop_zero] at h
  rw [← Array.toList_inj, data_drop]
  exact h

theorem plainI_run (s : ByteArray) (i : Nat) (hi : i ≤ s.size) : plainI s i = if runE noughtB s i < s.size then runE noughtB s i else if i < s.size then s.size - 1 else i := by
  fun_induction plainI s i with
  | case1 i h hc ih =>
    rw [runE_step (p := noughtB) (by omega) (by simp [noughtB, hc]), ih (by omega)]
    by_cases h1 : runE noughtB s (i + 1) < s.size
    · rw [if_pos h1, if_pos h1]
    · rw [if_neg h1, if_neg h1, if_pos (by omega), if_pos (by omega)]
  | case2 i h hc => rw [runE_stop (p := noughtB) (by omega) (by simpa [noughtB] using hc), if_pos (by omega)]
  | case3 i h =>
    have h1 := runE_ge noughtB s i
    have h2 := runE_le noughtB s i hi
    by_cases h3 : runE noughtB s i < s.size
    · rw [if_pos h3]; omega
    · rw [if_neg h3]
      split <;> omega

theorem plain_any (s : ByteArray) (hs : s.size ≤ 140737488355328) (w : World) :
    Calls Tryz.prog 52 #[.string s] w fun e w' => e = .returned (.string (plainS s)) ∧ w = w' := by
  have hcall := Tryz.strings_TrimLeft_one s 48 (by decide) w
  rw [trim_run] at hcall
  have hpl := plainI_run s 0 (Nat.zero_le _)
  have hle := runE_le noughtB s 0 (Nat.zero_le _)
  by_cases h1 : runE noughtB s 0 < s.size
  · rw [if_pos h1] at hpl
    rw [← hpl] at hcall h1
    change Calls Tryz.prog _ _ _ fun e w' => e = .returned (.string (plainS s)) ∧ _ at hcall
    have hl : ¬ (plainS s).toList = [] := by rw [nil_iff]; simp [plainS]; omega
    have HC := Lib.hid hcall; clear hcall
    go_enter Tryz.func52, Tryz.ntmps52
    go_wp2_with (go_at_call 73; refine HC.out.mono ?_; rintro e w' ⟨rfl, rfl⟩)
    go_ret
    exact ⟨rfl, rfl⟩
  · have hz : runE noughtB s 0 = s.size := by omega
    rw [hz, show s.extract s.size s.size = noText from ByteArray.ext (by simp [noText])] at hcall
    rw [if_neg h1] at hpl
    have HC := Lib.hid hcall; clear hcall
    by_cases h0 : 0 < s.size
    · rw [if_pos h0] at hpl
      have hl : s.toList.isEmpty = false := by rw [Bool.eq_false_iff, ne_eq, List.isEmpty_iff, nil_iff]; omega
      have hnt : noText.toList = [] := nil_iff.2 rfl
      have hv : plainS s = ⟨#[48]⟩ := by
        have hb := runE_all (p := noughtB) (s := s) (i := 0) (s.size - 1) (Nat.zero_le _) (by omega)
        rw [bt_of (by omega)] at hb
        unfold plainS
        rw [hpl]
        refine ByteArray.ext ?_
        rw [← Array.toList_inj, data_drop, drop_bt (by omega), List.drop_eq_nil_of_le (by rw [Array.length_toList]; change s.size ≤ _; omega)]
        have : s[s.size - 1] = 48 := by
          simp [noughtB] at hb
          exact UInt8.toNat_inj.1 (by rw [show (48 : UInt8).toNat = 48 from rfl]; omega)
        rw [this]
      rw [hv]
      go_enter Tryz.func52, Tryz.ntmps52
      go_wp2_with (go_at_call 73; refine HC.out.mono ?_; rintro e w' ⟨rfl, rfl⟩)
      go_ret
      exact ⟨rfl, rfl⟩
    · have hl : s.toList = [] := by rw [nil_iff]; omega
      have hnt : noText.toList = [] := nil_iff.2 rfl
      have hv : plainS s = noText := by
        unfold plainS
        rw [hpl, if_neg h0]
        refine ByteArray.ext ?_
        have : s.size = 0 := by omega
        simp [this, noText]
      rw [hv]
      go_enter Tryz.func52, Tryz.ntmps52
      go_wp2_with (go_at_call 73; refine HC.out.mono ?_; rintro e w' ⟨rfl, rfl⟩)
      go_ret
      exact ⟨rfl, rfl⟩

/-- does a text begin with a minus? -/
def negB (s : ByteArray) : Bool := decide (0 < s.size) && bt s 0 == 45
/-- and what stands behind -/
def bareS (s : ByteArray) : ByteArray := if negB s then s.extract 1 s.size else s

theorem hasPrefix_neg (s : ByteArray) : Lib.hasPrefix s.data.toList [45] = negB s := by
  unfold Lib.hasPrefix negB
  by_cases h : 0 < s.size
  · rw [show s.data.toList = s[0] :: s.data.toList.drop 1 from by have := drop_bt h; rwa [List.drop_zero] at this, Bool.eq_iff_iff]
    simp [bt_of h, h]
    constructor
    · intro e; rw [← e]; rfl
    · intro e; exact UInt8.toNat_inj.1 (by rw [show (45 : UInt8).toNat = 45 from rfl]; omega)
  · have h0 : s.data.toList = [] := by rw [← List.length_eq_zero_iff, Array.length_toList]; change s.size = 0; omega
    rw [h0]; simp [h]

theorem cutPrefix_any (s : ByteArray) (hs : s.size ≤ 140737488355328) (w : World) :
    Calls Tryz.prog 70 #[.string s, .string ⟨#[45]⟩] w fun e w' => e = .returned (.tuple #[.string (bareS s), .bool (negB s)]) ∧ w = w' := by
  have hcall := Tryz.stringslite_HasPrefix s ⟨#[45]⟩ w
  rw [show (⟨#[45]⟩ : ByteArray).data.toList = [45] from rfl, hasPrefix_neg] at hcall
  have HC := Lib.hid hcall; clear hcall
  unfold bareS
  cases h : negB s
  · rw [h] at HC
    go_enter Tryz.func70, Tryz.ntmps70
    go_wp2_with (go_at_call 88; refine HC.out.mono ?_; rintro e w' ⟨rfl, rfl⟩)
    go_ret2
    exact ⟨rfl, rfl⟩
  · rw [h] at HC
    have h0 : 0 < s.size := by
      rcases Nat.eq_zero_or_pos s.size with e | e
      · simp [negB, e] at h
      · exact e
    go_enter Tryz.func70, Tryz.ntmps70
    go_wp2_with (go_at_call 88; refine HC.out.mono ?_; rintro e w' ⟨rfl, rfl⟩)
    go_ret2
    exact ⟨by simp, rfl⟩

theorem CutPrefix_any (s : ByteArray) (hs : s.size ≤ 140737488355328) (w : World) :
    Calls Tryz.prog 49 #[.string s, .string ⟨#[45]⟩] w fun e w' => e = .returned (.tuple #[.string (bareS s), .bool (negB s)]) ∧ w = w' := by
  have h := cutPrefix_any s hs w
  have H := Lib.hid h; clear h
  go_enter Tryz.func49, Tryz.ntmps49
  go_wp2_with (go_at_call 70; refine (H.out).mono ?_; rintro e w' ⟨rfl, rfl⟩)
  go_ret2
  exact ⟨rfl, rfl⟩
end Pal.S
