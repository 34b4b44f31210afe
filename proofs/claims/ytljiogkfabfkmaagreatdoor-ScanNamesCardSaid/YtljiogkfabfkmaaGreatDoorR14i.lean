/- palaverref14.Arity. -/
import Derived.Test.YtljiogkfabfkmaaGreatDoorR14b
import Derived.Laws.Closers25b
open Go Go.RowKit Go.Proofs
namespace Pal.R14

theorem nil_iff {s : ByteArray} : s.toList = [] ↔ s.size = 0 := by
  rw [toList_nil_iff_emptyBytes]
  constructor
  · rintro rfl; rfl
  · intro h; exact ByteArray.ext (Array.eq_empty_of_size_eq_zero h)

theorem Arity_any (s : ByteArray) (hs : s.size ≤ 140737488355328) (w : World) :
    Calls Tryz.prog 23 #[.string s] w fun e w' => e = .returned (.int .i64 (arityE s)) ∧ w = w' := by
  unfold arityE
  by_cases h0 : 0 < s.size
  · have hbt := (bt_of h0).symm
    have hr := bt_range s 0
    have hl : s.toList.isEmpty = false := by rw [Bool.eq_false_iff, ne_eq, List.isEmpty_iff, nil_iff]; omega
    have hl2 : ¬ s.toList = [] := by rw [nil_iff]; omega
    rw [if_neg (by omega)]
    cases hn : nameB s
    · cases hb : binaryB (bt s 0)
      · cases h1 : (bt s 0 == 124)
        · rw [if_neg (by simp), if_neg (by simp)]
          go_enter Tryz.func23, Tryz.ntmps23
          go_wp2_with (first | (go_at_call 22; refine (Name_any s hs _).mono ?_; rintro e w' ⟨rfl, rfl⟩) | (go_at_call 46; refine (binary_any _ _ hr).mono ?_; rintro e w' ⟨rfl, rfl⟩) | (go_at_call 48; refine (keywords_any s hs _).mono ?_; rintro e w' ⟨rfl, rfl⟩))
          go_ret
          exact ⟨rfl, rfl⟩
        · rw [if_neg (by simp), if_pos (by simp)]
          by_cases he : signEnd s 0 = s.size
          · have he' : ((signEnd s 0 : Int) == (s.size : Int)) = true := by simp [he]
            rw [if_pos he]
            go_enter Tryz.func23, Tryz.ntmps23
            go_wp2_with (first | (go_at_call 22; refine (Name_any s hs _).mono ?_; rintro e w' ⟨rfl, rfl⟩) | (go_at_call 46; refine (binary_any _ _ hr).mono ?_; rintro e w' ⟨rfl, rfl⟩) | (go_at_call 47; refine (sign_any s _ 0 (by omega) hs h0 _).mono ?_; rintro e w' ⟨rfl, rfl⟩))
            go_ret
            exact ⟨rfl, rfl⟩
          · have he' : ((signEnd s 0 : Int) == (s.size : Int)) = false := by simp; omega
            rw [if_neg he]
            go_enter Tryz.func23, Tryz.ntmps23
            go_wp2_with (first | (go_at_call 22; refine (Name_any s hs _).mono ?_; rintro e w' ⟨rfl, rfl⟩) | (go_at_call 46; refine (binary_any _ _ hr).mono ?_; rintro e w' ⟨rfl, rfl⟩) | (go_at_call 47; refine (sign_any s _ 0 (by omega) hs h0 _).mono ?_; rintro e w' ⟨rfl, rfl⟩))
            go_ret
            exact ⟨rfl, rfl⟩
      · rw [if_neg (by simp), if_pos (by simp)]
        by_cases he : signEnd s 0 = s.size
        · have he' : ((signEnd s 0 : Int) == (s.size : Int)) = true := by simp [he]
          rw [if_pos he]
          go_enter Tryz.func23, Tryz.ntmps23
          go_wp2_with (first | (go_at_call 22; refine (Name_any s hs _).mono ?_; rintro e w' ⟨rfl, rfl⟩) | (go_at_call 46; refine (binary_any _ _ hr).mono ?_; rintro e w' ⟨rfl, rfl⟩) | (go_at_call 47; refine (sign_any s _ 0 (by omega) hs h0 _).mono ?_; rintro e w' ⟨rfl, rfl⟩))
          go_ret
          exact ⟨rfl, rfl⟩
        · have he' : ((signEnd s 0 : Int) == (s.size : Int)) = false := by simp; omega
          rw [if_neg he]
          go_enter Tryz.func23, Tryz.ntmps23
          go_wp2_with (first | (go_at_call 22; refine (Name_any s hs _).mono ?_; rintro e w' ⟨rfl, rfl⟩) | (go_at_call 46; refine (binary_any _ _ hr).mono ?_; rintro e w' ⟨rfl, rfl⟩) | (go_at_call 47; refine (sign_any s _ 0 (by omega) hs h0 _).mono ?_; rintro e w' ⟨rfl, rfl⟩))
          go_ret
          exact ⟨rfl, rfl⟩
    · rw [if_pos (by simp)]
      go_enter Tryz.func23, Tryz.ntmps23
      go_wp2_with (first | (go_at_call 22; refine (Name_any s hs _).mono ?_; rintro e w' ⟨rfl, rfl⟩))
      go_ret
      exact ⟨rfl, rfl⟩
  · have hl : s.toList.isEmpty = true := by rw [List.isEmpty_iff, nil_iff]; omega
    have hl2 : s.toList = [] := by rw [nil_iff]; omega
    have hn : nameB s = false := by simp [nameB]; omega
    rw [if_pos (by omega)]
    go_enter Tryz.func23, Tryz.ntmps23
    go_wp2_with (first | (go_at_call 22; refine (Name_any s hs _).mono ?_; rintro e w' ⟨rfl, rfl⟩))
    go_ret
    exact ⟨rfl, rfl⟩
end Pal.R14
