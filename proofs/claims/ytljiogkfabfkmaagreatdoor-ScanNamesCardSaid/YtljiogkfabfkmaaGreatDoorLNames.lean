/- palaverlaw14.ScanNames: the walk. -/
import Derived.Test.YtljiogkfabfkmaaGreatDoorB14
import Derived.Test.YtljiogkfabfkmaaGreatDoorR14i
open Go Go.RowKit Go.Proofs
namespace Pal.S

set_option maxHeartbeats 1000000 in
theorem ScanNames_any (s : ByteArray) (w : World) (he : Env w) : Calls Tryz.prog 5 #[.string s] w fun e w' => e = .returned (.bool true) ∧ Below w.heap.size w w' := by
  have H1 := Lib.hid (awake_any w he)
  clear he
  by_cases hb : (s.size : Int) > 4194304
  · go_enter Tryz.func5, Tryz.ntmps5
    go_wp2_with (go_at_call 11; refine H1.out.mono ?_; rintro e w1 ⟨rfl, hb1⟩)
    go_ret
    exact ⟨rfl, hb1⟩
  · have hs : s.size ≤ 140737488355328 := by omega
    have H2 := Lib.hid (Name_any s hs)
    have H3 := Lib.hid (Arity_any s hs)
    have H4 := Lib.hid (R14.Name_any s hs)
    have H5 := Lib.hid (R14.Arity_any s hs)
    generalize nameB s = b at *
    generalize arityE s = n at *
    go_enter Tryz.func5, Tryz.ntmps5
    go_wp2_with (first | (go_at_call 11; refine H1.out.mono ?_; rintro e w1 ⟨rfl, hb1⟩; have HB1 := Lib.hid hb1; clear hb1) | (go_at_call 20; refine (H2.out _).mono ?_; rintro e w' ⟨rfl, rfl⟩) | (go_at_call 21; refine (H3.out _).mono ?_; rintro e w2 ⟨rfl, hb2⟩; have HB2 := Lib.hid (Below.on HB1.out hb2 HB1.out.size); clear hb2) | (go_at_call 22; refine (H4.out _).mono ?_; rintro e w' ⟨rfl, rfl⟩) | (go_at_call 23; refine (H5.out _).mono ?_; rintro e w' ⟨rfl, rfl⟩))
    go_ret
    exact ⟨ret_bool (by simp), HB2.out⟩
end Pal.S
