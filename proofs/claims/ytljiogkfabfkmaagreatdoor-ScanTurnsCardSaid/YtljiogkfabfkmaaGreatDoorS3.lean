/- scan.sign. -/
import Derived.Test.YtljiogkfabfkmaaGreatDoorS2
import Derived.Test.YtljiogkfabfkmaaGreatDoorOwn
open Go Go.RowKit Go.Proofs
namespace Pal.S

theorem signE_runP (s : ByteArray) (k i : Nat) (h : k ≤ i) : signE s k i = runP (signP s k) s.size i := by
  fun_induction signE s k i with
  | case1 i hi hc ih =>
    have hp : signP s k i = true := by
      simp [signP] at hc ⊢
      refine ⟨hc.1, ?_⟩
      rcases hc.2 with (e | e) | e
      · exact .inl (.inl (by omega))
      · exact .inl (.inr e)
      · exact .inr e
    rw [runP, if_pos hi, if_pos hp]
    exact ih (by omega)
  | case2 i hi hc =>
    have hp : signP s k i = false := by
      rw [Bool.eq_false_iff]
      intro hp
      refine hc ?_
      simp [signP] at hp ⊢
      refine ⟨hp.1, ?_⟩
      rcases hp.2 with (e | e) | e
      · exact .inl (.inl (by omega))
      · exact .inl (.inr e)
      · exact .inr e
    rw [runP, if_pos hi, if_neg (by simp [hp])]
  | case3 i hi => rw [runP, if_neg hi]

theorem run_sign (s : ByteArray) (k n : Nat) (w0 : World) (i : Int) (hi : i = k) (hs : s.size ≤ 140737488355328) (hk : k ≤ s.size) (w : World) (h : SignI s k n w0 k w) :
    Calls Tryz.prog 38 #[.string s, .int .i64 i, .func (.func 63) #[] #[.pointer (some ⟨n + 1, 0, none⟩), .pointer (some ⟨n + 2, 0, none⟩), .pointer (some ⟨n, 0, none⟩)]] w fun e w' => e = .returned (.int .i64 (signE s k k)) ∧ Below n w0 w' := by
  have eg := enters_of Tryz.func63 (by kernel_rfl) rfl
  refine (run_inv 63 #[.pointer (some ⟨n + 1, 0, none⟩), .pointer (some ⟨n + 2, 0, none⟩), .pointer (some ⟨n, 0, none⟩)] eg s i k hi hs hk (signP s k) (SignI s k n w0) (fun j W hkj hj hI => sign1_any s k n j w0 W hs hkj hj hI) w h).mono ?_
  rintro e w' ⟨rfl, j, hj⟩
  exact ⟨by rw [signE_runP s k k (Nat.le_refl _)], hj.below⟩

theorem sign_start (s : ByteArray) (k : Nat) (t1 t2 t3 : TypeId) (w : World) : SignI s k w.heap.size w k (((w.alloc (.cells #[.string s] t1)).alloc (.cells #[.int .i64 (k : Int)] t2)).alloc (.cells #[.int .i64 (k : Int)] t3)) := by
  have h1 := alloc_at w (.cells #[.string s] t1)
  have h2 := alloc_at (w.alloc (.cells #[.string s] t1)) (.cells #[.int .i64 (k : Int)] t2)
  have h3 := alloc_at ((w.alloc (.cells #[.string s] t1)).alloc (.cells #[.int .i64 (k : Int)] t2)) (.cells #[.int .i64 (k : Int)] t3)
  simp only [World.size_alloc] at h2 h3
  refine ⟨?_, ?_, ?_, ?_, (by repeat (first | with_reducible exact Below.refl _ _ | (with_reducible refine Below.alloc ?_ ?_ _; rotate_left 1; (focus (first | omega | (simp; done) | (simp; omega)))) | (with_reducible refine Below.setCell ?_ ?_ _; rotate_left 1; (focus (first | omega | (simp; done) | (simp; omega)))) | with_reducible refine Below.drew ?_ | with_reducible refine below_drewN ?_ _))⟩
  · exact (cell_alloc _ _ (by first | omega | with_reducible rfl | (simp; done) | (simp; omega))).trans ((cell_alloc _ _ (by first | omega | with_reducible rfl | (simp; done) | (simp; omega))).trans (cell_at h1 0))
  · exact (cell_alloc _ _ (by first | omega | with_reducible rfl | (simp; done) | (simp; omega))).trans (cell_at h2 0)
  · exact cell_at h3 0
  · exact free_at ((alloc_old _ (by first | omega | with_reducible rfl | (simp; done) | (simp; omega))).trans h2) 0

theorem sign_any (s : ByteArray) (i : Int) (k : Nat) (hi : i = k) (hs : s.size ≤ 140737488355328) (hk : k < s.size) (w : World) :
    Calls Tryz.prog 41 #[.string s, .int .i64 i] w fun e w' => e = .returned (.int .i64 (signEnd s k)) ∧ Below w.heap.size w w' := by
  subst hi
  have hbt := (bt_of hk).symm
  by_cases h0 : bt s k = 124
  · have h0' : (bt s k == 124) = true := by simp [h0]
    have H0 := Lib.hid h0; clear h0
    go_enter Tryz.func41, Tryz.ntmps41
    go_wp2
    go_ret
    exact ⟨ret_int (by rw [signEnd, if_pos H0.out]; rfl), (by repeat (first | with_reducible exact Below.refl _ _ | (with_reducible refine Below.alloc ?_ ?_ _; rotate_left 1; (focus (first | omega | (simp; done) | (simp; omega)))) | (with_reducible refine Below.setCell ?_ ?_ _; rotate_left 1; (focus (first | omega | (simp; done) | (simp; omega)))) | with_reducible refine Below.drew ?_ | with_reducible refine below_drewN ?_ _))⟩
  · have h0' : (bt s k == 124) = false := by simpa using h0
    have hfin : signEnd s k = signE s k k := by rw [signEnd, if_neg h0]
    rw [hfin]; clear hfin h0
    go_enter Tryz.func41, Tryz.ntmps41
    go_wp2_with ((go_at_call 38; refine (run_sign s k w.heap.size w _ rfl hs (by omega) _ (sign_start s k _ _ _ w)).mono ?_; rintro e w' ⟨rfl, hb⟩))
    go_ret
    exact ⟨rfl, hb⟩
end Pal.S
