/- scan.Integer. -/
import Derived.Test.YtljiogkfabfkmaaGreatDoorS10
open Go Go.RowKit Go.Proofs
namespace Pal.S

theorem parse_pos {d : ByteArray} (h0 : 0 < d.size) (h : bt d 0 ≠ 45) (v : Int) (hv : Lib.parseIntB 64 d.data.toList = .ok v) : 0 ≤ v := by
  have e : d.data.toList = d[0] :: d.data.toList.drop 1 := by have := drop_bt h0; rwa [List.drop_zero] at this
  rw [e] at hv
  have hn : ¬ d[0].toNat = 45 := by rw [bt_of h0] at h; omega
  unfold Lib.parseIntB at hv
  simp only [hn] at hv
  split at hv
  · cases hv
  · cases hv
  · split at hv
    · cases hv
    · split at hv
      · cases hv
      · injection hv with hv
        rw [← hv]; simp

theorem plain_digit {b : ByteArray} (h0 : 0 < b.size) (h : runE digitB b 0 = b.size) : 0 < (plainS b).size ∧ digitB (bt (plainS b) 0) = true := by
  have hp := plainI_run b 0 (Nat.zero_le _)
  have hl : plainI b 0 < b.size := by
    rw [hp]; split
    · assumption
    · omega
  have hs : (plainS b).size = b.size - plainI b 0 := by simp [plainS]
  refine ⟨by omega, ?_⟩
  unfold plainS
  rw [bt_extract b (Nat.le_refl _) (by omega)]
  exact runE_all (p := digitB) (s := b) (i := 0) _ (by omega) (by omega)

def intM (s : ByteArray) : IntL × Int :=
  if (bareS s).size = 0 ∨ 255 < (plainS (bareS s)).size ∨ runE digitB (bareS s) 0 ≠ (bareS s).size then (⟨0, 0, noText⟩, 144) else (wholeM (plainS (bareS s)) (negB s), 0)

theorem bareS_le (s : ByteArray) : (bareS s).size ≤ s.size := by unfold bareS; split <;> simp
theorem plainS_le (s : ByteArray) : (plainS s).size ≤ s.size := by unfold plainS; simp

set_option maxHeartbeats 1000000 in
theorem Integer_any (s : ByteArray) (hs : s.size ≤ 140737488355328) (w : World) (he : Env w) :
    Calls Tryz.prog 26 #[.string s] w fun e w' => e = .returned (.tuple #[(intM s).1.v, .int .i64 (intM s).2]) ∧ Below w.heap.size w w' := by
  have hcut := CutPrefix_any s hs
  have hble := bareS_le s
  have hm : intM s = if (bareS s).size = 0 ∨ 255 < (plainS (bareS s)).size ∨ runE digitB (bareS s) 0 ≠ (bareS s).size then (⟨0, 0, noText⟩, 144) else (wholeM (plainS (bareS s)) (negB s), 0) := rfl
  generalize bareS s = b at *
  generalize negB s = minus at *
  have hb : b.size ≤ 140737488355328 := by omega
  have hpl := plain_any b hb
  have hpd := fun h0 h => plain_digit (b := b) h0 h
  have hple := plainS_le b
  generalize plainS b = t at *
  have HCUT := Lib.hid hcut; have HPL := Lib.hid hpl; clear hcut hpl
  by_cases h0 : 0 < b.size
  · have hl : b.toList.isEmpty = false := by rw [Bool.eq_false_iff, ne_eq, List.isEmpty_iff, nil_iff]; omega
    have hl2 : ¬ b.toList = [] := by rw [nil_iff]; omega
    by_cases h1 : t.size ≤ 255
    · by_cases h2 : runE digitB b 0 = b.size
      · rw [hm, if_neg (by omega)]
        have hp2 := hpd h0 h2
        have hwh := fun w' (h : Below w.heap.size w w') => whole_any t minus (by omega) (parse_pos hp2.1 (fun e => by rw [e] at hp2; exact absurd hp2.2 (by decide))) w' (he.below he.size h)
        have HWH := Lib.hid hwh; clear hwh hpd hp2 he hm
        have h2' : ((runE digitB b 0 : Int) == (b.size : Int)) = true := by simp [h2]
        have h2'' : ((runE digitB b 0 : Int) != (b.size : Int)) = false := by simp [h2]
        have H2 := Lib.hid h2; clear h2
        go_enter Tryz.func26, Tryz.ntmps26
        go_wp2_with (first | (go_at_call 49; refine (HCUT.out _).mono ?_; rintro e w' ⟨rfl, rfl⟩) | (go_at_call 52; refine (HPL.out _).mono ?_; rintro e w' ⟨rfl, rfl⟩) | (go_at_call 38; refine (run_digit b _ 0 (by omega) hb (by omega) _).mono ?_; rintro e w' ⟨rfl, rfl⟩) | (go_at_call 51; refine (HWH.out _ (by repeat (first | with_reducible exact Below.refl _ _ | (with_reducible refine Below.alloc ?_ ?_ _; rotate_left 1; (focus (first | omega | (simp; done) | (simp; omega)))) | (with_reducible refine Below.setCell ?_ ?_ _; rotate_left 1; (focus (first | omega | (simp; done) | (simp; omega)))) | with_reducible refine Below.drew ?_ | with_reducible refine below_drewN ?_ _))).mono ?_; rintro e w1 ⟨rfl, hb1⟩; obtain ⟨hc, hf, hz⟩ := grow hb1; have HB := Lib.hid (show Below w.heap.size w w1 from Below.on (W := w.alloc _) (by repeat (first | with_reducible exact Below.refl _ _ | (with_reducible refine Below.alloc ?_ ?_ _; rotate_left 1; (focus (first | omega | (simp; done) | (simp; omega)))) | (with_reducible refine Below.setCell ?_ ?_ _; rotate_left 1; (focus (first | omega | (simp; done) | (simp; omega)))) | with_reducible refine Below.drew ?_ | with_reducible refine below_drewN ?_ _)) hb1 (by simp)); clear hb1; unfold IntL.v))
        refine bodyPost_ret (by simp [results, Tryz.results26, go_sem, hc, hf, hz]; first | rfl | exact ⟨rfl, rfl⟩ | exact And.intro rfl rfl) rfl ⟨rfl, (by repeat (first | with_reducible exact Below.refl _ _ | with_reducible exact HB.out | (with_reducible refine Below.alloc ?_ ?_ _; rotate_left 1; (focus (first | omega | (simp; done) | (simp; omega)))) | (with_reducible refine Below.setCell ?_ ?_ _; rotate_left 1; (focus (first | omega | (simp; done) | (simp; omega)))) | with_reducible refine Below.drew ?_ | with_reducible refine below_drewN ?_ _))⟩
      · rw [hm, if_pos (by omega)]
        have h2' : ((runE digitB b 0 : Int) == (b.size : Int)) = false := by simp; omega
        have h2'' : ((runE digitB b 0 : Int) != (b.size : Int)) = true := by simp; omega
        clear hpd he hm
        go_enter Tryz.func26, Tryz.ntmps26
        go_wp2_with (first | (go_at_call 49; refine (HCUT.out _).mono ?_; rintro e w' ⟨rfl, rfl⟩) | (go_at_call 52; refine (HPL.out _).mono ?_; rintro e w' ⟨rfl, rfl⟩) | (go_at_call 38; refine (run_digit b _ 0 (by omega) hb (by omega) _).mono ?_; rintro e w' ⟨rfl, rfl⟩))
        refine bodyPost_ret (by simp [results, Tryz.results26, go_sem]; first | rfl | exact ⟨rfl, rfl⟩) rfl ⟨rfl, (by repeat (first | with_reducible exact Below.refl _ _ | (with_reducible refine Below.alloc ?_ ?_ _; rotate_left 1; (focus (first | omega | (simp; done) | (simp; omega)))) | (with_reducible refine Below.setCell ?_ ?_ _; rotate_left 1; (focus (first | omega | (simp; done) | (simp; omega)))) | with_reducible refine Below.drew ?_ | with_reducible refine below_drewN ?_ _))⟩
    · rw [hm, if_pos (by omega)]
      clear hpd he hm
      go_enter Tryz.func26, Tryz.ntmps26
      go_wp2_with (first | (go_at_call 49; refine (HCUT.out _).mono ?_; rintro e w' ⟨rfl, rfl⟩) | (go_at_call 52; refine (HPL.out _).mono ?_; rintro e w' ⟨rfl, rfl⟩))
      refine bodyPost_ret (by simp [results, Tryz.results26, go_sem]; first | rfl | exact ⟨rfl, rfl⟩) rfl ⟨rfl, (by repeat (first | with_reducible exact Below.refl _ _ | (with_reducible refine Below.alloc ?_ ?_ _; rotate_left 1; (focus (first | omega | (simp; done) | (simp; omega)))) | (with_reducible refine Below.setCell ?_ ?_ _; rotate_left 1; (focus (first | omega | (simp; done) | (simp; omega)))) | with_reducible refine Below.drew ?_ | with_reducible refine below_drewN ?_ _))⟩
  · rw [hm, if_pos (by omega)]
    have hl : b.toList.isEmpty = true := by rw [List.isEmpty_iff, nil_iff]; omega
    have hl2 : b.toList = [] := by rw [nil_iff]; omega
    clear hpd he hm
    go_enter Tryz.func26, Tryz.ntmps26
    go_wp2_with (first | (go_at_call 49; refine (HCUT.out _).mono ?_; rintro e w' ⟨rfl, rfl⟩) | (go_at_call 52; refine (HPL.out _).mono ?_; rintro e w' ⟨rfl, rfl⟩))
    refine bodyPost_ret (by simp [results, Tryz.results26, go_sem]; first | rfl | exact ⟨rfl, rfl⟩) rfl ⟨rfl, (by repeat (first | with_reducible exact Below.refl _ _ | (with_reducible refine Below.alloc ?_ ?_ _; rotate_left 1; (focus (first | omega | (simp; done) | (simp; omega)))) | (with_reducible refine Below.setCell ?_ ?_ _; rotate_left 1; (focus (first | omega | (simp; done) | (simp; omega)))) | with_reducible refine Below.drew ?_ | with_reducible refine below_drewN ?_ _))⟩
end Pal.S
