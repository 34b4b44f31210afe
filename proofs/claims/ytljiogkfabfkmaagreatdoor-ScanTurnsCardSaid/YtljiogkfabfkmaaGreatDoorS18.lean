/- scan.number where there is neither a point nor an r. -/
import Derived.Test.YtljiogkfabfkmaaGreatDoorS12
import Derived.Test.YtljiogkfabfkmaaGreatDoorS17
open Go Go.RowKit Go.Proofs
namespace Pal.S

def numP (s : ByteArray) (k : Nat) : Tok × Int :=
  if (intM (s.extract k (runE digitB s k))).2 = 0 ∧ letterB (bt s (runE digitB s k)) = false then
    (⟨4, s.extract k (runE digitB s k), k, (intM (s.extract k (runE digitB s k))).1.k, (intM (s.extract k (runE digitB s k))).1.n, 0, (intM (s.extract k (runE digitB s k))).1.t⟩, 0)
  else (zeroTok, 144)

set_option maxHeartbeats 1000000 in
theorem number_ok_p (s : ByteArray) (i : Int) (k : Nat) (hi : i = k) (hs : s.size ≤ 16384) (hk : k < s.size) (hr : bt s (runE digitB s k) ≠ 114) (h0 : (intM (s.extract k (runE digitB s k))).2 = 0) (hl : letterB (bt s (runE digitB s k)) = false) (hp : (bt s (runE digitB s k) == 46) = false) (w : World) (he : Env w) :
    Calls Tryz.prog 74 #[.string s, .int .i64 i] w fun e w' => e = .returned (tokV (numP s k)) ∧ Below w.heap.size w w' := by
  subst hi
  have hv : numP s k = _ := numP.eq_1 s k
  have hge := runE_ge digitB s k
  have hle := runE_le digitB s k (by omega)
  have hrun := run_digit s k k rfl (by omega) (by omega)
  have hrg := bt_range s (runE digitB s k)
  have hrg1 := bt_range s (runE digitB s k + 1)
  generalize runE digitB s k = r at *
  have hp1 := peek_any s _ r rfl
  have hp2 := peek_any s _ (r + 1) (show (r : Int) + 1 = ((r + 1 : Nat) : Int) by omega)
  have hlt := letter_any (bt s r) (hc := hrg)
  have hdg := digit_any (bt s (r + 1)) (hc := hrg1)
  have b1 : (bt s r == 114) = false := by simpa using hr
  have hint := fun w' (h : Below w.heap.size w w') => Integer_any (s.extract k r) (by simp; omega) w' (he.below he.size h)
  generalize bt s r = c at *
  generalize bt s (r + 1) = c1 at *
  generalize intM (s.extract k r) = q at *
  obtain ⟨l, e⟩ := q
  clear hr he
  dsimp only at h0
  rw [hv]; clear hv
  subst h0
  rw [hl] at hlt
  rw [if_pos ⟨rfl, hl⟩]
  have HRUN := Lib.hid hrun; have HP1 := Lib.hid hp1; have HP2 := Lib.hid hp2; have HL := Lib.hid hlt; have HD := Lib.hid hdg; have HI := Lib.hid hint
  clear hrun hp1 hp2 hlt hdg hint
  dsimp only at HI ⊢
  unfold IntL.v at HI
  go_enter Tryz.func74, Tryz.ntmps74
  go_wp2_with (first | (go_at_call 38; refine (HRUN.out _).mono ?_; rintro e w' ⟨rfl, rfl⟩) | (go_at_call 64; first | (with_reducible refine (HP1.out _).mono ?_; rintro e w' ⟨rfl, rfl⟩) | (with_reducible refine (HP2.out _).mono ?_; rintro e w' ⟨rfl, rfl⟩)) | (go_at_call 37; refine (HL.out _).mono ?_; rintro e w' ⟨rfl, rfl⟩) | (go_at_call 53; refine (HD.out _).mono ?_; rintro e w' ⟨rfl, rfl⟩) | (go_at_call 26; refine (HI.out _ (by repeat (first | with_reducible exact Below.refl _ _ | (with_reducible refine Below.alloc ?_ ?_ _; rotate_left 1; (focus (first | omega | (simp; done) | (simp; omega)))) | (with_reducible refine Below.setCell ?_ ?_ _; rotate_left 1; (focus (first | omega | (simp; done) | (simp; omega)))) | with_reducible refine Below.drew ?_ | with_reducible refine below_drewN ?_ _))).mono ?_; rintro e w1 ⟨rfl, hb1⟩; obtain ⟨hc, hf, hz⟩ := grow hb1; have HB := Lib.hid (show Below w.heap.size w w1 from Below.on (W := (w.alloc _).alloc _) (by repeat (first | with_reducible exact Below.refl _ _ | (with_reducible refine Below.alloc ?_ ?_ _; rotate_left 1; (focus (first | omega | (simp; done) | (simp; omega)))) | (with_reducible refine Below.setCell ?_ ?_ _; rotate_left 1; (focus (first | omega | (simp; done) | (simp; omega)))) | with_reducible refine Below.drew ?_ | with_reducible refine below_drewN ?_ _)) hb1 (by simp; omega)); have s0 := hz w.heap.size (by simp; omega); have s1 := hz (w.heap.size + 1) (by simp); clear hb1))
  have hq := fun o => hc w.heap.size o (by simp; omega)
  have hqf := fun o => hf w.heap.size o (by simp; omega)
  refine bodyPost_ret (by simp [results, Tryz.results74, go_sem, hq, hqf, s0]; first | rfl | exact ⟨rfl, rfl⟩) rfl ⟨rfl, (by repeat (first | with_reducible exact Below.refl _ _ | with_reducible exact HB.out | (with_reducible refine Below.alloc ?_ ?_ _; rotate_left 1; (focus (first | omega | (simp; done) | (simp; omega)))) | (with_reducible refine Below.setCell ?_ ?_ _; rotate_left 1; (focus (first | omega | (simp; done) | (simp; omega)))) | with_reducible refine Below.drew ?_ | with_reducible refine below_drewN ?_ _))⟩

set_option maxHeartbeats 1000000 in
theorem number_ok_q (s : ByteArray) (i : Int) (k : Nat) (hi : i = k) (hs : s.size ≤ 16384) (hk : k < s.size) (hr : bt s (runE digitB s k) ≠ 114) (h0 : (intM (s.extract k (runE digitB s k))).2 = 0) (hl : letterB (bt s (runE digitB s k)) = false) (hp : (bt s (runE digitB s k) == 46) = true) (hd : digitB (bt s (runE digitB s k + 1)) = false) (w : World) (he : Env w) :
    Calls Tryz.prog 74 #[.string s, .int .i64 i] w fun e w' => e = .returned (tokV (numP s k)) ∧ Below w.heap.size w w' := by
  subst hi
  have hv : numP s k = _ := numP.eq_1 s k
  have hge := runE_ge digitB s k
  have hle := runE_le digitB s k (by omega)
  have hrun := run_digit s k k rfl (by omega) (by omega)
  have hrg := bt_range s (runE digitB s k)
  have hrg1 := bt_range s (runE digitB s k + 1)
  generalize runE digitB s k = r at *
  have hp1 := peek_any s _ r rfl
  have hp2 := peek_any s _ (r + 1) (show (r : Int) + 1 = ((r + 1 : Nat) : Int) by omega)
  have hlt := letter_any (bt s r) (hc := hrg)
  have hdg := digit_any (bt s (r + 1)) (hc := hrg1)
  have b1 : (bt s r == 114) = false := by simpa using hr
  have hint := fun w' (h : Below w.heap.size w w') => Integer_any (s.extract k r) (by simp; omega) w' (he.below he.size h)
  generalize bt s r = c at *
  generalize bt s (r + 1) = c1 at *
  generalize intM (s.extract k r) = q at *
  obtain ⟨l, e⟩ := q
  clear hr he
  dsimp only at h0
  rw [hv]; clear hv
  subst h0
  rw [hl] at hlt
  rw [if_pos ⟨rfl, hl⟩]
  rw [hd] at hdg
  have HRUN := Lib.hid hrun; have HP1 := Lib.hid hp1; have HP2 := Lib.hid hp2; have HL := Lib.hid hlt; have HD := Lib.hid hdg; have HI := Lib.hid hint
  clear hrun hp1 hp2 hlt hdg hint
  dsimp only at HI ⊢
  unfold IntL.v at HI
  go_enter Tryz.func74, Tryz.ntmps74
  go_wp2_with (first | (go_at_call 38; refine (HRUN.out _).mono ?_; rintro e w' ⟨rfl, rfl⟩) | (go_at_call 64; first | (with_reducible refine (HP1.out _).mono ?_; rintro e w' ⟨rfl, rfl⟩) | (with_reducible refine (HP2.out _).mono ?_; rintro e w' ⟨rfl, rfl⟩)) | (go_at_call 37; refine (HL.out _).mono ?_; rintro e w' ⟨rfl, rfl⟩) | (go_at_call 53; refine (HD.out _).mono ?_; rintro e w' ⟨rfl, rfl⟩) | (go_at_call 26; refine (HI.out _ (by repeat (first | with_reducible exact Below.refl _ _ | (with_reducible refine Below.alloc ?_ ?_ _; rotate_left 1; (focus (first | omega | (simp; done) | (simp; omega)))) | (with_reducible refine Below.setCell ?_ ?_ _; rotate_left 1; (focus (first | omega | (simp; done) | (simp; omega)))) | with_reducible refine Below.drew ?_ | with_reducible refine below_drewN ?_ _))).mono ?_; rintro e w1 ⟨rfl, hb1⟩; obtain ⟨hc, hf, hz⟩ := grow hb1; have HB := Lib.hid (show Below w.heap.size w w1 from Below.on (W := (w.alloc _).alloc _) (by repeat (first | with_reducible exact Below.refl _ _ | (with_reducible refine Below.alloc ?_ ?_ _; rotate_left 1; (focus (first | omega | (simp; done) | (simp; omega)))) | (with_reducible refine Below.setCell ?_ ?_ _; rotate_left 1; (focus (first | omega | (simp; done) | (simp; omega)))) | with_reducible refine Below.drew ?_ | with_reducible refine below_drewN ?_ _)) hb1 (by simp; omega)); have s0 := hz w.heap.size (by simp; omega); have s1 := hz (w.heap.size + 1) (by simp); clear hb1))
  have hq := fun o => hc w.heap.size o (by simp; omega)
  have hqf := fun o => hf w.heap.size o (by simp; omega)
  refine bodyPost_ret (by simp [results, Tryz.results74, go_sem, hq, hqf, s0]; first | rfl | exact ⟨rfl, rfl⟩) rfl ⟨rfl, (by repeat (first | with_reducible exact Below.refl _ _ | with_reducible exact HB.out | (with_reducible refine Below.alloc ?_ ?_ _; rotate_left 1; (focus (first | omega | (simp; done) | (simp; omega)))) | (with_reducible refine Below.setCell ?_ ?_ _; rotate_left 1; (focus (first | omega | (simp; done) | (simp; omega)))) | with_reducible refine Below.drew ?_ | with_reducible refine below_drewN ?_ _))⟩

set_option maxHeartbeats 1000000 in
theorem number_let_p (s : ByteArray) (i : Int) (k : Nat) (hi : i = k) (hs : s.size ≤ 16384) (hk : k < s.size) (hr : bt s (runE digitB s k) ≠ 114) (h0 : (intM (s.extract k (runE digitB s k))).2 = 0) (hl : letterB (bt s (runE digitB s k)) = true) (hp : (bt s (runE digitB s k) == 46) = false) (w : World) (he : Env w) :
    Calls Tryz.prog 74 #[.string s, .int .i64 i] w fun e w' => e = .returned (tokV (numP s k)) ∧ Below w.heap.size w w' := by
  subst hi
  have hv : numP s k = _ := numP.eq_1 s k
  have hge := runE_ge digitB s k
  have hle := runE_le digitB s k (by omega)
  have hrun := run_digit s k k rfl (by omega) (by omega)
  have hrg := bt_range s (runE digitB s k)
  have hrg1 := bt_range s (runE digitB s k + 1)
  generalize runE digitB s k = r at *
  have hp1 := peek_any s _ r rfl
  have hp2 := peek_any s _ (r + 1) (show (r : Int) + 1 = ((r + 1 : Nat) : Int) by omega)
  have hlt := letter_any (bt s r) (hc := hrg)
  have hdg := digit_any (bt s (r + 1)) (hc := hrg1)
  have b1 : (bt s r == 114) = false := by simpa using hr
  have hint := fun w' (h : Below w.heap.size w w') => Integer_any (s.extract k r) (by simp; omega) w' (he.below he.size h)
  generalize bt s r = c at *
  generalize bt s (r + 1) = c1 at *
  generalize intM (s.extract k r) = q at *
  obtain ⟨l, e⟩ := q
  clear hr he
  dsimp only at h0
  rw [hv]; clear hv
  subst h0
  rw [hl] at hlt
  rw [if_neg (fun h => by rw [hl] at h; exact absurd h.2 (by decide))]
  have HRUN := Lib.hid hrun; have HP1 := Lib.hid hp1; have HP2 := Lib.hid hp2; have HL := Lib.hid hlt; have HD := Lib.hid hdg; have HI := Lib.hid hint
  clear hrun hp1 hp2 hlt hdg hint
  dsimp only at HI ⊢
  unfold IntL.v at HI
  go_enter Tryz.func74, Tryz.ntmps74
  go_wp2_with (first | (go_at_call 38; refine (HRUN.out _).mono ?_; rintro e w' ⟨rfl, rfl⟩) | (go_at_call 64; first | (with_reducible refine (HP1.out _).mono ?_; rintro e w' ⟨rfl, rfl⟩) | (with_reducible refine (HP2.out _).mono ?_; rintro e w' ⟨rfl, rfl⟩)) | (go_at_call 37; refine (HL.out _).mono ?_; rintro e w' ⟨rfl, rfl⟩) | (go_at_call 53; refine (HD.out _).mono ?_; rintro e w' ⟨rfl, rfl⟩) | (go_at_call 26; refine (HI.out _ (by repeat (first | with_reducible exact Below.refl _ _ | (with_reducible refine Below.alloc ?_ ?_ _; rotate_left 1; (focus (first | omega | (simp; done) | (simp; omega)))) | (with_reducible refine Below.setCell ?_ ?_ _; rotate_left 1; (focus (first | omega | (simp; done) | (simp; omega)))) | with_reducible refine Below.drew ?_ | with_reducible refine below_drewN ?_ _))).mono ?_; rintro e w1 ⟨rfl, hb1⟩; obtain ⟨hc, hf, hz⟩ := grow hb1; have HB := Lib.hid (show Below w.heap.size w w1 from Below.on (W := (w.alloc _).alloc _) (by repeat (first | with_reducible exact Below.refl _ _ | (with_reducible refine Below.alloc ?_ ?_ _; rotate_left 1; (focus (first | omega | (simp; done) | (simp; omega)))) | (with_reducible refine Below.setCell ?_ ?_ _; rotate_left 1; (focus (first | omega | (simp; done) | (simp; omega)))) | with_reducible refine Below.drew ?_ | with_reducible refine below_drewN ?_ _)) hb1 (by simp; omega)); have s0 := hz w.heap.size (by simp; omega); have s1 := hz (w.heap.size + 1) (by simp); clear hb1))
  have hq := fun o => hc w.heap.size o (by simp; omega)
  have hqf := fun o => hf w.heap.size o (by simp; omega)
  refine bodyPost_ret (by simp [results, Tryz.results74, go_sem, hq, hqf, s0]; first | rfl | exact ⟨rfl, rfl⟩) rfl ⟨rfl, (by repeat (first | with_reducible exact Below.refl _ _ | with_reducible exact HB.out | (with_reducible refine Below.alloc ?_ ?_ _; rotate_left 1; (focus (first | omega | (simp; done) | (simp; omega)))) | (with_reducible refine Below.setCell ?_ ?_ _; rotate_left 1; (focus (first | omega | (simp; done) | (simp; omega)))) | with_reducible refine Below.drew ?_ | with_reducible refine below_drewN ?_ _))⟩

set_option maxHeartbeats 1000000 in
theorem number_let_q (s : ByteArray) (i : Int) (k : Nat) (hi : i = k) (hs : s.size ≤ 16384) (hk : k < s.size) (hr : bt s (runE digitB s k) ≠ 114) (h0 : (intM (s.extract k (runE digitB s k))).2 = 0) (hl : letterB (bt s (runE digitB s k)) = true) (hp : (bt s (runE digitB s k) == 46) = true) (hd : digitB (bt s (runE digitB s k + 1)) = false) (w : World) (he : Env w) :
    Calls Tryz.prog 74 #[.string s, .int .i64 i] w fun e w' => e = .returned (tokV (numP s k)) ∧ Below w.heap.size w w' := by
  subst hi
  have hv : numP s k = _ := numP.eq_1 s k
  have hge := runE_ge digitB s k
  have hle := runE_le digitB s k (by omega)
  have hrun := run_digit s k k rfl (by omega) (by omega)
  have hrg := bt_range s (runE digitB s k)
  have hrg1 := bt_range s (runE digitB s k + 1)
  generalize runE digitB s k = r at *
  have hp1 := peek_any s _ r rfl
  have hp2 := peek_any s _ (r + 1) (show (r : Int) + 1 = ((r + 1 : Nat) : Int) by omega)
  have hlt := letter_any (bt s r) (hc := hrg)
  have hdg := digit_any (bt s (r + 1)) (hc := hrg1)
  have b1 : (bt s r == 114) = false := by simpa using hr
  have hint := fun w' (h : Below w.heap.size w w') => Integer_any (s.extract k r) (by simp; omega) w' (he.below he.size h)
  generalize bt s r = c at *
  generalize bt s (r + 1) = c1 at *
  generalize intM (s.extract k r) = q at *
  obtain ⟨l, e⟩ := q
  clear hr he
  dsimp only at h0
  rw [hv]; clear hv
  subst h0
  rw [hl] at hlt
  rw [if_neg (fun h => by rw [hl] at h; exact absurd h.2 (by decide))]
  rw [hd] at hdg
  have HRUN := Lib.hid hrun; have HP1 := Lib.hid hp1; have HP2 := Lib.hid hp2; have HL := Lib.hid hlt; have HD := Lib.hid hdg; have HI := Lib.hid hint
  clear hrun hp1 hp2 hlt hdg hint
  dsimp only at HI ⊢
  unfold IntL.v at HI
  go_enter Tryz.func74, Tryz.ntmps74
  go_wp2_with (first | (go_at_call 38; refine (HRUN.out _).mono ?_; rintro e w' ⟨rfl, rfl⟩) | (go_at_call 64; first | (with_reducible refine (HP1.out _).mono ?_; rintro e w' ⟨rfl, rfl⟩) | (with_reducible refine (HP2.out _).mono ?_; rintro e w' ⟨rfl, rfl⟩)) | (go_at_call 37; refine (HL.out _).mono ?_; rintro e w' ⟨rfl, rfl⟩) | (go_at_call 53; refine (HD.out _).mono ?_; rintro e w' ⟨rfl, rfl⟩) | (go_at_call 26; refine (HI.out _ (by repeat (first | with_reducible exact Below.refl _ _ | (with_reducible refine Below.alloc ?_ ?_ _; rotate_left 1; (focus (first | omega | (simp; done) | (simp; omega)))) | (with_reducible refine Below.setCell ?_ ?_ _; rotate_left 1; (focus (first | omega | (simp; done) | (simp; omega)))) | with_reducible refine Below.drew ?_ | with_reducible refine below_drewN ?_ _))).mono ?_; rintro e w1 ⟨rfl, hb1⟩; obtain ⟨hc, hf, hz⟩ := grow hb1; have HB := Lib.hid (show Below w.heap.size w w1 from Below.on (W := (w.alloc _).alloc _) (by repeat (first | with_reducible exact Below.refl _ _ | (with_reducible refine Below.alloc ?_ ?_ _; rotate_left 1; (focus (first | omega | (simp; done) | (simp; omega)))) | (with_reducible refine Below.setCell ?_ ?_ _; rotate_left 1; (focus (first | omega | (simp; done) | (simp; omega)))) | with_reducible refine Below.drew ?_ | with_reducible refine below_drewN ?_ _)) hb1 (by simp; omega)); have s0 := hz w.heap.size (by simp; omega); have s1 := hz (w.heap.size + 1) (by simp); clear hb1))
  have hq := fun o => hc w.heap.size o (by simp; omega)
  have hqf := fun o => hf w.heap.size o (by simp; omega)
  refine bodyPost_ret (by simp [results, Tryz.results74, go_sem, hq, hqf, s0]; first | rfl | exact ⟨rfl, rfl⟩) rfl ⟨rfl, (by repeat (first | with_reducible exact Below.refl _ _ | with_reducible exact HB.out | (with_reducible refine Below.alloc ?_ ?_ _; rotate_left 1; (focus (first | omega | (simp; done) | (simp; omega)))) | (with_reducible refine Below.setCell ?_ ?_ _; rotate_left 1; (focus (first | omega | (simp; done) | (simp; omega)))) | with_reducible refine Below.drew ?_ | with_reducible refine below_drewN ?_ _))⟩

set_option maxHeartbeats 1000000 in
theorem number_bad_p (s : ByteArray) (i : Int) (k : Nat) (hi : i = k) (hs : s.size ≤ 16384) (hk : k < s.size) (hr : bt s (runE digitB s k) ≠ 114) (h0 : (intM (s.extract k (runE digitB s k))).2 ≠ 0) (hp : (bt s (runE digitB s k) == 46) = false) (w : World) (he : Env w) :
    Calls Tryz.prog 74 #[.string s, .int .i64 i] w fun e w' => e = .returned (tokV (numP s k)) ∧ Below w.heap.size w w' := by
  subst hi
  have hv : numP s k = _ := numP.eq_1 s k
  have hge := runE_ge digitB s k
  have hle := runE_le digitB s k (by omega)
  have hrun := run_digit s k k rfl (by omega) (by omega)
  have hrg := bt_range s (runE digitB s k)
  have hrg1 := bt_range s (runE digitB s k + 1)
  generalize runE digitB s k = r at *
  have hp1 := peek_any s _ r rfl
  have hp2 := peek_any s _ (r + 1) (show (r : Int) + 1 = ((r + 1 : Nat) : Int) by omega)
  have hlt := letter_any (bt s r) (hc := hrg)
  have hdg := digit_any (bt s (r + 1)) (hc := hrg1)
  have b1 : (bt s r == 114) = false := by simpa using hr
  have hint := fun w' (h : Below w.heap.size w w') => Integer_any (s.extract k r) (by simp; omega) w' (he.below he.size h)
  generalize bt s r = c at *
  generalize bt s (r + 1) = c1 at *
  generalize intM (s.extract k r) = q at *
  obtain ⟨l, e⟩ := q
  clear hr he
  dsimp only at h0
  rw [hv]; clear hv
  have b0 : (e == 0) = false := by simpa using h0
  rw [if_neg (fun h => h0 h.1)]
  have HRUN := Lib.hid hrun; have HP1 := Lib.hid hp1; have HP2 := Lib.hid hp2; have HL := Lib.hid hlt; have HD := Lib.hid hdg; have HI := Lib.hid hint
  clear hrun hp1 hp2 hlt hdg hint
  dsimp only at HI ⊢
  unfold IntL.v at HI
  go_enter Tryz.func74, Tryz.ntmps74
  go_wp2_with (first | (go_at_call 38; refine (HRUN.out _).mono ?_; rintro e w' ⟨rfl, rfl⟩) | (go_at_call 64; first | (with_reducible refine (HP1.out _).mono ?_; rintro e w' ⟨rfl, rfl⟩) | (with_reducible refine (HP2.out _).mono ?_; rintro e w' ⟨rfl, rfl⟩)) | (go_at_call 37; refine (HL.out _).mono ?_; rintro e w' ⟨rfl, rfl⟩) | (go_at_call 53; refine (HD.out _).mono ?_; rintro e w' ⟨rfl, rfl⟩) | (go_at_call 26; refine (HI.out _ (by repeat (first | with_reducible exact Below.refl _ _ | (with_reducible refine Below.alloc ?_ ?_ _; rotate_left 1; (focus (first | omega | (simp; done) | (simp; omega)))) | (with_reducible refine Below.setCell ?_ ?_ _; rotate_left 1; (focus (first | omega | (simp; done) | (simp; omega)))) | with_reducible refine Below.drew ?_ | with_reducible refine below_drewN ?_ _))).mono ?_; rintro e w1 ⟨rfl, hb1⟩; obtain ⟨hc, hf, hz⟩ := grow hb1; have HB := Lib.hid (show Below w.heap.size w w1 from Below.on (W := (w.alloc _).alloc _) (by repeat (first | with_reducible exact Below.refl _ _ | (with_reducible refine Below.alloc ?_ ?_ _; rotate_left 1; (focus (first | omega | (simp; done) | (simp; omega)))) | (with_reducible refine Below.setCell ?_ ?_ _; rotate_left 1; (focus (first | omega | (simp; done) | (simp; omega)))) | with_reducible refine Below.drew ?_ | with_reducible refine below_drewN ?_ _)) hb1 (by simp; omega)); have s0 := hz w.heap.size (by simp; omega); have s1 := hz (w.heap.size + 1) (by simp); clear hb1))
  have hq := fun o => hc w.heap.size o (by simp; omega)
  have hqf := fun o => hf w.heap.size o (by simp; omega)
  refine bodyPost_ret (by simp [results, Tryz.results74, go_sem, hq, hqf, s0]; first | rfl | exact ⟨rfl, rfl⟩) rfl ⟨rfl, (by repeat (first | with_reducible exact Below.refl _ _ | with_reducible exact HB.out | (with_reducible refine Below.alloc ?_ ?_ _; rotate_left 1; (focus (first | omega | (simp; done) | (simp; omega)))) | (with_reducible refine Below.setCell ?_ ?_ _; rotate_left 1; (focus (first | omega | (simp; done) | (simp; omega)))) | with_reducible refine Below.drew ?_ | with_reducible refine below_drewN ?_ _))⟩

set_option maxHeartbeats 1000000 in
theorem number_bad_q (s : ByteArray) (i : Int) (k : Nat) (hi : i = k) (hs : s.size ≤ 16384) (hk : k < s.size) (hr : bt s (runE digitB s k) ≠ 114) (h0 : (intM (s.extract k (runE digitB s k))).2 ≠ 0) (hp : (bt s (runE digitB s k) == 46) = true) (hd : digitB (bt s (runE digitB s k + 1)) = false) (w : World) (he : Env w) :
    Calls Tryz.prog 74 #[.string s, .int .i64 i] w fun e w' => e = .returned (tokV (numP s k)) ∧ Below w.heap.size w w' := by
  subst hi
  have hv : numP s k = _ := numP.eq_1 s k
  have hge := runE_ge digitB s k
  have hle := runE_le digitB s k (by omega)
  have hrun := run_digit s k k rfl (by omega) (by omega)
  have hrg := bt_range s (runE digitB s k)
  have hrg1 := bt_range s (runE digitB s k + 1)
  generalize runE digitB s k = r at *
  have hp1 := peek_any s _ r rfl
  have hp2 := peek_any s _ (r + 1) (show (r : Int) + 1 = ((r + 1 : Nat) : Int) by omega)
  have hlt := letter_any (bt s r) (hc := hrg)
  have hdg := digit_any (bt s (r + 1)) (hc := hrg1)
  have b1 : (bt s r == 114) = false := by simpa using hr
  have hint := fun w' (h : Below w.heap.size w w') => Integer_any (s.extract k r) (by simp; omega) w' (he.below he.size h)
  generalize bt s r = c at *
  generalize bt s (r + 1) = c1 at *
  generalize intM (s.extract k r) = q at *
  obtain ⟨l, e⟩ := q
  clear hr he
  dsimp only at h0
  rw [hv]; clear hv
  have b0 : (e == 0) = false := by simpa using h0
  rw [if_neg (fun h => h0 h.1)]
  rw [hd] at hdg
  have HRUN := Lib.hid hrun; have HP1 := Lib.hid hp1; have HP2 := Lib.hid hp2; have HL := Lib.hid hlt; have HD := Lib.hid hdg; have HI := Lib.hid hint
  clear hrun hp1 hp2 hlt hdg hint
  dsimp only at HI ⊢
  unfold IntL.v at HI
  go_enter Tryz.func74, Tryz.ntmps74
  go_wp2_with (first | (go_at_call 38; refine (HRUN.out _).mono ?_; rintro e w' ⟨rfl, rfl⟩) | (go_at_call 64; first | (with_reducible refine (HP1.out _).mono ?_; rintro e w' ⟨rfl, rfl⟩) | (with_reducible refine (HP2.out _).mono ?_; rintro e w' ⟨rfl, rfl⟩)) | (go_at_call 37; refine (HL.out _).mono ?_; rintro e w' ⟨rfl, rfl⟩) | (go_at_call 53; refine (HD.out _).mono ?_; rintro e w' ⟨rfl, rfl⟩) | (go_at_call 26; refine (HI.out _ (by repeat (first | with_reducible exact Below.refl _ _ | (with_reducible refine Below.alloc ?_ ?_ _; rotate_left 1; (focus (first | omega | (simp; done) | (simp; omega)))) | (with_reducible refine Below.setCell ?_ ?_ _; rotate_left 1; (focus (first | omega | (simp; done) | (simp; omega)))) | with_reducible refine Below.drew ?_ | with_reducible refine below_drewN ?_ _))).mono ?_; rintro e w1 ⟨rfl, hb1⟩; obtain ⟨hc, hf, hz⟩ := grow hb1; have HB := Lib.hid (show Below w.heap.size w w1 from Below.on (W := (w.alloc _).alloc _) (by repeat (first | with_reducible exact Below.refl _ _ | (with_reducible refine Below.alloc ?_ ?_ _; rotate_left 1; (focus (first | omega | (simp; done) | (simp; omega)))) | (with_reducible refine Below.setCell ?_ ?_ _; rotate_left 1; (focus (first | omega | (simp; done) | (simp; omega)))) | with_reducible refine Below.drew ?_ | with_reducible refine below_drewN ?_ _)) hb1 (by simp; omega)); have s0 := hz w.heap.size (by simp; omega); have s1 := hz (w.heap.size + 1) (by simp); clear hb1))
  have hq := fun o => hc w.heap.size o (by simp; omega)
  have hqf := fun o => hf w.heap.size o (by simp; omega)
  refine bodyPost_ret (by simp [results, Tryz.results74, go_sem, hq, hqf, s0]; first | rfl | exact ⟨rfl, rfl⟩) rfl ⟨rfl, (by repeat (first | with_reducible exact Below.refl _ _ | with_reducible exact HB.out | (with_reducible refine Below.alloc ?_ ?_ _; rotate_left 1; (focus (first | omega | (simp; done) | (simp; omega)))) | (with_reducible refine Below.setCell ?_ ?_ _; rotate_left 1; (focus (first | omega | (simp; done) | (simp; omega)))) | with_reducible refine Below.drew ?_ | with_reducible refine below_drewN ?_ _))⟩

theorem number_digits (s : ByteArray) (i : Int) (k : Nat) (hi : i = k) (hs : s.size ≤ 16384) (hk : k < s.size) (hr : bt s (runE digitB s k) ≠ 114) (hp : ¬ (bt s (runE digitB s k) = 46 ∧ digitB (bt s (runE digitB s k + 1)) = true)) (w : World) (he : Env w) :
    Calls Tryz.prog 74 #[.string s, .int .i64 i] w fun e w' => e = .returned (tokV (numP s k)) ∧ Below w.heap.size w w' := by
  have hcase : (bt s (runE digitB s k) == 46) = false ∨ ((bt s (runE digitB s k) == 46) = true ∧ digitB (bt s (runE digitB s k + 1)) = false) := by
    cases h : (bt s (runE digitB s k) == 46)
    · exact .inl rfl
    · exact .inr ⟨rfl, by simpa using fun hd => hp ⟨by simpa using h, hd⟩⟩
  by_cases h0 : (intM (s.extract k (runE digitB s k))).2 = 0
  · cases hl : letterB (bt s (runE digitB s k))
    · rcases hcase with h | ⟨h, h'⟩
      · exact number_ok_p s i k hi hs hk hr h0 hl h w he
      · exact number_ok_q s i k hi hs hk hr h0 hl h h' w he
    · rcases hcase with h | ⟨h, h'⟩
      · exact number_let_p s i k hi hs hk hr h0 hl h w he
      · exact number_let_q s i k hi hs hk hr h0 hl h h' w he
  · rcases hcase with h | ⟨h, h'⟩
    · exact number_bad_p s i k hi hs hk hr h0 h w he
    · exact number_bad_q s i k hi hs hk hr h0 h h' w he
end Pal.S
