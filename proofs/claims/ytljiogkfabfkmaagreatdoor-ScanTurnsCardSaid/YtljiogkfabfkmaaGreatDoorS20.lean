/- scan.first, scan.Next. -/
import Derived.Test.YtljiogkfabfkmaaGreatDoorTokLaw
import Derived.Test.YtljiogkfabfkmaaGreatDoorScanT
import Derived.IntWalk
import Derived.StillTailTactics
open Go Go.RowKit Go.Proofs
namespace Pal.S

theorem appTok : AppT Tryz.prog 31 45 8 96 :=
  AppT.mk (z := .agg #[.int .u8 0, .string ⟨#[]⟩, .int .i64 0, .int .u8 0, .int .i64 0, .int .u64 0, .string ⟨#[]⟩, .slice none 0 0]) Tryz.underlying31 (by kernel_rfl) rfl (by decide)

/-- a token, OK or an error, and a place -/
def tok3V (r : Tok × Int × Nat) : Value := .tuple #[.agg r.1.cells.toArray, .int .i64 r.2.1, .int .i64 r.2.2]
theorem tok_split (r : Tok × Int) : ∃ kd tx ps lk ln lb lt er, r = (⟨kd, tx, ps, lk, ln, lb, lt⟩, er) := by
  obtain ⟨⟨kd, tx, ps, lk, ln, lb, lt⟩, er⟩ := r; exact ⟨_, _, _, _, _, _, _, _, rfl⟩
theorem tok3_split (r : Tok × Int × Nat) : ∃ kd tx ps lk ln lb lt er bad, r = (⟨kd, tx, ps, lk, ln, lb, lt⟩, er, bad) := by
  obtain ⟨⟨kd, tx, ps, lk, ln, lb, lt⟩, er, bad⟩ := r; exact ⟨_, _, _, _, _, _, _, _, _, rfl⟩
theorem bne_f {e : Int} (h : e = 0) : (e != 0) = false := by simp [h]
theorem bne_t {e : Int} (h : ¬ e = 0) : (e != 0) = true := by simp [h]
theorem beq_f {a b : Int} (h : a ≠ b) : (a == b) = false := by simpa using h
theorem bel1 {w w1 : World} {o : Obj} (h : Below (w.alloc o).heap.size (w.alloc o) w1) : Below w.heap.size w w1 :=
  ((Below.refl w.heap.size w).alloc (Nat.le_refl _) o).trans (h.mono (by simp))

set_option maxRecDepth 100000 in
set_option maxHeartbeats 4000000 in
theorem first_any (num : ByteArray → Nat → Tok × Int) (s : ByteArray) (hnum : NumOk num s) (i : Int) (k : Nat) (hi : i = k) (hs : s.size ≤ 16384) (hk : k ≤ s.size) (w : World) (he : Env w) :
    Calls Tryz.prog 30 #[.string s, .int .i64 i] w fun e w' => e = .returned (tok3V (firstM num s k)) ∧ Below w.heap.size w w' := by
  subst hi
  have htk := fun (j : Nat) (hj : j < s.size) w' (h : Below w.heap.size w w') => token_any num s hnum (j : Int) j rfl hs hj w' (he.below he.size h)
  have HNUM := Lib.hid hnum; clear hnum he
  have HM := Lib.hid (firstM.eq_1 num s k)
  have h2 := overE_le s k hk
  have hsk := skip_any s (k : Int) k rfl (by omega) hk
  obtain ⟨q, hq⟩ : ∃ q, overE s k = q := ⟨_, rfl⟩
  obtain ⟨j, ok⟩ := q
  rw [hq] at h2 HM hsk
  clear hq
  have HSK := Lib.hid hsk; clear hsk
  simp only at h2
  cases ok
  · clear htk
    go_enter Tryz.func30, Tryz.ntmps30
    go_wp2_with (first | (go_at_call 55; refine (HSK.out _).mono ?_; rintro e w' ⟨rfl, rfl⟩))
    refine bodyPost_ret (by simp [results, Tryz.results30, go_sem]; rfl) rfl ⟨?_, (by repeat (first | with_reducible exact Below.refl _ _ | (with_reducible refine Below.alloc ?_ ?_ _; rotate_left 1; (focus (first | omega | (simp; done) | (simp; omega)))) | (with_reducible refine Below.setCell ?_ ?_ _; rotate_left 1; (focus (first | omega | (simp; done) | (simp; omega)))) | with_reducible refine Below.drew ?_ | with_reducible refine below_drewN ?_ _))⟩
    rw [HM.out, if_pos trivial]; rfl
  · by_cases he : j = s.size
    · have he' : ((j : Int) == (s.size : Int)) = true := by simp [he]
      have HE := Lib.hid he; clear he htk
      go_enter Tryz.func30, Tryz.ntmps30
      go_wp2_with (first | (go_at_call 55; refine (HSK.out _).mono ?_; rintro e w' ⟨rfl, rfl⟩))
      refine bodyPost_ret (by simp [results, Tryz.results30, go_sem]; rfl) rfl ⟨?_, (by repeat (first | with_reducible exact Below.refl _ _ | (with_reducible refine Below.alloc ?_ ?_ _; rotate_left 1; (focus (first | omega | (simp; done) | (simp; omega)))) | (with_reducible refine Below.setCell ?_ ?_ _; rotate_left 1; (focus (first | omega | (simp; done) | (simp; omega)))) | with_reducible refine Below.drew ?_ | with_reducible refine below_drewN ?_ _))⟩
      rw [HM.out, if_neg (by simp), if_pos HE.out]; rfl
    · have he' : ((j : Int) == (s.size : Int)) = false := by simp; omega
      have hjs : j < s.size := by omega
      have HE := Lib.hid he; clear he
      have htk := htk j hjs
      rw [tokenP_is] at htk
      obtain ⟨kd, tx, ps, lk, ln, lb, lt, er, hv⟩ := tok_split (oneM num s j)
      rw [hv] at htk
      have HV := Lib.hid hv; clear hv
      simp only [tokV, Tok.cells] at htk
      have HTK := Lib.hid htk; clear htk
      by_cases her : er = 0
      · have her' := bne_f her
        have HER := Lib.hid her; clear her
        go_enter Tryz.func30, Tryz.ntmps30
        go_wp2_with (first | (go_at_call 55; refine (HSK.out _).mono ?_; rintro e w' ⟨rfl, rfl⟩) | (go_at_call 56; refine (HTK.out _ (by repeat (first | with_reducible exact Below.refl _ _ | (with_reducible refine Below.alloc ?_ ?_ _; rotate_left 1; (focus (first | omega | (simp; done) | (simp; omega)))) | (with_reducible refine Below.setCell ?_ ?_ _; rotate_left 1; (focus (first | omega | (simp; done) | (simp; omega)))) | with_reducible refine Below.drew ?_ | with_reducible refine below_drewN ?_ _))).mono ?_; rintro e' w1 ⟨rfl, hb1⟩; obtain ⟨hc, hf, hz⟩ := grow hb1; have hzz := hz w.heap.size (by simp); have HBL := Lib.hid (bel1 hb1); clear hb1))
        refine bodyPost_ret (by simp [results, Tryz.results30, go_sem, hc, hz]; rfl) rfl ⟨?_, (by repeat (first | with_reducible exact Below.refl _ _ | with_reducible exact HBL.out | (with_reducible refine Below.alloc ?_ ?_ _; rotate_left 1; (focus (first | omega | (simp; done) | (simp; omega)))) | (with_reducible refine Below.setCell ?_ ?_ _; rotate_left 1; (focus (first | omega | (simp; done) | (simp; omega)))) | with_reducible refine Below.drew ?_ | with_reducible refine below_drewN ?_ _))⟩
        rw [HM.out, if_neg (by simp), if_neg HE.out, HV.out, if_pos HER.out]; rfl
      · have her' := bne_t her
        have HER := Lib.hid her; clear her
        go_enter Tryz.func30, Tryz.ntmps30
        go_wp2_with (first | (go_at_call 55; refine (HSK.out _).mono ?_; rintro e w' ⟨rfl, rfl⟩) | (go_at_call 56; refine (HTK.out _ (by repeat (first | with_reducible exact Below.refl _ _ | (with_reducible refine Below.alloc ?_ ?_ _; rotate_left 1; (focus (first | omega | (simp; done) | (simp; omega)))) | (with_reducible refine Below.setCell ?_ ?_ _; rotate_left 1; (focus (first | omega | (simp; done) | (simp; omega)))) | with_reducible refine Below.drew ?_ | with_reducible refine below_drewN ?_ _))).mono ?_; rintro e' w1 ⟨rfl, hb1⟩; obtain ⟨hc, hf, hz⟩ := grow hb1; have hzz := hz w.heap.size (by simp); have HBL := Lib.hid (bel1 hb1); clear hb1))
        refine bodyPost_ret (by simp [results, Tryz.results30, go_sem, hc, hz]; rfl) rfl ⟨?_, (by repeat (first | with_reducible exact Below.refl _ _ | with_reducible exact HBL.out | (with_reducible refine Below.alloc ?_ ?_ _; rotate_left 1; (focus (first | omega | (simp; done) | (simp; omega)))) | (with_reducible refine Below.setCell ?_ ?_ _; rotate_left 1; (focus (first | omega | (simp; done) | (simp; omega)))) | with_reducible refine Below.drew ?_ | with_reducible refine below_drewN ?_ _))⟩
        rw [HM.out, if_neg (by simp), if_neg HE.out, HV.out, if_neg HER.out]; rfl
end Pal.S
