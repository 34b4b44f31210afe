/- scan.Minus. -/
import Derived.Test.YtljiogkfabfkmaaGreatDoorS11
import Derived.Lib.AppendIntMem
open Go Go.RowKit Go.Proofs
namespace Pal.S

theorem format_any (n : Int) (h : -9223372036854775808 ≤ n ∧ n ≤ 9223372036854775807) (w : World) (he : Env w) :
    Calls Tryz.prog 50 #[.int .i64 n, .int .i64 10] w fun e w' => e = .returned (.string ⟨(Lib.itoa n).toArray⟩) ∧ Below w.heap.size w w' := by
  refine (Tryz.strconv_FormatInt_10 n h.1 h.2 w he.tab).mono ?_
  rintro e w' ⟨rfl, k, os, rfl⟩
  exact ⟨rfl, Lib.below_grow _ w (Nat.le_refl _) k os⟩

def numText (n : Int) : ByteArray := ⟨(Lib.itoa n).toArray⟩
def zeroI : IntL := ⟨0, 0, noText⟩
def turnT (t : ByteArray) : IntL := wholeM (bareS t) (!negB t)

def flipB (b : Int) : Int := bits BinOp.xor IntKind.u64 b 9223372036854775808
theorem free_alloc {w : World} {b : Nat} (o : Obj) (j : Nat) (h : b < w.heap.size) : (w.alloc o).frozen? ⟨b, j, none⟩ = w.frozen? ⟨b, j, none⟩ := by
  simp only [World.frozen?]; rw [alloc_old o h]

theorem minus_float (n b : Int) (t : ByteArray) (vi : Value) (hv : vi.oneCell' = true) (w : World) :
    Calls Tryz.prog 24 #[.agg #[.int .u8 6, .int .i64 n, .int .u64 b, .string t, vi]] w fun e w' => e = .returned (.tuple #[.agg #[.int .u8 6, .int .i64 0, .int .u64 (flipB b), .string noText, .slice none 0 0], .bool true]) ∧ Below w.heap.size w w' := by
  go_enter Tryz.func24, Tryz.ntmps24
  go_wp2
  refine bodyPost_ret (by simp [results, Tryz.results24, go_sem]; first | rfl | exact ⟨rfl, rfl⟩) rfl ⟨rfl, (by repeat (first | with_reducible exact Below.refl _ _ | (with_reducible refine Below.alloc ?_ ?_ _; rotate_left 1; (focus (first | omega | (simp; done) | (simp; omega)))) | (with_reducible refine Below.setCell ?_ ?_ _; rotate_left 1; (focus (first | omega | (simp; done) | (simp; omega)))) | with_reducible refine Below.drew ?_ | with_reducible refine below_drewN ?_ _))⟩

set_option maxHeartbeats 1000000 in
theorem minus_small (n b : Int) (t : ByteArray) (vi : Value) (hv : vi.oneCell' = true) (hn : -1152921504606846976 ≤ n ∧ n ≤ 1152921504606846975) (hsz : (numText n).size ≤ 100) (hnum : ∀ v, Lib.parseIntB 64 (bareS (numText n)).data.toList = .ok v → 0 ≤ v) (w : World) (he : Env w) :
    Calls Tryz.prog 24 #[.agg #[.int .u8 4, .int .i64 n, .int .u64 b, .string t, vi]] w fun e w' => e = .returned (.tuple #[(turnT (numText n)).v, .bool true]) ∧ Below w.heap.size w w' := by
  have hble := bareS_le (numText n)
  have hcut := CutPrefix_any (numText n) (by omega)
  have hwh := fun w' (h : Below w.heap.size w w') => whole_any (bareS (numText n)) (!negB (numText n)) (by omega) hnum w' (he.below he.size h)
  have hfm := fun w' (h : Below w.heap.size w w') => format_any n (by omega) w' (he.below he.size h)
  have ht : turnT (numText n) = wholeM (bareS (numText n)) (!negB (numText n)) := rfl
  rw [ht]; clear ht
  change ∀ w' _, Calls _ _ _ w' fun e w'' => e = .returned (.string (numText n)) ∧ _ at hfm
  generalize numText n = u at *
  generalize wholeM (bareS u) (!negB u) = r at *
  generalize bareS u = b1 at *
  generalize negB u = m at *
  have HCUT := Lib.hid hcut; have HWH := Lib.hid hwh; have HFM := Lib.hid hfm; clear hcut hwh hfm hnum he
  obtain ⟨h1, h2⟩ := hn
  go_enter Tryz.func24, Tryz.ntmps24
  go_wp2_with (first | (go_at_call 50; refine (HFM.out _ (by repeat (first | with_reducible exact Below.refl _ _ | (with_reducible refine Below.alloc ?_ ?_ _; rotate_left 1; (focus (first | omega | (simp; done) | (simp; omega)))) | (with_reducible refine Below.setCell ?_ ?_ _; rotate_left 1; (focus (first | omega | (simp; done) | (simp; omega)))) | with_reducible refine Below.drew ?_ | with_reducible refine below_drewN ?_ _))).mono ?_; rintro e w1 ⟨rfl, hb1⟩; obtain ⟨hc, hf, hz⟩ := grow hb1; have HB1 := Lib.hid (show Below w.heap.size w w1 from Below.on (W := (w.alloc _).alloc _) (by repeat (first | with_reducible exact Below.refl _ _ | (with_reducible refine Below.alloc ?_ ?_ _; rotate_left 1; (focus (first | omega | (simp; done) | (simp; omega)))) | (with_reducible refine Below.setCell ?_ ?_ _; rotate_left 1; (focus (first | omega | (simp; done) | (simp; omega)))) | with_reducible refine Below.drew ?_ | with_reducible refine below_drewN ?_ _)) hb1 (by simp; omega)); clear hb1) | (go_at_call 49; refine (HCUT.out _).mono ?_; rintro e w' ⟨rfl, rfl⟩) | (go_at_call 51; refine (HWH.out _ HB1.out).mono ?_; rintro e w2 ⟨rfl, hb2⟩; obtain ⟨hc1, hf1, hz1⟩ := grow hb2; have hs1 := hz (w.heap.size + 1) (by simp); have hq := fun o => (hc1 (w.heap.size + 1) o hs1).trans (hc (w.heap.size + 1) o (by simp)); have hqf := fun o => (hf1 (w.heap.size + 1) o hs1).trans (hf (w.heap.size + 1) o (by simp)); clear hc1 hf1; have HB := Lib.hid (show Below w.heap.size w w2 from Below.on HB1.out hb2 (by have := HB1.out.size; omega)); clear hb2; unfold IntL.v))

  refine bodyPost_ret (by simp [results, Tryz.results24, go_sem, hq, hqf]; first | rfl | exact ⟨rfl, rfl⟩) rfl ⟨rfl, (by repeat (first | with_reducible exact Below.refl _ _ | with_reducible exact HB.out | (with_reducible refine Below.alloc ?_ ?_ _; rotate_left 1; (focus (first | omega | (simp; done) | (simp; omega)))) | (with_reducible refine Below.setCell ?_ ?_ _; rotate_left 1; (focus (first | omega | (simp; done) | (simp; omega)))) | with_reducible refine Below.drew ?_ | with_reducible refine below_drewN ?_ _))⟩

set_option maxHeartbeats 1000000 in
theorem minus_large (n b : Int) (t : ByteArray) (vi : Value) (hv : vi.oneCell' = true) (hint : intM t = (⟨5, 0, t⟩, 0)) (hsz : t.size ≤ 140737488355328) (hnum : ∀ v, Lib.parseIntB 64 (bareS t).data.toList = .ok v → 0 ≤ v) (w : World) (he : Env w) :
    Calls Tryz.prog 24 #[.agg #[.int .u8 5, .int .i64 n, .int .u64 b, .string t, vi]] w fun e w' => e = .returned (.tuple #[(turnT t).v, .bool true]) ∧ Below w.heap.size w w' := by
  have hble := bareS_le t
  have hcut := CutPrefix_any t (by omega)
  have hwh := fun w' (h : Below w.heap.size w w') => whole_any (bareS t) (!negB t) (by omega) hnum w' (he.below he.size h)
  have hin := fun w' (h : Below w.heap.size w w') => Integer_any t (by omega) w' (he.below he.size h)
  rw [hint] at hin
  have ht : turnT t = wholeM (bareS t) (!negB t) := rfl
  rw [ht]; clear ht
  generalize wholeM (bareS t) (!negB t) = r at *
  generalize bareS t = b1 at *
  generalize negB t = m at *
  have htt : (t.toList == t.toList) = true := by simp
  have HCUT := Lib.hid hcut; have HWH := Lib.hid hwh; have HIN := Lib.hid hin; clear hcut hwh hin hnum he hint
  go_enter Tryz.func24, Tryz.ntmps24
  go_wp2_with (first | (go_at_call 26; refine (HIN.out _ (by repeat (first | with_reducible exact Below.refl _ _ | (with_reducible refine Below.alloc ?_ ?_ _; rotate_left 1; (focus (first | omega | (simp; done) | (simp; omega)))) | (with_reducible refine Below.setCell ?_ ?_ _; rotate_left 1; (focus (first | omega | (simp; done) | (simp; omega)))) | with_reducible refine Below.drew ?_ | with_reducible refine below_drewN ?_ _))).mono ?_; rintro e w1 ⟨rfl, hb1⟩; obtain ⟨hc, hf, hz⟩ := grow hb1; have HB1 := Lib.hid (show Below w.heap.size w w1 from Below.on (W := (w.alloc _).alloc _) (by repeat (first | with_reducible exact Below.refl _ _ | (with_reducible refine Below.alloc ?_ ?_ _; rotate_left 1; (focus (first | omega | (simp; done) | (simp; omega)))) | (with_reducible refine Below.setCell ?_ ?_ _; rotate_left 1; (focus (first | omega | (simp; done) | (simp; omega)))) | with_reducible refine Below.drew ?_ | with_reducible refine below_drewN ?_ _)) hb1 (by simp; omega)); have s0 := hz w.heap.size (by simp; omega); have s1 := hz (w.heap.size + 1) (by simp); clear hb1; unfold IntL.v) | (go_at_call 49; refine (HCUT.out _).mono ?_; rintro e w' ⟨rfl, rfl⟩) | (go_at_call 51; refine (HWH.out _ (by repeat (first | with_reducible exact Below.refl _ _ | with_reducible exact HB1.out | (with_reducible refine Below.alloc ?_ ?_ _; rotate_left 1; (focus (first | omega | (simp; done) | (simp; omega)))) | (with_reducible refine Below.setCell ?_ ?_ _; rotate_left 1; (focus (first | omega | (simp; done) | (simp; omega)))) | with_reducible refine Below.drew ?_ | with_reducible refine below_drewN ?_ _))).mono ?_; rintro e w2 ⟨rfl, hb2⟩; obtain ⟨hc1, hf1, hz1⟩ := grow hb2; have hq := fun o => (hc1 (w.heap.size + 1) o (by simp; omega)).trans ((cell_alloc _ o s1).trans (hc (w.heap.size + 1) o (by simp))); have hqf := fun o => (hf1 (w.heap.size + 1) o (by simp; omega)).trans ((free_alloc _ o s1).trans (hf (w.heap.size + 1) o (by simp))); have HB := Lib.hid (show Below w.heap.size w w2 from Below.on (W := w1.alloc _) (by repeat (first | with_reducible exact Below.refl _ _ | with_reducible exact HB1.out | (with_reducible refine Below.alloc ?_ ?_ _; rotate_left 1; (focus (first | omega | (simp; done) | (simp; omega)))) | (with_reducible refine Below.setCell ?_ ?_ _; rotate_left 1; (focus (first | omega | (simp; done) | (simp; omega)))) | with_reducible refine Below.drew ?_ | with_reducible refine below_drewN ?_ _)) hb2 (by simp; omega)); clear hc1 hf1 hb2; unfold IntL.v))
  refine bodyPost_ret (by simp [results, Tryz.results24, go_sem, hq, hqf]; first | rfl | exact ⟨rfl, rfl⟩) rfl ⟨rfl, (by repeat (first | with_reducible exact Below.refl _ _ | with_reducible exact HB.out | (with_reducible refine Below.alloc ?_ ?_ _; rotate_left 1; (focus (first | omega | (simp; done) | (simp; omega)))) | (with_reducible refine Below.setCell ?_ ?_ _; rotate_left 1; (focus (first | omega | (simp; done) | (simp; omega)))) | with_reducible refine Below.drew ?_ | with_reducible refine below_drewN ?_ _))⟩
end Pal.S
