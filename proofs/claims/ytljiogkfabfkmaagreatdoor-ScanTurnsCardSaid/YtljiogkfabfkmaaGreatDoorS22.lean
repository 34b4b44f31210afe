/- scan.Next. -/
import Derived.Test.YtljiogkfabfkmaaGreatDoorS20
import Derived.IntWalk
import Derived.BigRegion
open Go Go.RowKit Go.Proofs
namespace Pal.S

/-- the first token from a place on, and the place behind it -/
def nextM (num : ByteArray → Nat → Tok × Int) (s : ByteArray) (k : Nat) : Tok × Int × Int :=
  if (firstM num s k).2.1 = 0 then ((firstM num s k).1, (firstM num s k).1.pos + (firstM num s k).1.text.size, 0) else (zeroTok, 0, (firstM num s k).2.1)
def nextV (r : Tok × Int × Int) : Value := .tuple #[.agg r.1.cells.toArray, .int .i64 r.2.1, .int .i64 r.2.2]

set_option maxRecDepth 100000 in
set_option maxHeartbeats 4000000 in
theorem next_in (num : ByteArray → Nat → Tok × Int) (s : ByteArray) (hnum : NumOk num s) (hfine : NumFine num s) (i : Int) (k : Nat) (hi : i = k) (hs : s.size ≤ 16384) (hk : k ≤ s.size) (w : World) (he : Env w) :
    Calls Tryz.prog 17 #[.string s, .int .i64 i] w fun e w' => e = .returned (nextV (nextM num s k)) ∧ Below w.heap.size w w' := by
  subst hi
  have hfi := fun w' (h : Below w.heap.size w w') => first_any num s hnum (k : Int) k rfl hs hk w' (he.below he.size h)
  have HM := Lib.hid (nextM.eq_1 num s k)
  have hff := firstM_fine num s hfine k hk
  clear hnum he hfine
  obtain ⟨kd, tx, ps, lk, ln, lb, lt, er, bad, hv⟩ := tok3_split (firstM num s k)
  rw [hv] at hfi HM hff
  clear hv
  simp only [tok3V, Tok.cells] at hfi HM hff
  have HFI := Lib.hid hfi; clear hfi
  by_cases her : er = 0
  · have her' := bne_f her
    have hsum : ps ≤ s.size ∧ tx.size ≤ s.size := by
      rcases hff.1 her with ⟨h1, _⟩ | ⟨_, h2⟩
      · simp only [bareTok, Tok.mk.injEq] at h1
        obtain ⟨_, rfl, rfl, _⟩ := h1
        simp [noText_size]
      · have h3 := h2.pos
        obtain ⟨e0, g1, g2, g3⟩ := h2.text
        have h4 := overE_le s k hk
        simp only at h3 g3
        rw [h3, g3]
        exact ⟨h4, extract_size_le _ _ _⟩
    obtain ⟨hs1, hs2⟩ := hsum
    rw [if_pos her] at HM
    rw [HM.out]; clear HM
    clear hff her
    go_enter Tryz.func17, Tryz.ntmps17
    go_wp2_with (first | (go_at_call 30; refine (HFI.out _ (by repeat (first | with_reducible exact Below.refl _ _ | (with_reducible refine Below.alloc ?_ ?_ _; rotate_left 1; (focus (first | omega | (simp; done) | (simp; omega)))) | (with_reducible refine Below.setCell ?_ ?_ _; rotate_left 1; (focus (first | omega | (simp; done) | (simp; omega)))) | with_reducible refine Below.drew ?_ | with_reducible refine below_drewN ?_ _))).mono ?_; rintro e' w1 ⟨rfl, hb1⟩; obtain ⟨hc, hf, hz⟩ := grow hb1; have hzz := hz w.heap.size (by simp); have HBL := Lib.hid (bel1 hb1); clear hb1))
    have q1 : IntKind.i64.wrap ((ps : Int) + (tx.size : Int)) = (ps : Int) + (tx.size : Int) := IntWalk.i64_in _ (by omega)
    have hq := fun o => hc w.heap.size o (by simp)
    have hqf := fun o => hf w.heap.size o (by simp)
    go_region
    all_goals go_wp2
    refine bodyPost_ret (by simp [results, Tryz.results17, go_sem, hq, hqf, hzz] <;> first | rfl | exact ⟨rfl, rfl⟩) rfl ⟨rfl, (by repeat (first | with_reducible exact Below.refl _ _ | with_reducible exact HBL.out | (with_reducible refine Below.alloc ?_ ?_ _; rotate_left 1; (focus (first | omega | (simp; done) | (simp; omega)))) | (with_reducible refine Below.setCell ?_ ?_ _; rotate_left 1; (focus (first | omega | (simp; done) | (simp; omega)))) | with_reducible refine Below.drew ?_ | with_reducible refine below_drewN ?_ _))⟩
  · have her' := bne_t her
    rw [if_neg her] at HM
    rw [HM.out]; clear HM
    clear hff her
    go_enter Tryz.func17, Tryz.ntmps17
    go_wp2_with (first | (go_at_call 30; refine (HFI.out _ (by repeat (first | with_reducible exact Below.refl _ _ | (with_reducible refine Below.alloc ?_ ?_ _; rotate_left 1; (focus (first | omega | (simp; done) | (simp; omega)))) | (with_reducible refine Below.setCell ?_ ?_ _; rotate_left 1; (focus (first | omega | (simp; done) | (simp; omega)))) | with_reducible refine Below.drew ?_ | with_reducible refine below_drewN ?_ _))).mono ?_; rintro e' w1 ⟨rfl, hb1⟩; obtain ⟨hc, hf, hz⟩ := grow hb1; have hzz := hz w.heap.size (by simp); have HBL := Lib.hid (bel1 hb1); clear hb1))
    have hq := fun o => hc w.heap.size o (by simp)
    have hqf := fun o => hf w.heap.size o (by simp)
    refine bodyPost_ret (by simp [results, Tryz.results17, go_sem, hq, hqf, hzz] <;> first | rfl | exact ⟨rfl, rfl⟩) rfl ⟨rfl, (by repeat (first | with_reducible exact Below.refl _ _ | with_reducible exact HBL.out | (with_reducible refine Below.alloc ?_ ?_ _; rotate_left 1; (focus (first | omega | (simp; done) | (simp; omega)))) | (with_reducible refine Below.setCell ?_ ?_ _; rotate_left 1; (focus (first | omega | (simp; done) | (simp; omega)))) | with_reducible refine Below.drew ?_ | with_reducible refine below_drewN ?_ _))⟩
end Pal.S
