/- palaverlaw14.awake. -/
import Derived.Test.YtljiogkfabfkmaaGreatDoorA14
open Go Go.RowKit Go.Proofs
namespace Pal.S

theorem name_x : nameB ⟨#[120, 49]⟩ = true := by decide +kernel
theorem arity_two : arityE ⟨#[97, 116, 58, 112, 117, 116, 58]⟩ = 2 := by decide +kernel
theorem arity_none : arityE ⟨#[97, 116, 58, 112, 117, 116]⟩ = -1 := by decide +kernel

set_option maxHeartbeats 2000000 in
set_option maxRecDepth 100000 in
theorem awake_any (w : World) (he : Env w) : Calls Tryz.prog 11 #[] w fun e w' => e = .returned (.bool true) ∧ Below w.heap.size w w' := by
  have H1 := Lib.hid (call_one w he)
  have H2 := Lib.hid (fun w' (h : Below w.heap.size w w') => call_two w' (he.below he.size h))
  have H3 := Lib.hid (fun w' (h : Below w.heap.size w w') => call_three w' (he.below he.size h))
  have H4 := Lib.hid (fun w' (h : Below w.heap.size w w') => call_four w' (he.below he.size h))
  have H5 := Lib.hid (fun w' (h : Below w.heap.size w w') => call_five w' (he.below he.size h))
  have H6 := Lib.hid (Name_any ⟨#[120, 49]⟩ (by decide))
  have H7 := Lib.hid (Arity_any ⟨#[97, 116, 58, 112, 117, 116, 58]⟩ (by decide))
  have H8 := Lib.hid (Arity_any ⟨#[97, 116, 58, 112, 117, 116]⟩ (by decide))
  clear he
  go_enter Tryz.func11, Tryz.ntmps11
  go_wp2_with fail
  go_at_call 12
  refine H1.out.mono ?_
  rintro e w1 ⟨ab, ao, c, rfl, q1, q2, q3, k0, k1, k2, hb⟩
  have HB1 := Lib.hid hb; clear hb
  go_wp2_with fail
  go_at_call 12
  refine (H2.out _ HB1.out).mono ?_
  rintro e w2 ⟨v, rfl, hb⟩
  obtain ⟨hc, _, hz⟩ := grow hb
  replace k0 := (hc _ _ q3).trans k0
  replace k1 := (hc _ _ q3).trans k1
  replace k2 := (hc _ _ q3).trans k2
  replace q3 := hz _ q3
  have HB2 := Lib.hid (Below.on HB1.out hb HB1.out.size); clear hb hc hz HB1
  go_wp2_with fail
  go_at_call 17
  refine (H3.out _ HB2.out).mono ?_
  rintro e w3 ⟨tk, tt, tp, tlk, tln, tlb, rfl, hb⟩
  obtain ⟨hc, _, hz⟩ := grow hb
  replace k0 := (hc _ _ q3).trans k0
  replace k1 := (hc _ _ q3).trans k1
  replace k2 := (hc _ _ q3).trans k2
  replace q3 := hz _ q3
  have HB3 := Lib.hid (Below.on HB2.out hb HB2.out.size); clear hb hc hz HB2
  have hs3 := HB3.out.size
  go_wp2_with fail
  go_at_call 20
  refine (H6.out _).mono ?_
  rintro e w' ⟨rfl, rfl⟩
  rw [name_x]
  go_wp2_with fail
  go_at_call 21
  refine (H7.out _).mono ?_
  rintro e w4 ⟨rfl, hb⟩
  rw [arity_two]
  obtain ⟨hc, _, hz⟩ := grow hb
  replace k0 := (hc _ _ (by simp; omega)).trans ((cell_alloc _ _ q3).trans k0)
  replace k1 := (hc _ _ (by simp; omega)).trans ((cell_alloc _ _ q3).trans k1)
  replace k2 := (hc _ _ (by simp; omega)).trans ((cell_alloc _ _ q3).trans k2)
  have y0 := (hc w3.heap.size 6 (by simp)).trans (cell_alloc_new _ _ _ _ _ rfl)
  have qy := hz w3.heap.size (by simp)
  replace q3 := hz _ (show ab < _ by simp; omega)
  have HB4 := Lib.hid (show Below w.heap.size w w4 from Below.on (W := w3.alloc _) (by repeat (first | with_reducible exact Below.refl _ _ | with_reducible exact HB3.out | (with_reducible refine Below.alloc ?_ ?_ _; rotate_left 1; (focus (first | omega | (simp; done) | (simp; omega)))) | (with_reducible refine Below.setCell ?_ ?_ _; rotate_left 1; (focus (first | omega | (simp; done) | (simp; omega)))) | with_reducible refine Below.drew ?_ | with_reducible refine below_drewN ?_ _)) hb (by simp; omega)); clear hb hc hz
  go_wp2_with fail
  go_at_call 21
  refine (H8.out _).mono ?_
  rintro e w5 ⟨rfl, hb⟩
  rw [arity_none]
  obtain ⟨hc, _, hz⟩ := grow hb
  replace k0 := (hc _ _ q3).trans k0
  replace k1 := (hc _ _ q3).trans k1
  replace k2 := (hc _ _ q3).trans k2
  replace y0 := (hc _ _ qy).trans y0
  replace q3 := hz _ q3
  replace qy := hz _ qy
  have HB5 := Lib.hid (Below.on HB4.out hb HB4.out.size); clear hb hc hz HB4
  go_wp2_with fail
  go_at_call 26
  refine (H4.out _ HB5.out).mono ?_
  rintro e w6 ⟨rfl, hb⟩
  obtain ⟨hc, _, hz⟩ := grow hb
  replace k0 := (hc _ _ q3).trans k0
  replace k1 := (hc _ _ q3).trans k1
  replace k2 := (hc _ _ q3).trans k2
  replace y0 := (hc _ _ qy).trans y0
  replace q3 := hz _ q3
  replace qy := hz _ qy
  have HB6 := Lib.hid (Below.on HB5.out hb HB5.out.size); clear hb hc hz HB5
  have hs6 := HB6.out.size
  go_wp2_with fail
  go_at_call 24
  refine (H5.out _ (by repeat (first | with_reducible exact Below.refl _ _ | with_reducible exact HB6.out | (with_reducible refine Below.alloc ?_ ?_ _; rotate_left 1; (focus (first | omega | (simp; done) | (simp; omega)))) | (with_reducible refine Below.setCell ?_ ?_ _; rotate_left 1; (focus (first | omega | (simp; done) | (simp; omega)))) | with_reducible refine Below.drew ?_ | with_reducible refine below_drewN ?_ _))).mono ?_
  rintro e w7 ⟨rfl, hb⟩
  obtain ⟨hc, _, hz⟩ := grow hb
  replace k0 := (hc _ _ (by simp; omega)).trans ((cell_alloc _ _ q3).trans k0)
  replace k1 := (hc _ _ (by simp; omega)).trans ((cell_alloc _ _ q3).trans k1)
  replace k2 := (hc _ _ (by simp; omega)).trans ((cell_alloc _ _ q3).trans k2)
  replace y0 := (hc _ _ (by simp; omega)).trans ((cell_alloc _ _ qy).trans y0)
  have z0 := (hc w6.heap.size 0 (by simp)).trans (cell_alloc_new _ _ _ _ _ rfl)
  have qz := hz w6.heap.size (by simp)
  replace q3 := hz _ (show ab < _ by simp; omega)
  replace qy := hz _ (show w3.heap.size < _ by simp; omega)
  have HB7 := Lib.hid (show Below w.heap.size w w7 from Below.on (W := w6.alloc _) (by repeat (first | with_reducible exact Below.refl _ _ | with_reducible exact HB6.out | (with_reducible refine Below.alloc ?_ ?_ _; rotate_left 1; (focus (first | omega | (simp; done) | (simp; omega)))) | (with_reducible refine Below.setCell ?_ ?_ _; rotate_left 1; (focus (first | omega | (simp; done) | (simp; omega)))) | with_reducible refine Below.drew ?_ | with_reducible refine below_drewN ?_ _)) hb (by simp; omega)); clear hb hc hz
  go_wp2
  go_ret
  exact ⟨rfl, (by repeat (first | with_reducible exact Below.refl _ _ | with_reducible exact HB7.out | (with_reducible refine Below.alloc ?_ ?_ _; rotate_left 1; (focus (first | omega | (simp; done) | (simp; omega)))) | (with_reducible refine Below.setCell ?_ ?_ _; rotate_left 1; (focus (first | omega | (simp; done) | (simp; omega)))) | with_reducible refine Below.drew ?_ | with_reducible refine below_drewN ?_ _))⟩
end Pal.S
