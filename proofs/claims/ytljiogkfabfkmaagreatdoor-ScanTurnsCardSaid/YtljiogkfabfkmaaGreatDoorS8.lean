/- scan.Arity. -/
import Derived.Test.YtljiogkfabfkmaaGreatDoorS3
import Derived.Test.YtljiogkfabfkmaaGreatDoorS7
import Derived.Test.YtljiogkfabfkmaaGreatDoorRunE
open Go Go.RowKit Go.Proofs Go.Shelf
namespace Pal.S
attribute [local go_sem] Oper.semAt_some

/-- the two variables of Arity, and what has come -/
structure ArI (m : Nat) (pre : List ByteArray) (w : World) : Prop where
  c0 : w.cell? ⟨m, 0, none⟩ = some (.int .i64 0)
  f0 : w.frozen? ⟨m, 0, none⟩ = false
  c1 : w.cell? ⟨m + 1, 0, none⟩ = some (.int .i64 pre.length)
  f1 : w.frozen? ⟨m + 1, 0, none⟩ = false
  law : ∀ q, arityL (pre ++ q) 0 = arityL q pre.length

def ArX (m : Nat) (c : Code) (pre : List ByteArray) (w : World) : Prop :=
  (c = .ret ∧ w.cell? ⟨m, 0, none⟩ = some (.int .i64 (-1)) ∧ ∀ q, arityL (pre ++ q) 0 = -1) ∨
  (c = .exit 1 ∧ w.cell? ⟨m, 0, none⟩ = some (.int .i64 0) ∧ w.frozen? ⟨m, 0, none⟩ = false ∧ ∃ k : Nat, w.cell? ⟨m + 1, 0, none⟩ = some (.int .i64 k) ∧ ∀ q, arityL (pre ++ q) 0 = k)

theorem same_cell {n b : Nat} {w w' : World} (h : SameB 0 n w w') (hb : b < n) (j : Nat) : w'.cell? ⟨b, j, none⟩ = w.cell? ⟨b, j, none⟩ := by
  simp only [World.cell?]; rw [h.same b (Nat.zero_le _) hb]
theorem same_free {n b : Nat} {w w' : World} (h : SameB 0 n w w') (hb : b < n) (j : Nat) : w'.frozen? ⟨b, j, none⟩ = w.frozen? ⟨b, j, none⟩ := by
  simp only [World.frozen?]; rw [h.same b (Nat.zero_le _) hb]

theorem ArI.same {m : Nat} (pre : List ByteArray) (w w' : World) (h : ArI m pre w) (hs : SameB 0 (m + 2) w w') : ArI m pre w' := by
  obtain ⟨h1, h2, h3, h4, h5⟩ := h
  exact ⟨(same_cell hs (by omega) 0).trans h1, (same_free hs (by omega) 0).trans h2, (same_cell hs (by omega) 0).trans h3, (same_free hs (by omega) 0).trans h4, h5⟩
theorem ArX.same {m : Nat} (c : Code) (pre : List ByteArray) (w w' : World) (h : ArX m c pre w) (hs : SameB 0 (m + 2) w w') : ArX m c pre w' := by
  rcases h with ⟨e, h1, h2⟩ | ⟨e, h1, h2, k, h3, h4⟩
  · exact .inl ⟨e, (same_cell hs (by omega) 0).trans h1, h2⟩
  · exact .inr ⟨e, (same_cell hs (by omega) 0).trans h1, (same_free hs (by omega) 0).trans h2, k, (same_cell hs (by omega) 0).trans h3, h4⟩

theorem pieces_len (s : ByteArray) (i : Nat) (h : i ≤ s.size) : (pieces s i).length ≤ s.size - i + 1 := by
  fun_induction pieces s i with
  | case1 i hlt ih => have := runE_ge (fun x => decide (x ≠ 58)) s i; have := ih (by omega); rw [List.length_cons]; omega
  | case2 i hlt => simp

theorem arityL_bad {x : ByteArray} (q : List ByteArray) (n : Nat) (hx : ¬ x.size = 0) (h : (endB x && nameB (x.extract 0 (x.size - 1))) = false) : arityL ([x] ++ q) n = -1 := by
  have h0 : 0 < x.size := by omega
  simp only [endB, h0, decide_true, Bool.true_and] at h
  rw [List.singleton_append, arityL, if_neg hx, if_neg]
  rintro ⟨h1, h2⟩
  rw [h1, h2] at h
  simp at h
theorem arityL_good {x : ByteArray} (q : List ByteArray) (n : Nat) (hx : ¬ x.size = 0) (h : (endB x && nameB (x.extract 0 (x.size - 1))) = true) : arityL ([x] ++ q) n = arityL q (n + 1) := by
  simp only [endB, Bool.and_eq_true, beq_iff_eq] at h
  rw [List.singleton_append, arityL, if_neg hx, if_pos ⟨h.1.2, h.2⟩]

theorem ar_leave (m D : Nat) (tmps : Array Value) (v : Int) (W : World) (R : Ending → World → Prop) (ht' : tmps[2]?.getD undef = .pointer (some ⟨m, 0, none⟩)) (hK : W.heap[D]? = some (.deferred (some []))) (hc : W.cell? ⟨m, 0, none⟩ = some (.int .i64 v))
    (hR : R (.returned (.int .i64 v)) (W.putObj D (.deferred none))) : bodyPostM Fence.wide 4 Tryz.prog Tryz.f21 R .ret { tmps := tmps, defers := [{ target := .collected D, args := #[] }] } W := by
  refine ⟨by simp, .inl ⟨_, _, rfl, run_takeDeferred hK, ?_⟩⟩
  have hc' : (W.putObj D (.deferred none)).cell? ⟨m, 0, none⟩ = some (.int .i64 v) := cell_kept hc (grownBy_putObj' _ D (.deferred none)) (fun r e => by cases e; exact ⟨_, hK, rfl⟩)
  refine ⟨_, ?_, hR⟩
  simp [results, Tryz.results21, go_sem, ht', hc']
  try rfl

set_option maxHeartbeats 2000000 in
theorem Arity_in (s : ByteArray) (hs : s.size ≤ 140737488355328) (w : World) (hn : nameB s = false) (h0 : 0 < s.size) (hb1 : binaryB (bt s 0) = false) (hb2 : bt s 0 ≠ 124) :
    CallsIn Fence.wide 4 Tryz.prog 21 #[.string s] w fun e w' => e = .returned (.int .i64 (arityL (pieces s 0) 0)) ∧ Below w.heap.size w w' := by
  have hbt := (bt_of h0).symm
  have hr := bt_range s 0
  have b1 : (bt s 0 == 124) = false := by simpa using hb2
  have hl : s.toList.isEmpty = false := by rw [Bool.eq_false_iff, ne_eq, List.isEmpty_iff, nil_iff]; omega
  clear hb2
  refine callsIn_of_wp_marks Tryz.func21 rfl trivial ?_ rfl
  simp only [Tryz.ntmps21, List.size_toArray, List.length_cons, List.length_nil, Nat.reduceAdd, Nat.reduceSub, Array.replicate_succ, Array.replicate_zero, List.push_toArray, List.append_toArray, List.nil_append, List.cons_append]
  gi_wp2_with (refine ⟨trivial, ?_⟩; first | (gi_at_call 20; refine (callsIn_wide.2 (Name_any s hs _)).mono ?_; rintro e w' ⟨rfl, rfl⟩) | (gi_at_call 40; refine (callsIn_wide.2 (binary_any _ _ hr)).mono ?_; rintro e w' ⟨rfl, rfl⟩) | (gi_at_call 42; refine (callsIn_wide.2 (SplitAfterSeq_any s _)).mono ?_; rintro e w1 ⟨rfl, hc, hz, hb⟩))
  have hk0 := alloc_at w (.cells #[.int .i64 0] 3)
  have hk1 := alloc_at (w.alloc (.cells #[.int .i64 0] 3)) (.cells #[.int .i64 0] 3)
  have hbw : Below w.heap.size w w1 := Below.on (by exact (by repeat (first | with_reducible exact Below.refl _ _ | (with_reducible refine Below.alloc ?_ ?_ _; rotate_left 1; (focus (first | omega | (simp; done) | (simp; omega)))) | (with_reducible refine Below.setCell ?_ ?_ _; rotate_left 1; (focus (first | omega | (simp; done) | (simp; omega)))) | with_reducible refine Below.drew ?_ | with_reducible refine below_drewN ?_ _))) hb (by simp; omega)
  simp only [World.size_alloc] at hk1 hz hc hb
  have e0 := (hb.block w.heap.size (by first | omega | with_reducible rfl | (simp; done) | (simp; omega))).trans ((alloc_old _ (by first | omega | with_reducible rfl | (simp; done) | (simp; omega))).trans hk0)
  have e1 := (hb.block (w.heap.size + 1) (by first | omega | with_reducible rfl | (simp; done) | (simp; omega))).trans hk1
  have hI : ArI w.heap.size [] w1 := ⟨cell_at e0 0, free_at e0 0, cell_at e1 0, free_at e1 0, fun q => rfl⟩
  obtain ⟨m, hm⟩ : ∃ m, m = w.heap.size := ⟨_, rfl⟩
  refine wpIn_range_cell rfl (by omega) (gf := 84) (lb := #[.pointer (some ⟨w.heap.size + 1 + 1 + 1, 0, none⟩), .pointer (some ⟨w.heap.size + 1 + 1, 0, none⟩), .pointer (some ⟨w.heap.size + 1 + 1 + 2, 0, none⟩)]) rfl trivial (enters_of Tryz.func84 (by kernel_rfl) rfl)
    (split_in 3 (by omega) (w.heap.size + 1 + 1) s hs w1 hc (by omega)) (Nat.le_refl _) (by omega)
    (fun pre W => ArI w.heap.size pre W ∧ Below w.heap.size w W) (fun c pre W => ArX w.heap.size c pre W ∧ Below w.heap.size w W) (fun pre W W' h hs => ⟨h.1.same _ _ _ hs, SameB.below h.2 hs (by omega)⟩) (fun c pre W W' h hs => ⟨h.1.same _ _ _ _ hs, SameB.below h.2 hs (by omega)⟩) ⟨hI, hbw⟩ ?a1 ?assign ?body ?done ?stop
  case assign =>
    intro l x W K hK
    gi_wp2
    exact hK
  case body =>
    rintro l pre x W ⟨hi, hbW⟩ ⟨hN, hxs0⟩
    have hpl := pieces_len s 0 (Nat.zero_le _)
    have HI := Lib.hid hi
    obtain ⟨c0, f0, c1, f1, law⟩ := hi
    have LAW := Lib.hid law; clear law
    have HB := Lib.hid hbW; clear hbW hb hbw hk0 hk1 e0 e1 hI hbt
    have hrx := bt_range x 0
    by_cases hx : x.size = 0
    · have hxl : x.toList.isEmpty = true := by rw [List.isEmpty_iff, nil_iff]; exact hx
      gi_wp2
      refine ⟨SameB.refl _ _ _, .inr ⟨rfl, c0, f0, pre.length, c1, fun q => ?_⟩, HB.out⟩
      rw [List.append_assoc, LAW.out]
      simp [arityL, hx]
    · have hxl : x.toList.isEmpty = false := by rw [Bool.eq_false_iff, ne_eq, List.isEmpty_iff, nil_iff]; exact hx
      have hxs : x.size ≤ 140737488355328 := by omega
      cases he : endB x
      · have hcs := CutSuffix_any x hxs
        rw [he] at hcs
        have HCS := Lib.hid hcs; clear hcs
        gi_wp2_with (refine ⟨trivial, ?_⟩; first | (gi_at_call 43; refine (CallsIn.inRound l (callsIn_wide.2 (HCS.out _))).mono ?_; rintro e w' ⟨rfl, rfl⟩) | (gi_at_call 20; refine (CallsIn.inRound l (callsIn_wide.2 (Name_any _ hs _))).mono ?_; rintro e w' ⟨rfl, rfl⟩))
        refine ⟨trivial, ?_⟩
        gi_wp2
        exact ⟨SameB.set W _ 0 _ (.inl (by omega)), .inl ⟨rfl, World.cell?_setCell_same _ _ _ c0, fun q => by rw [List.append_assoc, LAW.out]; exact arityL_bad _ _ hx (by simp [he])⟩, (by repeat (first | with_reducible exact Below.refl _ _ | with_reducible exact HB.out | (with_reducible refine Below.alloc ?_ ?_ _; rotate_left 1; (focus (first | omega | (simp; done) | (simp; omega)))) | (with_reducible refine Below.setCell ?_ ?_ _; rotate_left 1; (focus (first | omega | (simp; done) | (simp; omega)))) | with_reducible refine Below.drew ?_ | with_reducible refine below_drewN ?_ _))⟩
      · obtain ⟨y, hy⟩ : ∃ y, y = x.extract 0 (x.size - 1) := ⟨_, rfl⟩
        have hys : y.size ≤ 140737488355328 := by rw [hy]; simp; omega
        have hcs := CutSuffix_any x hxs
        rw [he] at hcs
        simp only [if_true] at hcs
        rw [← hy] at hcs
        have HY := Lib.hid hy; clear hy
        have HCS := Lib.hid hcs; clear hcs
        cases hny : nameB y
        · gi_wp2_with (refine ⟨trivial, ?_⟩; first | (gi_at_call 43; refine (CallsIn.inRound l (callsIn_wide.2 (HCS.out _))).mono ?_; rintro e w' ⟨rfl, rfl⟩) | (gi_at_call 20; refine (CallsIn.inRound l (callsIn_wide.2 (Name_any _ hys _))).mono ?_; rintro e w' ⟨rfl, rfl⟩))
          exact ⟨SameB.set W _ 0 _ (.inl (by omega)), .inl ⟨rfl, World.cell?_setCell_same _ _ _ c0, fun q => by rw [List.append_assoc, LAW.out]; exact arityL_bad _ _ hx (by rw [← HY.out, hny]; simp)⟩, (by repeat (first | with_reducible exact Below.refl _ _ | with_reducible exact HB.out | (with_reducible refine Below.alloc ?_ ?_ _; rotate_left 1; (focus (first | omega | (simp; done) | (simp; omega)))) | (with_reducible refine Below.setCell ?_ ?_ _; rotate_left 1; (focus (first | omega | (simp; done) | (simp; omega)))) | with_reducible refine Below.drew ?_ | with_reducible refine below_drewN ?_ _))⟩
        · gi_wp2_with (refine ⟨trivial, ?_⟩; first | (gi_at_call 43; refine (CallsIn.inRound l (callsIn_wide.2 (HCS.out _))).mono ?_; rintro e w' ⟨rfl, rfl⟩) | (gi_at_call 20; refine (CallsIn.inRound l (callsIn_wide.2 (Name_any _ hys _))).mono ?_; rintro e w' ⟨rfl, rfl⟩))
          refine ⟨SameB.set W _ 0 _ (.inl (by omega)), ⟨?_, ?_, ?_, ?_, ?_⟩, (by repeat (first | with_reducible exact Below.refl _ _ | with_reducible exact HB.out | (with_reducible refine Below.alloc ?_ ?_ _; rotate_left 1; (focus (first | omega | (simp; done) | (simp; omega)))) | (with_reducible refine Below.setCell ?_ ?_ _; rotate_left 1; (focus (first | omega | (simp; done) | (simp; omega)))) | with_reducible refine Below.drew ?_ | with_reducible refine below_drewN ?_ _))⟩
          · rw [World.cell?_setCell_other]; exact c0; simp
          · rw [World.frozen?_setCell]; exact f0
          · rw [World.cell?_setCell_same _ _ _ c1]; simp
          · rw [World.frozen?_setCell]; exact f1
          · intro q
            rw [List.append_assoc, LAW.out]
            simp only [List.length_append, List.length_singleton]
            exact arityL_good _ _ hx (by rw [he, ← HY.out, hny]; rfl)
  case done =>
    rintro D xs W hD rfl ⟨hi, hbW⟩ hK
    obtain ⟨c0, f0, c1, f1, law⟩ := hi
    have hpl := pieces_len s 0 (Nat.zero_le _)
    have hv := law []
    rw [List.append_nil, arityL] at hv
    have HV := Lib.hid hv; clear hv law hb hk0 hk1 e0 e1 hI hc
    gi_wp2
    refine ar_leave w.heap.size D _ _ _ _ rfl ((KeepsOthers.setCell _ _ _).same D _ hK rfl) (World.cell?_setCell_same _ _ _ c0) ⟨by rw [HV.out], ?_⟩
    exact SameB.below ((by repeat (first | with_reducible exact Below.refl _ _ | with_reducible exact hbW | (with_reducible refine Below.alloc ?_ ?_ _; rotate_left 1; (focus (first | omega | (simp; done) | (simp; omega)))) | (with_reducible refine Below.setCell ?_ ?_ _; rotate_left 1; (focus (first | omega | (simp; done) | (simp; omega)))) | with_reducible refine Below.drew ?_ | with_reducible refine below_drewN ?_ _))) (SameB.put _ D _ (.inr (by omega))) (Nat.le_refl _)
  case stop =>
    rintro D c pre W hD ⟨x, p, q, hp, hpq⟩ ⟨hi, hbW⟩ hK
    clear hb hk0 hk1 e0 e1 hI hc
    rcases hi with ⟨rfl, c0, law⟩ | ⟨rfl, c0, f0, k, c1, law⟩
    · gi_wp2
      refine ar_leave w.heap.size D _ _ _ _ rfl hK c0 ⟨by rw [hpq, law], ?_⟩
      exact SameB.below hbW (SameB.put _ D _ (.inr (by omega))) (Nat.le_refl _)
    · have hv := law q
      rw [← hpq] at hv
      have HV := Lib.hid hv; clear hv law
      gi_wp2
      refine ar_leave w.heap.size D _ _ _ _ rfl ((KeepsOthers.setCell _ _ _).same D _ hK rfl) (World.cell?_setCell_same _ _ _ c0) ⟨by rw [HV.out], ?_⟩
      exact SameB.below ((by repeat (first | with_reducible exact Below.refl _ _ | with_reducible exact hbW | (with_reducible refine Below.alloc ?_ ?_ _; rotate_left 1; (focus (first | omega | (simp; done) | (simp; omega)))) | (with_reducible refine Below.setCell ?_ ?_ _; rotate_left 1; (focus (first | omega | (simp; done) | (simp; omega)))) | with_reducible refine Below.drew ?_ | with_reducible refine below_drewN ?_ _))) (SameB.put _ D _ (.inr (by omega))) (Nat.le_refl _)

/-- scan.Arity, whatever the text. -/
theorem Arity_any0 (s : ByteArray) (hs : s.size ≤ 140737488355328) (w : World) :
    Calls Tryz.prog 21 #[.string s] w fun e w' => e = .returned (.int .i64 (if nameB s then 0 else if s.size = 0 then -1 else if binaryB (bt s 0) || bt s 0 == 124 then (if signEnd s 0 = s.size then 1 else -1) else arityL (pieces s 0) 0)) ∧ Below w.heap.size w w' := by
  by_cases hn : nameB s = true
  · rw [if_pos hn]
    go_enter Tryz.func21, Tryz.ntmps21
    go_wp2_with ((go_at_call 20; refine (Name_any s hs _).mono ?_; rintro e w' ⟨rfl, rfl⟩))
    refine bodyPost_ret (by simp [results, Tryz.results21, go_sem]) rfl ⟨rfl, (by repeat (first | with_reducible exact Below.refl _ _ | (with_reducible refine Below.alloc ?_ ?_ _; rotate_left 1; (focus (first | omega | (simp; done) | (simp; omega)))) | (with_reducible refine Below.setCell ?_ ?_ _; rotate_left 1; (focus (first | omega | (simp; done) | (simp; omega)))) | with_reducible refine Below.drew ?_ | with_reducible refine below_drewN ?_ _))⟩
  · have hn' : nameB s = false := by simpa using hn
    rw [if_neg hn]; clear hn
    by_cases h0 : 0 < s.size
    · have hbt := (bt_of h0).symm
      have hr := bt_range s 0
      have hl : s.toList.isEmpty = false := by rw [Bool.eq_false_iff, ne_eq, List.isEmpty_iff, nil_iff]; omega
      rw [if_neg (by omega)]
      cases hb : binaryB (bt s 0)
      · cases h1 : (bt s 0 == 124)
        · exact callsIn_wide.1 (Arity_in s hs w hn' h0 hb (by simpa using h1))
        · by_cases he : signEnd s 0 = s.size
          · rw [if_pos (by simp), if_pos he]
            have he' : ((signEnd s 0 : Int) == (s.size : Int)) = true := by simp [he]
            go_enter Tryz.func21, Tryz.ntmps21
            go_wp2_with (first | (go_at_call 20; refine (Name_any s hs _).mono ?_; rintro e w' ⟨rfl, rfl⟩) | (go_at_call 40; refine (binary_any _ _ hr).mono ?_; rintro e w' ⟨rfl, rfl⟩) | (go_at_call 41; refine (sign_any s _ 0 (by omega) hs h0 _).mono ?_; rintro e w1 ⟨rfl, hb1⟩; obtain ⟨hc, hf, hz⟩ := grow hb1; have HB := Lib.hid (show Below w.heap.size w w1 from Below.on (W := w.alloc _) (by repeat (first | with_reducible exact Below.refl _ _ | (with_reducible refine Below.alloc ?_ ?_ _; rotate_left 1; (focus (first | omega | (simp; done) | (simp; omega)))) | (with_reducible refine Below.setCell ?_ ?_ _; rotate_left 1; (focus (first | omega | (simp; done) | (simp; omega)))) | with_reducible refine Below.drew ?_ | with_reducible refine below_drewN ?_ _)) hb1 (by simp)); clear hb1))
            refine bodyPost_ret (by simp [results, Tryz.results21, go_sem, hc, hf]) rfl ⟨rfl, (by repeat (first | with_reducible exact Below.refl _ _ | with_reducible exact HB.out | (with_reducible refine Below.alloc ?_ ?_ _; rotate_left 1; (focus (first | omega | (simp; done) | (simp; omega)))) | (with_reducible refine Below.setCell ?_ ?_ _; rotate_left 1; (focus (first | omega | (simp; done) | (simp; omega)))) | with_reducible refine Below.drew ?_ | with_reducible refine below_drewN ?_ _))⟩
          · rw [if_pos (by simp), if_neg he]
            have he' : ((signEnd s 0 : Int) == (s.size : Int)) = false := by simp; omega
            go_enter Tryz.func21, Tryz.ntmps21
            go_wp2_with (first | (go_at_call 20; refine (Name_any s hs _).mono ?_; rintro e w' ⟨rfl, rfl⟩) | (go_at_call 40; refine (binary_any _ _ hr).mono ?_; rintro e w' ⟨rfl, rfl⟩) | (go_at_call 41; refine (sign_any s _ 0 (by omega) hs h0 _).mono ?_; rintro e w1 ⟨rfl, hb1⟩; obtain ⟨hc, hf, hz⟩ := grow hb1; have HB := Lib.hid (show Below w.heap.size w w1 from Below.on (W := w.alloc _) (by repeat (first | with_reducible exact Below.refl _ _ | (with_reducible refine Below.alloc ?_ ?_ _; rotate_left 1; (focus (first | omega | (simp; done) | (simp; omega)))) | (with_reducible refine Below.setCell ?_ ?_ _; rotate_left 1; (focus (first | omega | (simp; done) | (simp; omega)))) | with_reducible refine Below.drew ?_ | with_reducible refine below_drewN ?_ _)) hb1 (by simp)); clear hb1))
            refine bodyPost_ret (by simp [results, Tryz.results21, go_sem, hc, hf]) rfl ⟨rfl, (by repeat (first | with_reducible exact Below.refl _ _ | with_reducible exact HB.out | (with_reducible refine Below.alloc ?_ ?_ _; rotate_left 1; (focus (first | omega | (simp; done) | (simp; omega)))) | (with_reducible refine Below.setCell ?_ ?_ _; rotate_left 1; (focus (first | omega | (simp; done) | (simp; omega)))) | with_reducible refine Below.drew ?_ | with_reducible refine below_drewN ?_ _))⟩
      · by_cases he : signEnd s 0 = s.size
        · rw [if_pos (by simp), if_pos he]
          have he' : ((signEnd s 0 : Int) == (s.size : Int)) = true := by simp [he]
          go_enter Tryz.func21, Tryz.ntmps21
          go_wp2_with (first | (go_at_call 20; refine (Name_any s hs _).mono ?_; rintro e w' ⟨rfl, rfl⟩) | (go_at_call 40; refine (binary_any _ _ hr).mono ?_; rintro e w' ⟨rfl, rfl⟩) | (go_at_call 41; refine (sign_any s _ 0 (by omega) hs h0 _).mono ?_; rintro e w1 ⟨rfl, hb1⟩; obtain ⟨hc, hf, hz⟩ := grow hb1; have HB := Lib.hid (show Below w.heap.size w w1 from Below.on (W := w.alloc _) (by repeat (first | with_reducible exact Below.refl _ _ | (with_reducible refine Below.alloc ?_ ?_ _; rotate_left 1; (focus (first | omega | (simp; done) | (simp; omega)))) | (with_reducible refine Below.setCell ?_ ?_ _; rotate_left 1; (focus (first | omega | (simp; done) | (simp; omega)))) | with_reducible refine Below.drew ?_ | with_reducible refine below_drewN ?_ _)) hb1 (by simp)); clear hb1))
          refine bodyPost_ret (by simp [results, Tryz.results21, go_sem, hc, hf]) rfl ⟨rfl, (by repeat (first | with_reducible exact Below.refl _ _ | with_reducible exact HB.out | (with_reducible refine Below.alloc ?_ ?_ _; rotate_left 1; (focus (first | omega | (simp; done) | (simp; omega)))) | (with_reducible refine Below.setCell ?_ ?_ _; rotate_left 1; (focus (first | omega | (simp; done) | (simp; omega)))) | with_reducible refine Below.drew ?_ | with_reducible refine below_drewN ?_ _))⟩
        · rw [if_pos (by simp), if_neg he]
          have he' : ((signEnd s 0 : Int) == (s.size : Int)) = false := by simp; omega
          go_enter Tryz.func21, Tryz.ntmps21
          go_wp2_with (first | (go_at_call 20; refine (Name_any s hs _).mono ?_; rintro e w' ⟨rfl, rfl⟩) | (go_at_call 40; refine (binary_any _ _ hr).mono ?_; rintro e w' ⟨rfl, rfl⟩) | (go_at_call 41; refine (sign_any s _ 0 (by omega) hs h0 _).mono ?_; rintro e w1 ⟨rfl, hb1⟩; obtain ⟨hc, hf, hz⟩ := grow hb1; have HB := Lib.hid (show Below w.heap.size w w1 from Below.on (W := w.alloc _) (by repeat (first | with_reducible exact Below.refl _ _ | (with_reducible refine Below.alloc ?_ ?_ _; rotate_left 1; (focus (first | omega | (simp; done) | (simp; omega)))) | (with_reducible refine Below.setCell ?_ ?_ _; rotate_left 1; (focus (first | omega | (simp; done) | (simp; omega)))) | with_reducible refine Below.drew ?_ | with_reducible refine below_drewN ?_ _)) hb1 (by simp)); clear hb1))
          refine bodyPost_ret (by simp [results, Tryz.results21, go_sem, hc, hf]) rfl ⟨rfl, (by repeat (first | with_reducible exact Below.refl _ _ | with_reducible exact HB.out | (with_reducible refine Below.alloc ?_ ?_ _; rotate_left 1; (focus (first | omega | (simp; done) | (simp; omega)))) | (with_reducible refine Below.setCell ?_ ?_ _; rotate_left 1; (focus (first | omega | (simp; done) | (simp; omega)))) | with_reducible refine Below.drew ?_ | with_reducible refine below_drewN ?_ _))⟩
    · rw [if_pos (by omega)]
      have hl : s.toList.isEmpty = true := by rw [List.isEmpty_iff, nil_iff]; omega
      go_enter Tryz.func21, Tryz.ntmps21
      go_wp2_with ((go_at_call 20; refine (Name_any s hs _).mono ?_; rintro e w' ⟨rfl, rfl⟩))
      refine bodyPost_ret (by simp [results, Tryz.results21, go_sem]) rfl ⟨rfl, (by repeat (first | with_reducible exact Below.refl _ _ | (with_reducible refine Below.alloc ?_ ?_ _; rotate_left 1; (focus (first | omega | (simp; done) | (simp; omega)))) | (with_reducible refine Below.setCell ?_ ?_ _; rotate_left 1; (focus (first | omega | (simp; done) | (simp; omega)))) | with_reducible refine Below.drew ?_ | with_reducible refine below_drewN ?_ _))⟩

theorem Arity_any (s : ByteArray) (hs : s.size ≤ 140737488355328) (w : World) :
    Calls Tryz.prog 21 #[.string s] w fun e w' => e = .returned (.int .i64 (arityE s)) ∧ Below w.heap.size w w' := by
  refine (Arity_any0 s hs w).mono ?_
  rintro e w' ⟨rfl, h⟩
  refine ⟨?_, h⟩
  rw [arityL_pieces s 0 0 (Nat.zero_le _)]
  unfold arityE
  by_cases h0 : s.size = 0
  · rw [if_neg (by simp [nameB, h0]), if_pos h0, if_pos h0]
  · rw [if_neg h0, if_neg h0]
end Pal.S
