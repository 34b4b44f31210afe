/- scan.Tokens. -/
import Derived.Test.YtljiogkfabfkmaaGreatDoorS20
open Go Go.RowKit Go.Proofs
namespace Pal.S

/-- a text's tokens; none where something is wrong -/
def tokensM (num : ByteArray → Nat → Tok × Int) (s : ByteArray) : List Tok × Int × Nat :=
  if (beginM num s).2.1 = 0 then beginM num s else ([], (beginM num s).2)

set_option maxRecDepth 100000 in
set_option maxHeartbeats 4000000 in
theorem Tokens_any (num : ByteArray → Nat → Tok × Int) (s : ByteArray) (hnum : NumOk num s) (hfine : NumFine num s) (hs : s.size ≤ 16384) (B : Nat) (hB : s.size + 300 ≤ B) (hB2 : B ≤ 1000000000000) (w : World) (he : Env w) :
    Calls Tryz.prog 12 #[.string s] w fun e w' => ∃ v, e = .returned (.tuple #[v, .int .i64 (tokensM num s).2.1, .int .i64 (tokensM num s).2.2]) ∧ Own B w' (toks (tokensM num s).1) v (Iv w.heap.size w'.heap.size) ∧ Below w.heap.size w w' := by
  have HFI := Lib.hid (fun (k : Nat) (hk : k ≤ s.size) w' (h : Below w.heap.size w w') => first_any num s hnum (k : Int) k rfl hs hk w' (he.below he.size h))
  clear hnum he
  have HFINE := Lib.hid hfine; clear hfine
  go_enter Tryz.func12, Tryz.ntmps12
  go_wp2
  go_loopw [5, 6] (fun lv i wr => ∃ (done : List Tok) (k n : Nat), k ≤ s.size ∧ i = .int .i64 k ∧ done.length ≤ k ∧ s.size + 1 ≤ n + k ∧
      beginM num s = (done ++ (beginF num s n k).1, (beginF num s n k).2) ∧ Own B wr (toks done) lv (Iv w.heap.size wr.heap.size) ∧ (∃ A c, lv = .slice A done.length c) ∧ Below w.heap.size w wr) (fun _ i _ => s.size + 1 - (intOf i).toNat)
  case atStart => exact ⟨[], 0, s.size + 1, by omega, rfl, by simp, by omega, rfl, Own.nil _ _ _ _ _, ⟨none, 0, rfl⟩, Below.refl _ _⟩
  case round =>
    obtain ⟨done, k, n, hk, rfl, hd, hn, he, hown, ⟨A, c, rfl⟩, hbw⟩ := hrel
    have HE := Lib.hid he; clear he
    have HOWN := Lib.hid hown; clear hown
    have HBW := Lib.hid hbw
    have hsz := hbw.size
    clear hbw
    obtain ⟨n, rfl⟩ : ∃ m, n = m + 1 := ⟨n - 1, by omega⟩
    have hff := firstM_fine num s HFINE.out k hk
    have hfi := fun w' => HFI.out k hk w'
    obtain ⟨kd, tx, ps, lk, ln, lb, lt, er, bad, hv⟩ := tok3_split (firstM num s k)
    have b1 := @beginF_err num s n k
    have b2 := @beginF_end num s n k
    have b3 := @beginF_on num s n k
    rw [hv] at b1 b2 b3 hff hfi
    simp only [tok3V, Tok.cells] at b1 b2 b3 hff hfi
    have HV := Lib.hid hv; clear hv
    have HFI2 := Lib.hid hfi; clear hfi
    have HFF := Lib.hid hff; clear hff
    have B1 := Lib.hid b1; have B2 := Lib.hid b2; have B3 := Lib.hid b3; clear b1 b2 b3
    by_cases her : er = 0
    · have her' := bne_f her
      have HER := Lib.hid her; clear her
      rcases HFF.out.1 HER.out with ⟨h1, h2⟩ | ⟨h1, h2⟩
      · obtain ⟨rfl, rfl, rfl, rfl, rfl, rfl, rfl⟩ : kd = 0 ∧ tx = noText ∧ ps = s.size ∧ lk = 0 ∧ ln = 0 ∧ lb = 0 ∧ lt = noText := by simpa [bareTok] using h1
        clear h1 h2
        have hok := end_ok s B hB
        go_wp2_with (first | (go_at_call 30; refine (HFI2.out _ (by repeat (first | with_reducible exact Below.refl _ _ | with_reducible exact HBW.out | (with_reducible refine Below.alloc ?_ ?_ _; rotate_left 1; (focus (first | omega | (simp; done) | (simp; omega)))) | (with_reducible refine Below.setCell ?_ ?_ _; rotate_left 1; (focus (first | omega | (simp; done) | (simp; omega)))) | with_reducible refine Below.drew ?_ | with_reducible refine below_drewN ?_ _))).mono ?_; rintro e' w1 ⟨rfl, hb1⟩; obtain ⟨hc, hf, hz⟩ := grow hb1; have HBL := Lib.hid (HBW.out.trans (hb1.mono hsz)); have hz1 := hb1.size; have HB1 := Lib.hid hb1; clear hb1) | (at_builtin; refine wpList_app rfl _ _ 31 rfl appTok rfl (HOWN.out.step (Nat.le_refl _) (by repeat (first | with_reducible exact Below.refl _ _ | with_reducible exact HB1.out | (with_reducible refine Below.alloc ?_ ?_ _; rotate_left 1; (focus (first | omega | (simp; done) | (simp; omega)))) | (with_reducible refine Below.setCell ?_ ?_ _; rotate_left 1; (focus (first | omega | (simp; done) | (simp; omega)))) | with_reducible refine Below.drew ?_ | with_reducible refine below_drewN ?_ _))) (ds := Tok.enc (bareTok 0 noText s.size)) (cs := Tok.cells (bareTok 0 noText s.size)) rfl (tok_own hok (by omega) _) rfl (cells_new _ _ _ _ (by simp)) hsz (Nat.le_refl _) (by simp; omega) (by simp; omega) (by omega) (by simp; omega) ?_; intro v' w2 hap; obtain ⟨A', c', rfl⟩ := hap.form; have HOWN2 := Lib.hid hap.own; have hcc1 := hap.cell1; have hsz2 := hap.size; have HBEL := Lib.hid (Below.trans (a := w) (by repeat (first | with_reducible exact Below.refl _ _ | with_reducible exact HBL.out | (with_reducible refine Below.alloc ?_ ?_ _; rotate_left 1; (focus (first | omega | (simp; done) | (simp; omega)))) | (with_reducible refine Below.setCell ?_ ?_ _; rotate_left 1; (focus (first | omega | (simp; done) | (simp; omega)))) | with_reducible refine Below.drew ?_ | with_reducible refine below_drewN ?_ _)) hap.below); clear hap))
        go_ret3
        have hfin : beginM num s = (done ++ [bareTok 0 noText s.size], 0, 0) := by rw [HE.out, B2.out HER.out trivial]; rfl
        rw [tokensM, hfin, if_pos rfl]
        refine ⟨.slice A' (done.length + 1) c', rfl, ?_, HBEL.out⟩
        simpa [toks] using HOWN2.out
      · have hok := TokFine.ok h2 hB
        have hkd := beq_f (show kd ≠ 0 by have := h2.kind; simp at this; omega)
        obtain ⟨e0, g1, g2, g3⟩ := h2.text
        have g4 := h2.pos
        have hsum : ps + tx.size = e0 := by
          simp only at g3 g4
          rw [g3, g4]; simp; omega
        have hkd0 : kd ≠ 0 := by have := h2.kind; simp at this; omega
        have HKD := Lib.hid hkd0; clear hkd0
        have HSUM := Lib.hid hsum
        have hsum' : (ps : Int) + (tx.size : Int) = (e0 : Int) := by omega
        clear hsum h2 g3 g4
        go_wp2_with (first | (go_at_call 30; refine (HFI2.out _ (by repeat (first | with_reducible exact Below.refl _ _ | with_reducible exact HBW.out | (with_reducible refine Below.alloc ?_ ?_ _; rotate_left 1; (focus (first | omega | (simp; done) | (simp; omega)))) | (with_reducible refine Below.setCell ?_ ?_ _; rotate_left 1; (focus (first | omega | (simp; done) | (simp; omega)))) | with_reducible refine Below.drew ?_ | with_reducible refine below_drewN ?_ _))).mono ?_; rintro e' w1 ⟨rfl, hb1⟩; obtain ⟨hc, hf, hz⟩ := grow hb1; have HBL := Lib.hid (HBW.out.trans (hb1.mono hsz)); have hz1 := hb1.size; have HB1 := Lib.hid hb1; clear hb1) | (at_builtin; refine wpList_app rfl _ _ 31 rfl appTok rfl (HOWN.out.step (Nat.le_refl _) (by repeat (first | with_reducible exact Below.refl _ _ | with_reducible exact HB1.out | (with_reducible refine Below.alloc ?_ ?_ _; rotate_left 1; (focus (first | omega | (simp; done) | (simp; omega)))) | (with_reducible refine Below.setCell ?_ ?_ _; rotate_left 1; (focus (first | omega | (simp; done) | (simp; omega)))) | with_reducible refine Below.drew ?_ | with_reducible refine below_drewN ?_ _))) (ds := Tok.enc (⟨kd, tx, ps, lk, ln, lb, lt⟩ : Tok)) (cs := Tok.cells (⟨kd, tx, ps, lk, ln, lb, lt⟩ : Tok)) rfl (tok_own hok (by omega) _) rfl (cells_new _ _ _ _ (by simp)) hsz (Nat.le_refl _) (by simp; omega) (by simp; omega) (by omega) (by simp; omega) ?_; intro v' w2 hap; obtain ⟨A', c', rfl⟩ := hap.form; have HOWN2 := Lib.hid hap.own; have hcc1 := hap.cell1; have hsz2 := hap.size; have HBEL := Lib.hid (Below.trans (a := w) (by repeat (first | with_reducible exact Below.refl _ _ | with_reducible exact HBL.out | (with_reducible refine Below.alloc ?_ ?_ _; rotate_left 1; (focus (first | omega | (simp; done) | (simp; omega)))) | (with_reducible refine Below.setCell ?_ ?_ _; rotate_left 1; (focus (first | omega | (simp; done) | (simp; omega)))) | with_reducible refine Below.drew ?_ | with_reducible refine below_drewN ?_ _)) hap.below); clear hap))
        go_roundw
        case rel =>
          refine ⟨done ++ [⟨kd, tx, ps, lk, ln, lb, lt⟩], e0, n, g2, rfl, by simp; omega, by omega, ?_, ?_, ⟨A', c', by simp⟩, HBEL.out⟩
          · have hb3 := B3.out HER.out HKD.out
            rw [HSUM.out] at hb3
            rw [HE.out, hb3]; simp
          · simpa [toks] using HOWN2.out
        case measure => simp [intOf]; omega
    · have her' := bne_t her
      have HER := Lib.hid her; clear her
      go_wp2_with (first | (go_at_call 30; refine (HFI2.out _ (by repeat (first | with_reducible exact Below.refl _ _ | with_reducible exact HBW.out | (with_reducible refine Below.alloc ?_ ?_ _; rotate_left 1; (focus (first | omega | (simp; done) | (simp; omega)))) | (with_reducible refine Below.setCell ?_ ?_ _; rotate_left 1; (focus (first | omega | (simp; done) | (simp; omega)))) | with_reducible refine Below.drew ?_ | with_reducible refine below_drewN ?_ _))).mono ?_; rintro e' w1 ⟨rfl, hb1⟩; obtain ⟨hc, hf, hz⟩ := grow hb1; have HBL := Lib.hid (HBW.out.trans (hb1.mono hsz)); have hz1 := hb1.size; have HB1 := Lib.hid hb1; clear hb1))
      go_ret3
      have hfin : beginM num s = (done, er, bad) := by rw [HE.out, B1.out HER.out, List.append_nil]
      rw [tokensM, hfin, if_neg HER.out]
      refine ⟨.slice none 0 0, rfl, Own.nil _ _ _ _ _, (by repeat (first | with_reducible exact Below.refl _ _ | with_reducible exact HBL.out | (with_reducible refine Below.alloc ?_ ?_ _; rotate_left 1; (focus (first | omega | (simp; done) | (simp; omega)))) | (with_reducible refine Below.setCell ?_ ?_ _; rotate_left 1; (focus (first | omega | (simp; done) | (simp; omega)))) | with_reducible refine Below.drew ?_ | with_reducible refine below_drewN ?_ _))⟩
end Pal.S
