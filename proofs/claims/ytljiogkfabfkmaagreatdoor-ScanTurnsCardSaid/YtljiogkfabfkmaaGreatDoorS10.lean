/- scan.whole, scan.Integer. -/
import Derived.Test.YtljiogkfabfkmaaGreatDoorS9
import Derived.Test.YtljiogkfabfkmaaGreatDoorEnv
import Derived.Lib.SmallJoins
open Go Go.RowKit Go.Proofs
namespace Pal.S

/-- an integer's literal, as kind, number, text -/
structure IntL where
  k : Int
  n : Int
  t : ByteArray
def IntL.v (l : IntL) : Value := .agg #[.int .u8 l.k, .int .i64 l.n, .int .u64 0, .string l.t, .slice none 0 0]

def largeL (d : ByteArray) (minus : Bool) : IntL := ⟨5, 0, if minus then ⟨#[45]⟩ ++ d else d⟩
def smallL (d : ByteArray) (minus : Bool) (n : Int) : IntL := if -1152921504606846976 ≤ n ∧ n ≤ 1152921504606846975 then ⟨4, n, noText⟩ else largeL d minus
def wholeM (d : ByteArray) (minus : Bool) : IntL :=
  if d.size ≤ 19 then
    match Lib.parseIntB 64 d.data.toList with
    | .ok v => smallL d minus (if minus then -v else v)
    | _ => largeL d minus
  else largeL d minus

theorem parse_ok (d : ByteArray) (hd : d.size ≤ 140737488355328) (v : Int) (hp : Lib.parseIntB 64 d.data.toList = .ok v) (w : World) :
    Calls Tryz.prog 72 #[.string d, .int .i64 10, .int .i64 64] w fun e w' => e = .returned (.tuple #[.int .i64 v, .nilIface]) ∧ Below w.heap.size w w' := by
  refine (Tryz.strconv_ParseInt_10_at64_ok d (by omega) v hp w).mono ?_
  rintro e w' ⟨rfl, hw⟩
  refine ⟨rfl, ?_⟩
  rcases hw with rfl | ⟨t, rfl⟩
  · exact Below.refl _ _
  · exact Go.Joins.below_bytesWorld _ _ _ _ (Nat.le_refl _)

/-- ParseInt to base 10: an error that is not nil -/
theorem parse_err (d : ByteArray) (hd : d.size ≤ 140737488355328) (hn : ∀ v, Lib.parseIntB 64 d.data.toList ≠ .ok v) (w : World) (he : Env w) :
    Calls Tryz.prog 72 #[.string d, .int .i64 10, .int .i64 64] w fun e w' => (∃ n tp a, e = .returned (.tuple #[.int .i64 n, .iface tp (.pointer (some a))]) ∧ -9223372036854775808 ≤ n ∧ n ≤ 9223372036854775807) ∧ Below w.heap.size w w' := by
  obtain ⟨tp, p, hr⟩ := he.range
  obtain ⟨tq, q, hs⟩ := he.syn
  rcases hp : Lib.parseIntB 64 d.data.toList with v | _ | _
  · exact absurd hp (hn v)
  · refine (Tryz.strconv_ParseInt_10_at64_syntax_var d (by omega) hn (by rw [hp]; exact fun e => by cases e) tq q w hs).mono ?_
    rintro e w' ⟨N, rfl, _, _, hb⟩
    exact ⟨⟨0, _, _, rfl, by omega, by omega⟩, hb⟩
  · refine (Tryz.strconv_ParseInt_10_at64_range_var d (by omega) hp tp p w hr).mono ?_
    rintro e w' ⟨N, rfl, _, _, hb⟩
    refine ⟨⟨_, _, _, rfl, ?_, ?_⟩, hb⟩
    · unfold Lib.intSat; split <;> simp
    · unfold Lib.intSat; split <;> simp

set_option maxHeartbeats 2000000 in
theorem whole_any (d : ByteArray) (minus : Bool) (hd : d.size ≤ 140737488355328) (hpos : ∀ v, Lib.parseIntB 64 d.data.toList = .ok v → 0 ≤ v) (w : World) (he : Env w) :
    Calls Tryz.prog 51 #[.string d, .bool minus] w fun e w' => e = .returned (wholeM d minus).v ∧ Below w.heap.size w w' := by
  by_cases hs : d.size ≤ 19
  · have hcases : (∃ v, Lib.parseIntB 64 d.data.toList = .ok v) ∨ ∀ v, Lib.parseIntB 64 d.data.toList ≠ .ok v := by
      rcases hp : Lib.parseIntB 64 d.data.toList with v | _ | _
      · exact .inl ⟨v, rfl⟩
      · exact .inr (by simp)
      · exact .inr (by simp)
    rcases hcases with ⟨v, hp⟩ | hp
    · have h0 := hpos v hp
      have hb := Lib.parseIntB_bounds hp
      simp at hb
      have hcall := parse_ok d hd v hp
      have HC := Lib.hid hcall; have HP := Lib.hid hp; clear hcall hp hpos he
      cases minus
      · by_cases h1 : v ≤ 1152921504606846975
        · have hv : wholeM d false = ⟨4, v, noText⟩ := by simp [wholeM, hs, HP.out, smallL, h1]; omega
          rw [hv]; clear hv
          go_enter Tryz.func51, Tryz.ntmps51
          go_wp2_with (go_at_call 72; refine (HC.out _).mono ?_; rintro e w1 ⟨rfl, hb1⟩; obtain ⟨hc, hf, hz⟩ := grow hb1; have HB := Lib.hid (show Below w.heap.size w w1 from Below.on (W := w.alloc _) (by repeat (first | with_reducible exact Below.refl _ _ | (with_reducible refine Below.alloc ?_ ?_ _; rotate_left 1; (focus (first | omega | (simp; done) | (simp; omega)))) | (with_reducible refine Below.setCell ?_ ?_ _; rotate_left 1; (focus (first | omega | (simp; done) | (simp; omega)))) | with_reducible refine Below.drew ?_ | with_reducible refine below_drewN ?_ _)) hb1 (by simp)); clear hb1)
          refine bodyPost_ret (by simp [results, Tryz.results51, go_sem, hc, hf, hz]; rfl) rfl ⟨rfl, (by repeat (first | with_reducible exact Below.refl _ _ | with_reducible exact HB.out | (with_reducible refine Below.alloc ?_ ?_ _; rotate_left 1; (focus (first | omega | (simp; done) | (simp; omega)))) | (with_reducible refine Below.setCell ?_ ?_ _; rotate_left 1; (focus (first | omega | (simp; done) | (simp; omega)))) | with_reducible refine Below.drew ?_ | with_reducible refine below_drewN ?_ _))⟩
        · have hv : wholeM d false = largeL d false := by simp [wholeM, hs, HP.out, smallL, h1]
          rw [hv]; clear hv
          go_enter Tryz.func51, Tryz.ntmps51
          go_wp2_with (go_at_call 72; refine (HC.out _).mono ?_; rintro e w1 ⟨rfl, hb1⟩; obtain ⟨hc, hf, hz⟩ := grow hb1; have HB := Lib.hid (show Below w.heap.size w w1 from Below.on (W := w.alloc _) (by repeat (first | with_reducible exact Below.refl _ _ | (with_reducible refine Below.alloc ?_ ?_ _; rotate_left 1; (focus (first | omega | (simp; done) | (simp; omega)))) | (with_reducible refine Below.setCell ?_ ?_ _; rotate_left 1; (focus (first | omega | (simp; done) | (simp; omega)))) | with_reducible refine Below.drew ?_ | with_reducible refine below_drewN ?_ _)) hb1 (by simp)); clear hb1)
          refine bodyPost_ret (by simp [results, Tryz.results51, go_sem, hc, hf, hz]; rfl) rfl ⟨rfl, (by repeat (first | with_reducible exact Below.refl _ _ | with_reducible exact HB.out | (with_reducible refine Below.alloc ?_ ?_ _; rotate_left 1; (focus (first | omega | (simp; done) | (simp; omega)))) | (with_reducible refine Below.setCell ?_ ?_ _; rotate_left 1; (focus (first | omega | (simp; done) | (simp; omega)))) | with_reducible refine Below.drew ?_ | with_reducible refine below_drewN ?_ _))⟩
      · by_cases h1 : v ≤ 1152921504606846976
        · have hv : wholeM d true = ⟨4, -v, noText⟩ := by simp [wholeM, hs, HP.out, smallL]; omega
          rw [hv]; clear hv
          go_enter Tryz.func51, Tryz.ntmps51
          go_wp2_with (go_at_call 72; refine (HC.out _).mono ?_; rintro e w1 ⟨rfl, hb1⟩; obtain ⟨hc, hf, hz⟩ := grow hb1; have HB := Lib.hid (show Below w.heap.size w w1 from Below.on (W := w.alloc _) (by repeat (first | with_reducible exact Below.refl _ _ | (with_reducible refine Below.alloc ?_ ?_ _; rotate_left 1; (focus (first | omega | (simp; done) | (simp; omega)))) | (with_reducible refine Below.setCell ?_ ?_ _; rotate_left 1; (focus (first | omega | (simp; done) | (simp; omega)))) | with_reducible refine Below.drew ?_ | with_reducible refine below_drewN ?_ _)) hb1 (by simp)); clear hb1)
          refine bodyPost_ret (by simp [results, Tryz.results51, go_sem, hc, hf, hz]; rfl) rfl ⟨rfl, (by repeat (first | with_reducible exact Below.refl _ _ | with_reducible exact HB.out | (with_reducible refine Below.alloc ?_ ?_ _; rotate_left 1; (focus (first | omega | (simp; done) | (simp; omega)))) | (with_reducible refine Below.setCell ?_ ?_ _; rotate_left 1; (focus (first | omega | (simp; done) | (simp; omega)))) | with_reducible refine Below.drew ?_ | with_reducible refine below_drewN ?_ _))⟩
        · have hv : wholeM d true = largeL d true := by simp [wholeM, hs, HP.out, smallL]; omega
          rw [hv]; clear hv
          go_enter Tryz.func51, Tryz.ntmps51
          go_wp2_with (go_at_call 72; refine (HC.out _).mono ?_; rintro e w1 ⟨rfl, hb1⟩; obtain ⟨hc, hf, hz⟩ := grow hb1; have HB := Lib.hid (show Below w.heap.size w w1 from Below.on (W := w.alloc _) (by repeat (first | with_reducible exact Below.refl _ _ | (with_reducible refine Below.alloc ?_ ?_ _; rotate_left 1; (focus (first | omega | (simp; done) | (simp; omega)))) | (with_reducible refine Below.setCell ?_ ?_ _; rotate_left 1; (focus (first | omega | (simp; done) | (simp; omega)))) | with_reducible refine Below.drew ?_ | with_reducible refine below_drewN ?_ _)) hb1 (by simp)); clear hb1)
          refine bodyPost_ret (by simp [results, Tryz.results51, go_sem, hc, hf, hz]; rfl) rfl ⟨rfl, (by repeat (first | with_reducible exact Below.refl _ _ | with_reducible exact HB.out | (with_reducible refine Below.alloc ?_ ?_ _; rotate_left 1; (focus (first | omega | (simp; done) | (simp; omega)))) | (with_reducible refine Below.setCell ?_ ?_ _; rotate_left 1; (focus (first | omega | (simp; done) | (simp; omega)))) | with_reducible refine Below.drew ?_ | with_reducible refine below_drewN ?_ _))⟩
    · have hv : wholeM d minus = largeL d minus := by
        unfold wholeM
        rw [if_pos hs]
        split
        · rename_i v h; exact absurd h (hp v)
        · rfl
      rw [hv]; clear hv
      have hcall := fun w' (h : Below w.heap.size w w') => parse_err d hd hp w' (he.below he.size h)
      have HC := Lib.hid hcall; clear hcall hp hpos he
      cases minus
      · go_enter Tryz.func51, Tryz.ntmps51
        go_wp2_with (go_at_call 72; refine (HC.out _ (by repeat (first | with_reducible exact Below.refl _ _ | (with_reducible refine Below.alloc ?_ ?_ _; rotate_left 1; (focus (first | omega | (simp; done) | (simp; omega)))) | (with_reducible refine Below.setCell ?_ ?_ _; rotate_left 1; (focus (first | omega | (simp; done) | (simp; omega)))) | with_reducible refine Below.drew ?_ | with_reducible refine below_drewN ?_ _))).mono ?_; rintro e w1 ⟨⟨n, tp, a, rfl, hn1, hn2⟩, hb1⟩; obtain ⟨hc, hf, hz⟩ := grow hb1; have HB := Lib.hid (show Below w.heap.size w w1 from Below.on (W := w.alloc _) (by repeat (first | with_reducible exact Below.refl _ _ | (with_reducible refine Below.alloc ?_ ?_ _; rotate_left 1; (focus (first | omega | (simp; done) | (simp; omega)))) | (with_reducible refine Below.setCell ?_ ?_ _; rotate_left 1; (focus (first | omega | (simp; done) | (simp; omega)))) | with_reducible refine Below.drew ?_ | with_reducible refine below_drewN ?_ _)) hb1 (by simp)); clear hb1)
        refine bodyPost_ret (by simp [results, Tryz.results51, go_sem, hc, hf, hz]; rfl) rfl ⟨rfl, (by repeat (first | with_reducible exact Below.refl _ _ | with_reducible exact HB.out | (with_reducible refine Below.alloc ?_ ?_ _; rotate_left 1; (focus (first | omega | (simp; done) | (simp; omega)))) | (with_reducible refine Below.setCell ?_ ?_ _; rotate_left 1; (focus (first | omega | (simp; done) | (simp; omega)))) | with_reducible refine Below.drew ?_ | with_reducible refine below_drewN ?_ _))⟩
      · go_enter Tryz.func51, Tryz.ntmps51
        go_wp2_with (go_at_call 72; refine (HC.out _ (by repeat (first | with_reducible exact Below.refl _ _ | (with_reducible refine Below.alloc ?_ ?_ _; rotate_left 1; (focus (first | omega | (simp; done) | (simp; omega)))) | (with_reducible refine Below.setCell ?_ ?_ _; rotate_left 1; (focus (first | omega | (simp; done) | (simp; omega)))) | with_reducible refine Below.drew ?_ | with_reducible refine below_drewN ?_ _))).mono ?_; rintro e w1 ⟨⟨n, tp, a, rfl, hn1, hn2⟩, hb1⟩; obtain ⟨hc, hf, hz⟩ := grow hb1; have HB := Lib.hid (show Below w.heap.size w w1 from Below.on (W := w.alloc _) (by repeat (first | with_reducible exact Below.refl _ _ | (with_reducible refine Below.alloc ?_ ?_ _; rotate_left 1; (focus (first | omega | (simp; done) | (simp; omega)))) | (with_reducible refine Below.setCell ?_ ?_ _; rotate_left 1; (focus (first | omega | (simp; done) | (simp; omega)))) | with_reducible refine Below.drew ?_ | with_reducible refine below_drewN ?_ _)) hb1 (by simp)); clear hb1)
        refine bodyPost_ret (by simp [results, Tryz.results51, go_sem, hc, hf, hz]; rfl) rfl ⟨rfl, (by repeat (first | with_reducible exact Below.refl _ _ | with_reducible exact HB.out | (with_reducible refine Below.alloc ?_ ?_ _; rotate_left 1; (focus (first | omega | (simp; done) | (simp; omega)))) | (with_reducible refine Below.setCell ?_ ?_ _; rotate_left 1; (focus (first | omega | (simp; done) | (simp; omega)))) | with_reducible refine Below.drew ?_ | with_reducible refine below_drewN ?_ _))⟩
  · have hv : wholeM d minus = largeL d minus := by simp [wholeM, hs]
    rw [hv]; clear hv
    cases minus
    · go_enter Tryz.func51, Tryz.ntmps51
      go_wp2
      refine bodyPost_ret (by simp [results, Tryz.results51, go_sem]; rfl) rfl ⟨rfl, (by repeat (first | with_reducible exact Below.refl _ _ | (with_reducible refine Below.alloc ?_ ?_ _; rotate_left 1; (focus (first | omega | (simp; done) | (simp; omega)))) | (with_reducible refine Below.setCell ?_ ?_ _; rotate_left 1; (focus (first | omega | (simp; done) | (simp; omega)))) | with_reducible refine Below.drew ?_ | with_reducible refine below_drewN ?_ _))⟩
    · go_enter Tryz.func51, Tryz.ntmps51
      go_wp2
      refine bodyPost_ret (by simp [results, Tryz.results51, go_sem]; rfl) rfl ⟨rfl, (by repeat (first | with_reducible exact Below.refl _ _ | (with_reducible refine Below.alloc ?_ ?_ _; rotate_left 1; (focus (first | omega | (simp; done) | (simp; omega)))) | (with_reducible refine Below.setCell ?_ ?_ _; rotate_left 1; (focus (first | omega | (simp; done) | (simp; omega)))) | with_reducible refine Below.drew ?_ | with_reducible refine below_drewN ?_ _))⟩
end Pal.S
