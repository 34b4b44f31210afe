/- strings.SplitAfterSeq and strings.CutSuffix at a colon. -/
import Derived.Test.YtljiogkfabfkmaaGreatDoorS6
open Go Go.RowKit Go.Proofs Go.Shelf
namespace Pal.S

theorem splitSeq_any (s : ByteArray) (w : World) :
    Calls Tryz.prog 65 #[.string s, .string ⟨#[58]⟩, .int .i64 1] w fun e w' =>
      e = .returned (.func (.func 84) #[] #[.pointer (some ⟨w.heap.size + 1, 0, none⟩), .pointer (some ⟨w.heap.size, 0, none⟩), .pointer (some ⟨w.heap.size + 2, 0, none⟩)]) ∧ SplitC w.heap.size s w' ∧ w'.heap.size = w.heap.size + 3 ∧ Below w.heap.size w w' := by
  go_enter Tryz.func65, Tryz.ntmps65
  go_wp2
  go_ret
  refine ⟨rfl, ?_, by simp, (by repeat (first | with_reducible exact Below.refl _ _ | (with_reducible refine Below.alloc ?_ ?_ _; rotate_left 1; (focus (first | omega | (simp; done) | (simp; omega)))) | (with_reducible refine Below.setCell ?_ ?_ _; rotate_left 1; (focus (first | omega | (simp; done) | (simp; omega)))) | with_reducible refine Below.drew ?_ | with_reducible refine below_drewN ?_ _))⟩
  have h1 := alloc_at w (.cells #[.string s] 9)
  have h2 := alloc_at (w.alloc (.cells #[.string s] 9)) (.cells #[.string ⟨#[58]⟩] 9)
  have h3 := alloc_at ((w.alloc (.cells #[.string s] 9)).alloc (.cells #[.string ⟨#[58]⟩] 9)) (.cells #[.int .i64 1] 3)
  simp only [World.size_alloc] at h2 h3
  refine ⟨?_, ?_, ?_, ?_⟩
  · exact (cell_alloc _ _ (by first | omega | with_reducible rfl | (simp; done) | (simp; omega))).trans ((cell_alloc _ _ (by first | omega | with_reducible rfl | (simp; done) | (simp; omega))).trans (cell_at h1 0))
  · exact free_at ((alloc_old _ (by first | omega | with_reducible rfl | (simp; done) | (simp; omega))).trans ((alloc_old _ (by first | omega | with_reducible rfl | (simp; done) | (simp; omega))).trans h1)) 0
  · exact (cell_alloc _ _ (by first | omega | with_reducible rfl | (simp; done) | (simp; omega))).trans (cell_at h2 0)
  · exact cell_at h3 0

theorem SplitAfterSeq_any (s : ByteArray) (w : World) :
    Calls Tryz.prog 42 #[.string s, .string ⟨#[58]⟩] w fun e w' =>
      e = .returned (.func (.func 84) #[] #[.pointer (some ⟨w.heap.size + 1, 0, none⟩), .pointer (some ⟨w.heap.size, 0, none⟩), .pointer (some ⟨w.heap.size + 2, 0, none⟩)]) ∧ SplitC w.heap.size s w' ∧ w'.heap.size = w.heap.size + 3 ∧ Below w.heap.size w w' := by
  go_enter Tryz.func42, Tryz.ntmps42
  go_wp2_with ((go_at_call 65; refine (splitSeq_any s w).mono ?_; rintro e w' ⟨rfl, hc, hz, hb⟩))
  go_ret
  exact ⟨rfl, hc, hz, hb⟩

/-- does a text end with a colon? -/
def endB (s : ByteArray) : Bool := decide (0 < s.size) && bt s (s.size - 1) == 58

theorem hasSuffix_end (s : ByteArray) : Lib.hasSuffix s.data.toList [58] = endB s := by
  unfold Lib.hasSuffix endB
  rw [Bool.eq_iff_iff, List.isSuffixOf_iff_suffix]
  have hl : s.data.toList.length = s.size := by rw [Array.length_toList]; rfl
  constructor
  · rintro ⟨t, ht⟩
    have h0 : t.length + 1 = s.size := by rw [← hl, ← ht]; simp
    have h1 : s.size - 1 < s.size := by omega
    have h2 : s.data.toList[s.size - 1]? = some 58 := by
      rw [← ht, List.getElem?_append_right (by omega)]
      simp [show s.size - 1 - t.length = 0 by omega]
    simp only [Bool.and_eq_true, decide_eq_true_eq, beq_iff_eq]
    refine ⟨by omega, ?_⟩
    rw [bt_of h1]
    rw [List.getElem?_eq_getElem (by omega)] at h2
    have := Option.some.inj h2
    rw [ByteArray.getElem_eq_getElem_data, ← Array.getElem_toList, this]
    rfl
  · intro h
    simp only [Bool.and_eq_true, decide_eq_true_eq, beq_iff_eq] at h
    refine ⟨s.data.toList.take (s.size - 1), ?_⟩
    have h1 : s.size - 1 < s.size := by omega
    have h2 := h.2
    rw [bt_of h1, ByteArray.getElem_eq_getElem_data, ← Array.getElem_toList] at h2
    have h3 : s.data.toList[s.size - 1]'(by omega) = 58 := UInt8.toNat_inj.1 (by rw [show (58 : UInt8).toNat = 58 from rfl]; omega)
    have h4 := List.take_append_drop (s.size - 1) s.data.toList
    rw [List.drop_eq_getElem_cons (by omega), h3, List.drop_eq_nil_of_le (by omega)] at h4
    exact h4

theorem cutSuffix_any (s : ByteArray) (hs : s.size ≤ 140737488355328) (w : World) :
    Calls Tryz.prog 66 #[.string s, .string ⟨#[58]⟩] w fun e w' => e = .returned (.tuple #[.string (if endB s then s.extract 0 (s.size - 1) else s), .bool (endB s)]) ∧ w = w' := by
  have hcall := Tryz.stringslite_HasSuffix s ⟨#[58]⟩ w (by omega)
  rw [show (⟨#[58]⟩ : ByteArray).data.toList = [58] from rfl, hasSuffix_end] at hcall
  have HC := Lib.hid hcall; clear hcall
  cases h : endB s
  · rw [h] at HC
    go_enter Tryz.func66, Tryz.ntmps66
    go_wp2_with (go_at_call 87; refine HC.out.mono ?_; rintro e w' ⟨rfl, rfl⟩)
    go_ret2
    exact ⟨rfl, rfl⟩
  · rw [h] at HC
    have h0 : 0 < s.size := by
      rcases Nat.eq_zero_or_pos s.size with e | e
      · simp [endB, e] at h
      · exact e
    have h1 : ((s.size : Int) - 1) = ((s.size - 1 : Nat) : Int) := by omega
    go_enter Tryz.func66, Tryz.ntmps66
    go_wp2_with (go_at_call 87; refine HC.out.mono ?_; rintro e w' ⟨rfl, rfl⟩)
    go_ret2
    exact ⟨by simp, rfl⟩

theorem CutSuffix_any (s : ByteArray) (hs : s.size ≤ 140737488355328) (w : World) :
    Calls Tryz.prog 43 #[.string s, .string ⟨#[58]⟩] w fun e w' => e = .returned (.tuple #[.string (if endB s then s.extract 0 (s.size - 1) else s), .bool (endB s)]) ∧ w = w' := by
  have h := cutSuffix_any s hs w
  generalize (if endB s then s.extract 0 (s.size - 1) else s) = u at h ⊢
  have H := Lib.hid h; clear h
  go_enter Tryz.func43, Tryz.ntmps43
  go_wp2_with (go_at_call 66; refine (H.out).mono ?_; rintro e w' ⟨rfl, rfl⟩)
  go_ret2
  exact ⟨rfl, rfl⟩
end Pal.S
