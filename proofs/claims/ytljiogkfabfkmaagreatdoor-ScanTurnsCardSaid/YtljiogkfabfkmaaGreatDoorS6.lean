/- strings.splitSeq: its iterator. -/
import Derived.Test.YtljiogkfabfkmaaGreatDoorS1
import Derived.Test.YtljiogkfabfkmaaGreatDoorS4
import Derived.Test.YtljiogkfabfkmaaGreatDoorS5
import Derived.Test.YtljiogkfabfkmaaGreatDoorOwn
import Derived.Shelf.Abstract
import Derived.Shelf.RegionOpen
import Derived.WalkKit
import Derived.OwnWalkIn
import Derived.TacticsInMore
import Derived.LoopNIn
import Derived.LoopIn
open Go Go.RowKit Go.Proofs Go.Shelf
namespace Pal.S
attribute [local go_sem] Oper.semAt_some

/-- the iterator's three variables -/
structure SplitC (n : Nat) (t : ByteArray) (w : World) : Prop where
  cs : w.cell? ⟨n, 0, none⟩ = some (.string t)
  fs : w.frozen? ⟨n, 0, none⟩ = false
  ce : w.cell? ⟨n + 1, 0, none⟩ = some (.string ⟨#[58]⟩)
  ca : w.cell? ⟨n + 2, 0, none⟩ = some (.int .i64 1)

theorem SplitC.same {n m : Nat} {t : ByteArray} {w w' : World} (h : SplitC n t w) (hs : SameB n m w w') (hm : n + 3 ≤ m) : SplitC n t w' := by
  have g : ∀ k, n ≤ k → k < n + 3 → w'.heap[k]? = w.heap[k]? := fun k h1 h2 => hs.same k h1 (by omega)
  obtain ⟨h1, h2, h3, h4⟩ := h
  refine ⟨?_, ?_, ?_, ?_⟩
  · rw [← h1]; simp only [World.cell?]; rw [g n (by omega) (by omega)]
  · rw [← h2]; simp only [World.frozen?]; rw [g n (by omega) (by omega)]
  · rw [← h3]; simp only [World.cell?]; rw [g (n + 1) (by omega) (by omega)]
  · rw [← h4]; simp only [World.cell?]; rw [g (n + 2) (by omega) (by omega)]

theorem SplitC.set {n : Nat} {t : ByteArray} {w : World} (h : SplitC n t w) (u : ByteArray) : SplitC n u (w.setCell ⟨n, 0, none⟩ (.string u)) := by
  obtain ⟨h1, h2, h3, h4⟩ := h
  refine ⟨World.cell?_setCell_same _ _ _ h1, ?_, ?_, ?_⟩
  · rw [World.frozen?_setCell]; exact h2
  · rw [World.cell?_setCell_other]; exact h3; simp
  · rw [World.cell?_setCell_other]; exact h4; simp

def strLen (w : World) (n : Nat) : Nat := match w.cell? ⟨n, 0, none⟩ with | some (.string t) => t.size | _ => 0
theorem SplitC.len {n : Nat} {t : ByteArray} {w : World} (h : SplitC n t w) : strLen w n = t.size := by unfold strLen; rw [h.cs]

theorem extract_rest (s : ByteArray) (i j k : Nat) (hk : i + k ≤ s.size) : (s.extract i s.size).extract j k = s.extract (i + j) (i + k) := by
  rw [ByteArray.extract_extract, Nat.min_eq_left hk]

theorem pieces_step {s : ByteArray} {i : Nat} (h : runE (fun x => decide (x ≠ 58)) s i < s.size) : pieces s i = s.extract i (runE (fun x => decide (x ≠ 58)) s i + 1) :: pieces s (runE (fun x => decide (x ≠ 58)) s i + 1) := by rw [pieces, if_pos h]
theorem pieces_end {s : ByteArray} {i : Nat} (h : ¬ runE (fun x => decide (x ≠ 58)) s i < s.size) : pieces s i = [s.extract i s.size] := by rw [pieces, if_neg h]
theorem extract_all (s : ByteArray) : s.extract 0 s.size = s := ByteArray.ext (by simp)

set_option maxHeartbeats 1000000 in
theorem split_in (m : Nat) (hm : 2 ≤ m) (n : Nat) (s : ByteArray) (hs : s.size ≤ 140737488355328) (w : World) (hw : SplitC n s w) (hn : n + 3 ≤ w.heap.size) :
    CellSeq Fence.wide m Tryz.prog 84 #[.pointer (some ⟨n + 1, 0, none⟩), .pointer (some ⟨n, 0, none⟩), .pointer (some ⟨n + 2, 0, none⟩)] (fun x => .string x) n n (fun pre x => pre.length < (pieces s 0).length ∧ x.size ≤ s.size)
      (fun xs => xs = pieces s 0) (fun pre => ∃ x p q, pre = p ++ [x] ∧ pieces s 0 = pre ++ q) w := by
  intro l J Jx W hW hJ hJx hY h0
  have hw' : SplitC n s W := hw.same (hW.less (Nat.zero_le _) (Nat.le_refl _)) hn
  have HY := Lib.hid hY; have H0 := Lib.hid h0; have HJ := Lib.hid hJ; have HJX := Lib.hid hJx; clear hY h0 hJ hJx
  have H := Lib.hid hw'
  obtain ⟨h1, h2, h3, h4⟩ := hw'
  refine callsIn_of_wp Tryz.func84 rfl trivial ?_ rfl
  simp only [Tryz.ntmps84, List.size_toArray, List.length_cons, List.length_nil, Nat.reduceAdd, Nat.reduceSub, Array.replicate_succ, Array.replicate_zero, List.push_toArray, List.append_toArray, List.nil_append, List.cons_append]
  gi_wp2
  clear h1 h2 h3 h4
  gi_loopw [7] (fun _ wr => ∃ (pre : List ByteArray) (i : Nat), i ≤ s.size ∧ SplitC n (s.extract i s.size) wr ∧ J pre wr ∧ pieces s 0 = pre ++ pieces s i) (fun _ wr => strLen wr n)
  case atStart => exact ⟨[], 0, Nat.zero_le _, by rw [extract_all]; exact H.out, H0.out, rfl⟩
  case round =>
    obtain ⟨pre, i, hi, hc, hJp, hp⟩ := hrel
    have HC := Lib.hid hc; have HP := Lib.hid hp; have HJP := Lib.hid hJp; clear hp hJp
    obtain ⟨h1, h2, h3, h4⟩ := hc
    have hsz : (s.extract i s.size).size = s.size - i := by simp
    have hix := index_run 58 s i hi
    have hge := runE_ge (fun x => decide (x ≠ 58)) s i
    by_cases hlt : runE (fun x => decide (x ≠ 58)) s i < s.size
    · have e1 : Lib.indexByte (s.extract i s.size).data.toList 58 = ((runE (fun x => decide (x ≠ 58)) s i - i : Nat) : Int) := by rw [hix]; exact if_pos hlt
      have st := pieces_step hlt
      generalize runE (fun x => decide (x ≠ 58)) s i = r at *
      clear hix
      have ST := Lib.hid st; clear st
      have E1 := Lib.hid e1
      obtain ⟨t, ht⟩ : ∃ t, t = s.extract i s.size := ⟨_, rfl⟩
      rw [← ht] at h1 hsz e1
      have hfr : t.extract 0 (r - i + 1) = s.extract i (r + 1) := by rw [ht, extract_rest s i 0 _ (by omega)]; congr 1; omega
      have hre : t.extract (r - i + 1) (s.size - i) = s.extract (r + 1) s.size := by rw [ht, extract_rest s i _ _ (by omega)]; congr 1 <;> omega
      have HT := Lib.hid ht; clear ht
      obtain ⟨fn, tmps, assign, body, hy, hR⟩ := HY.out pre (s.extract i (r + 1)) wr HJP.out ⟨by rw [HP.out, ST.out]; simp, by simp; omega⟩
      have hcall := Tryz.strings_Index_one t 58 wr
      rw [e1] at hcall
      have HC2 := Lib.hid hcall; clear hcall e1
      have hm1 : 1 ≤ m := by omega
      have hm2 : 1 ≤ m - 1 := by omega
      gi_wp2_with (refine ⟨trivial, ?_⟩; gi_at_call 86; refine (callsIn_wide.2 HC2.out).mono ?_; rintro e w' ⟨rfl, rfl⟩)
      refine hR.mono ?_
      rintro e W3 (⟨rfl, hJ3, hk3⟩ | ⟨rfl, hJx3⟩)
      · have HJ3 := Lib.hid hJ3; clear hJ3
        have hc3 := HC.out.same hk3 (by omega)
        rw [← HT.out] at hc3
        have HC3 := Lib.hid hc3
        obtain ⟨g1, g2, g3, g4⟩ := hc3
        clear h1 h2 h3 h4 hy hR
        gi_wp2
        go_roundw
        case rel => exact ⟨pre ++ [s.extract i (r + 1)], r + 1, by omega, HC3.out.set _, HJ.out _ _ _ HJ3.out, by rw [HP.out, ST.out]; simp⟩
        case measure =>
          rw [(HC3.out.set _).len, HC.out.len]
          simp; omega
      · gi_wp2
        refine bodyPost_ret (results_none rfl _ _ _) rfl ?_
        exact ⟨⟨_, rfl⟩, .inr ⟨pre ++ [s.extract i (r + 1)], ⟨_, pre, pieces s (r + 1), rfl, by rw [HP.out, ST.out]; simp⟩, hJx3⟩⟩
    · have e1 : Lib.indexByte (s.extract i s.size).data.toList 58 = -1 := by rw [hix]; exact if_neg hlt
      have st := pieces_end hlt
      generalize runE (fun x => decide (x ≠ 58)) s i = r at *
      clear hix
      have ST := Lib.hid st; clear st
      obtain ⟨t, ht⟩ : ∃ t, t = s.extract i s.size := ⟨_, rfl⟩
      rw [← ht] at h1 hsz e1 ST
      have HT := Lib.hid ht; clear ht
      obtain ⟨fn, tmps, assign, body, hy, hR⟩ := HY.out pre t wr HJP.out ⟨by rw [HP.out, ST.out]; simp, by rw [hsz]; omega⟩
      have hcall := Tryz.strings_Index_one t 58 wr
      rw [e1] at hcall
      have HC2 := Lib.hid hcall; clear hcall e1
      have hm1 : 1 ≤ m := by omega
      have hm2 : 1 ≤ m - 1 := by omega
      gi_wp2_with (refine ⟨trivial, ?_⟩; gi_at_call 86; refine (callsIn_wide.2 HC2.out).mono ?_; rintro e w' ⟨rfl, rfl⟩)
      refine hR.mono ?_
      rintro e W3 (⟨rfl, hJ3, hk3⟩ | ⟨rfl, hJx3⟩)
      · gi_wp2
        go_end0
        exact ⟨⟨_, rfl⟩, .inl ⟨pre ++ [t], by rw [HP.out, ST.out], hJ3⟩⟩
      · gi_wp2
        go_end0
        exact ⟨⟨_, rfl⟩, .inr ⟨pre ++ [t], ⟨_, pre, [], rfl, by rw [HP.out, ST.out]; simp⟩, hJx3⟩⟩
end Pal.S
