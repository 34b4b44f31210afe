/- a range over a function whose iterator keeps its state in a cell. -/
import Derived.Test.YtljiogkfabfkmaaGreatDoorBase
import Derived.RangeFuncNested
import Derived.RangeFuncBound
import Derived.RangeFuncCalls
import Derived.RangeFuncLeaves
open Go Go.RowKit
namespace Pal

/-- the blocks from one on up to another lie as they lay -/
structure SameB (lo hi : Nat) (W W' : World) : Prop where
  size : W.heap.size ≤ W'.heap.size
  same : ∀ k, lo ≤ k → k < hi → W'.heap[k]? = W.heap[k]?
  os : W'.os = W.os
  tape : W'.tape = W.tape
  output : W'.output = W.output

theorem SameB.refl (lo hi : Nat) (W : World) : SameB lo hi W W := ⟨Nat.le_refl _, fun _ _ _ => rfl, rfl, rfl, rfl⟩
theorem SameB.trans {lo hi : Nat} {A B C : World} (h : SameB lo hi A B) (k : SameB lo hi B C) : SameB lo hi A C := ⟨Nat.le_trans h.size k.size, fun i h1 h2 => (k.same i h1 h2).trans (h.same i h1 h2), k.os.trans h.os, k.tape.trans h.tape, k.output.trans h.output⟩
theorem SameB.less {lo hi lo' hi' : Nat} {A B : World} (h : SameB lo hi A B) (h1 : lo ≤ lo') (h2 : hi' ≤ hi) : SameB lo' hi' A B := ⟨h.size, fun i a b => h.same i (Nat.le_trans h1 a) (Nat.lt_of_lt_of_le b h2), h.os, h.tape, h.output⟩
theorem SameB.put {lo hi : Nat} (W : World) (k : Nat) (o : Obj) (h : k < lo ∨ hi ≤ k) : SameB lo hi W (W.putObj k o) :=
  ⟨by simp [World.putObj], fun i a b => World.putObj_heap_other (by omega), rfl, rfl, rfl⟩
theorem SameB.set {lo hi : Nat} (W : World) (k j : Nat) (v : Value) (h : k < lo ∨ hi ≤ k) : SameB lo hi W (W.setCell ⟨k, j, none⟩ v) :=
  ⟨by simp, fun i a b => Below.heap_setCell W ⟨k, j, none⟩ v i (by simp; omega), rfl, rfl, rfl⟩
theorem SameB.alloc {lo hi : Nat} (W : World) (o : Obj) (h : hi ≤ W.heap.size) : SameB lo hi W (W.alloc o) :=
  ⟨by simp, fun i _ b => Below.heap_alloc W o i (by omega), rfl, rfl, rfl⟩
theorem SameB.below {n m : Nat} {w W W' : World} (h : Below n w W) (hs : SameB 0 m W W') (hm : n ≤ m) : Below n w W' :=
  ⟨hs.os.trans h.os, hs.tape.trans h.tape, hs.output.trans h.output, Nat.le_trans h.size hs.size, fun b hb => (hs.same b (Nat.zero_le _) (by omega)).trans (h.block b hb)⟩

def rangeQ {α : Type} (n0 : Nat) (I : List α → World → Prop) (Ix : Code → List α → World → Prop) (xs : List α) (W : World) : Exit → Act → World → Prop
  | .normal, _, W' => SameB n0 W.heap.size W W' ∧ I xs W'
  | .ret, _, W' => SameB n0 W.heap.size W W' ∧ Ix .ret xs W'
  | .exit id, _, W' => SameB n0 W.heap.size W W' ∧ Ix (.exit id) xs W'
  | .goto _, _, _ => False
  | .panic _, _, _ => False
  | .outgrown, _, _ => False

variable {F : Fence} {n : Nat} {P : Program}

/-- the iterator's word: it writes the cell of block c alone, between two rounds -/
def CellSeq {α : Type} (F : Fence) (n : Nat) (P : Program) (gf : Nat) (lb : Array Value) (enc : α → Value) (n0 c : Nat) (ok : List α → α → Prop) (S Sp : List α → Prop) (w : World) : Prop :=
  ∀ (l : Nat) (J Jx : List α → World → Prop) (W : World), SameB 0 w.heap.size w W → (∀ pre W v, J pre W → J pre (W.setCell ⟨c, 0, none⟩ v)) → (∀ pre W v, Jx pre W → Jx pre (W.setCell ⟨c, 0, none⟩ v)) →
    (∀ pre x W1, J pre W1 → ok pre x → YieldAt F (n - 1) P l #[enc x] W1 fun e W' => (e = .returned (.bool true) ∧ J (pre ++ [x]) W' ∧ SameB n0 w.heap.size W1 W') ∨ (e = .returned (.bool false) ∧ Jx (pre ++ [x]) W')) →
    J [] W →
    CallsIn F n P gf (#[.func (.yield l) #[] #[]] ++ lb) W fun e W' => (∃ v, e = .returned v) ∧ ((∃ xs, S xs ∧ J xs W') ∨ (∃ pre, Sp pre ∧ Jx pre W'))

theorem wpIn_range_cell {α : Type} {g : Operand} {p : Tmp} {assign body : Code} {Q : Exit → Act → World → Prop} {a : Act} {w : World}
    (hro : F.round = none) (h1 : 1 ≤ n) {gf : Nat} {lb : Array Value} (hg : a.eval g = .func (.func gf) #[] lb) (hFg : F.fn gf) (eg : ∀ args w, (callFunc gf args).run P w = .ok (.enter gf args) w)
    {enc : α → Value} {n0 c : Nat} {ok : List α → α → Prop} {S Sp : List α → Prop} (hseq : CellSeq F (n - 1) P gf lb enc n0 c ok S Sp w) (hc0 : n0 ≤ c) (hc1 : c < w.heap.size)
    (I : List α → World → Prop) (Ix : Code → List α → World → Prop) (hI : ∀ pre W W', I pre W → SameB 0 n0 W W' → I pre W') (hIx : ∀ c pre W W', Ix c pre W → SameB 0 n0 W W' → Ix c pre W') (h0 : I [] w) (a₁ : α → Act)
    (hassign : ∀ (l : Nat) (x : α) (W : World) (K : Act → World → Prop), K (a₁ x) W →
      assign.wpIn (F.inRound l) (n - 1 - 1) P (Exit.then K (fun _ _ _ => False)) { tmps := a.tmps.setIfInBounds p (enc x), defers := [] } W)
    (hbody : ∀ (l : Nat) (pre : List α) (x : α) (W : World), I pre W → ok pre x → body.wpIn (F.inRound l) (n - 1 - 1) P (rangeQ n0 I Ix (pre ++ [x]) W) (a₁ x) W)
    (hdone : ∀ (D : Nat) (xs : List α) (W : World), w.heap.size ≤ D → S xs → I xs W → W.heap[D]? = some (.deferred (some [])) → Q .normal { a with defers := { target := .collected D, args := #[] } :: a.defers } W)
    (hstop : ∀ (D : Nat) (c : Code) (pre : List α) (W : World), w.heap.size ≤ D → Sp pre → Ix c pre W → W.heap[D]? = some (.deferred (some [])) → c.wpIn F n P Q { a with defers := { target := .collected D, args := #[] } :: a.defers } W) :
    (Code.rangeFunc g #[p] assign body).wpIn F n P Q a w := by
  refine wpIn_rangeFunc ?_
  intro fn hfn
  rw [hro]
  obtain ⟨R, hR⟩ : ∃ R : LoopState → Option Code → Loop, R = fun st pe => { state := st, pending := pe, fn, tmps := a.tmps, params := #[p], assign, body, defers := w.heap.size } := ⟨_, rfl⟩
  obtain ⟨W1, hW1⟩ : ∃ W1, (w.alloc (.deferred (some []))).alloc (.loop (R .ready none)) = W1 := ⟨_, rfl⟩
  have sw : SameB 0 w.heap.size w W1 := by rw [← hW1]; exact (SameB.alloc w _ (Nat.le_refl _)).trans (SameB.alloc _ _ (by simp))
  have hl1 : W1.heap[w.heap.size + 1]? = some (.loop (R .ready none)) := by
    rw [← hW1]; have := World.alloc_heap_new (w.alloc (.deferred (some []))) (.loop (R .ready none)); rwa [World.size_alloc] at this
  have hk1 : W1.heap[w.heap.size]? = some (.deferred (some [])) := by
    rw [← hW1]; exact (Below.heap_alloc _ _ _ (by simp)).trans (World.alloc_heap_new w _)
  refine ⟨w.heap.size + 1, [{ target := .collected w.heap.size, args := #[] }], W1, { target := .fn (.func gf) lb, args := #[.func (.yield (w.heap.size + 1)) #[] #[]] }, W1, gf,
    #[.func (.yield (w.heap.size + 1)) #[] #[]] ++ lb, W1, ?_, ?_, ?_, ?_, fun _ => h1, ?_⟩
  · rw [← hW1, hR]; exact run_enterLoop_outer _ _ _ _ _
  · simp only [resolve, hg]
    simp [go_sem]
  · intro f' hf'; simp [Target.leads] at hf'; subst hf'; exact hFg
  · simp [invoke, go_sem, eg]
  have put : ∀ (pre : List α) (W : World) (st : Obj), I pre W → I pre (W.putObj (w.heap.size + 1) st) := fun pre W st h => hI pre W _ h (SameB.put W _ _ (.inr (by omega)))
  have other : ∀ (W : World) (v : Value) (k : Nat), w.heap.size ≤ k → (W.setCell ⟨c, 0, none⟩ v).heap[k]? = W.heap[k]? := fun W v k hk => Below.heap_setCell W ⟨c, 0, none⟩ v k (by simp; omega)
  refine (hseq (w.heap.size + 1)
    (fun pre W => I pre W ∧ W.heap[w.heap.size + 1]? = some (.loop (R .ready none)) ∧ W.heap[w.heap.size]? = some (.deferred (some [])))
    (fun pre W => ∃ c, Ix c pre W ∧ W.heap[w.heap.size + 1]? = some (.loop (R .done (some c))) ∧ W.heap[w.heap.size]? = some (.deferred (some []))) W1 sw
    (fun pre W v h => ⟨hI pre W _ h.1 (SameB.set W c 0 v (.inr hc0)), (other W v _ (by omega)).trans h.2.1, (other W v _ (by omega)).trans h.2.2⟩)
    (fun pre W v h => by
      obtain ⟨x, h, h1, h2⟩ := h
      exact ⟨x, hIx x pre W _ h (SameB.set W c 0 v (.inr hc0)), (other W v _ (by omega)).trans h1, (other W v _ (by omega)).trans h2⟩)
    ?_ ⟨hI [] w _ h0 (sw.less (Nat.le_refl _) (by omega)), hl1, hk1⟩).mono ?_
  · rintro pre x W ⟨hi, hl, hk⟩ hN
    have hlt : w.heap.size + 1 < W.heap.size := (Array.getElem?_eq_some_iff.1 hl).1
    have hy := run_yield (P := P) (args := #[enc x]) hl (by rw [hR]; rfl)
    rw [hR] at hy
    have hy : (Instr.yield (w.heap.size + 1) #[enc x]).run P W = .ok (.round (w.heap.size + 1) fn (a.tmps.setIfInBounds p (enc x)) assign body) W := by simpa using hy
    refine ⟨fn, a.tmps.setIfInBounds p (enc x), assign, body, hy, roundIn_of_wpIn hfn ?_⟩
    refine hassign _ x W _ ?_
    refine ⟨_, run_beginRound hl (by rw [hR]), ?_⟩
    have hl2 : (W.putObj (w.heap.size + 1) (.loop { R .ready none with state := .busy })).heap[w.heap.size + 1]? = some (.loop { R .ready none with state := .busy }) := World.putObj_heap_same hlt
    have hk2 : (W.putObj (w.heap.size + 1) (.loop { R .ready none with state := .busy })).heap[w.heap.size]? = some (.deferred (some [])) := (World.putObj_heap_other (by omega)).trans hk
    refine wpIn_mono (hbody _ pre x _ (put pre W _ hi) hN) ?_
    have hsz : (W.putObj (w.heap.size + 1) (.loop { R .ready none with state := .busy })).heap.size = W.heap.size := by simp [World.putObj]
    have fin : ∀ (jump : Option Code) (W3 : World), SameB n0 (W.putObj (w.heap.size + 1) (.loop { R .ready none with state := .busy })).heap.size (W.putObj (w.heap.size + 1) (.loop { R .ready none with state := .busy })) W3 →
        (Instr.endRound (w.heap.size + 1) jump).run P W3 = .ok (.bool jump.isNone) (W3.putObj (w.heap.size + 1) (.loop (R (if jump.isNone then .ready else .done) jump))) ∧
        (W3.putObj (w.heap.size + 1) (.loop (R (if jump.isNone then .ready else .done) jump))).heap[w.heap.size + 1]? = some (.loop (R (if jump.isNone then .ready else .done) jump)) ∧
        (W3.putObj (w.heap.size + 1) (.loop (R (if jump.isNone then .ready else .done) jump))).heap[w.heap.size]? = some (.deferred (some [])) := fun jump W3 h3 => by
      have hl3 := (h3.same (w.heap.size + 1) (by omega) (by rw [hsz]; exact hlt)).trans hl2
      have hr := run_endRound (P := P) jump hl3
      rw [hR] at hr ⊢
      exact ⟨hr, World.putObj_heap_same (Array.getElem?_eq_some_iff.1 hl3).1, (World.putObj_heap_other (by omega)).trans ((h3.same w.heap.size (by omega) (by omega)).trans hk2)⟩
    rintro e a3 W3 hp
    cases e with
    | normal =>
      obtain ⟨h3, hi3⟩ := hp
      obtain ⟨hr, hl4, hk4⟩ := fin none W3 h3
      exact ⟨_, _, hr, .inl ⟨rfl, ⟨put _ W3 _ hi3, hl4, hk4⟩, ((SameB.put W _ _ (.inr (by omega))).trans (h3.less (Nat.le_refl _) (by simp [World.putObj]; omega))).trans (SameB.put W3 _ _ (.inr (by omega)))⟩⟩
    | ret =>
      obtain ⟨h3, hi3⟩ := hp
      obtain ⟨hr, hl4, hk4⟩ := fin (some .ret) W3 h3
      exact ⟨_, _, hr, .inr ⟨rfl, .ret, hIx _ _ W3 _ hi3 (SameB.put W3 _ _ (.inr (by omega))), hl4, hk4⟩⟩
    | exit id =>
      obtain ⟨h3, hi3⟩ := hp
      obtain ⟨hr, hl4, hk4⟩ := fin (some (.exit id)) W3 h3
      exact ⟨_, _, hr, .inr ⟨rfl, .exit id, hIx _ _ W3 _ hi3 (SameB.put W3 _ _ (.inr (by omega))), hl4, hk4⟩⟩
    | goto t => exact hp.elim
    | panic ch => exact hp.elim
    | outgrown => exact hp.elim
  · rintro e W2 ⟨⟨v, rfl⟩, (⟨xs, hS, hi, hl, hk⟩ | ⟨pre, hSp, x, hi, hl, hk⟩)⟩
    · exact ⟨none, _, by have := run_endLoop (P := P) hl (by rw [hR]; simp); rw [hR] at this; exact this, hdone _ xs _ (Nat.le_refl _) hS (put _ _ _ hi) ((World.putObj_heap_other (by omega)).trans hk)⟩
    · exact ⟨some x, _, by have := run_endLoop (P := P) hl (by rw [hR]; simp); rw [hR] at this; exact this, hstop _ x pre _ (Nat.le_refl _) hSp (hIx x pre _ _ hi (SameB.put _ _ _ (.inr (by omega)))) ((World.putObj_heap_other (by omega)).trans hk)⟩
end Pal
