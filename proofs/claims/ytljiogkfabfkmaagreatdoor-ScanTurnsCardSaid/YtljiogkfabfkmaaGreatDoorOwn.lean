/- What a call owns: rows in blocks of their own, and rows within them; append of one element. -/
import Derived.Test.YtljiogkfabfkmaaGreatDoorBase
import Derived.Maps.AppendAt
import Derived.OneCell
import Derived.Laws.OwnMore
import Derived.Laws.MakeOwn
open Go Go.RowKit
namespace Pal

inductive Own (B : Nat) (w : World) : D → Value → (Nat → Prop) → Prop
  | val (v : Value) (S : Nat → Prop) : wfV B v → Own B w (.val v) v S
  | row (e sz : Nat) (es : List (List D)) (v : Value) (xs : List Value) (vs : Nat → Nat → Value) (Sub : Nat → Nat → Nat → Prop) (S : Nat → Prop) :
      w.ownsRow 0 e sz v es.length xs → es.length ≤ B →
      (∀ i j, (hi : i < es.length) → (hj : j < es[i].length) → Own B w (es[i][j]) (vs i j) (Sub i j)) →
      (∀ i, (hi : i < es.length) → es[i].length = sz) →
      (∀ i j, i < es.length → j < sz → xs[i * sz + j]? = some (vs i j)) →
      (∀ i j b, i < es.length → j < sz → Sub i j b → v.ownBlock ≠ some b ∧ S b) →
      (∀ i j i' j' b, i < es.length → j < sz → i' < es.length → j' < sz → Sub i j b → Sub i' j' b → i = i' ∧ j = j') →
      (∀ b, v.ownBlock = some b → S b) →
      Own B w (.row e sz es) v S

def OwnL (B : Nat) (w : World) : List D → List Value → (Nat → Prop) → Prop
  | [], cs, _ => cs = []
  | d :: ds, cs, S => ∃ u us S1 S2, cs = u :: us ∧ Own B w d u S1 ∧ OwnL B w ds us S2 ∧ (∀ b, S1 b → S b ∧ ¬ S2 b) ∧ (∀ b, S2 b → S b)

theorem Own.mono {B : Nat} {w : World} {d : D} {v : Value} {S S' : Nat → Prop} (h : Own B w d v S) (hS : ∀ b, S b → S' b) : Own B w d v S' := by
  cases h with
  | val v S h => exact .val v _ h
  | row e sz es v xs vs Sub S h1 h2 h3 h4 h5 h6 h7 h8 => exact .row e sz es v xs vs Sub _ h1 h2 h3 h4 h5 (fun i j b hi hj hb => ⟨(h6 i j b hi hj hb).1, hS _ (h6 i j b hi hj hb).2⟩) h7 fun b hb => hS _ (h8 b hb)

theorem ownsRow_frame {w w' : World} {e sz n : Nat} {v : Value} {xs : List Value} (h : w.ownsRow 0 e sz v n xs) (hb : ∀ b, v.ownBlock = some b → w'.heap[b]? = w.heap[b]?) : w'.ownsRow 0 e sz v n xs := by
  obtain ⟨h1, h2⟩ := h
  refine ⟨h1, ?_⟩
  rcases h2 with h2 | ⟨g, cap, cur, hv, hg, hh, r⟩
  · exact .inl h2
  · exact .inr ⟨g, cap, cur, hv, hg, by rw [hb g (by rw [hv]; rfl)]; exact hh, r⟩

theorem Own.frame {B : Nat} {w w' : World} {d : D} {v : Value} {S : Nat → Prop} (h : Own B w d v S) (hb : ∀ b, S b → w'.heap[b]? = w.heap[b]?) : Own B w' d v S := by
  induction h with
  | val v S h => exact .val v _ h
  | row e sz es v xs vs Sub S h1 h2 _ h4 h5 h6 h7 h8 ih =>
    refine .row e sz es v xs vs Sub _ (ownsRow_frame h1 fun b hv => hb b (h8 b hv)) h2 (fun i j hi hj => ih i j hi hj fun b hs => hb b (h6 i j b hi (h4 i hi ▸ hj) hs).2) h4 h5 h6 h7 h8

theorem OwnL.mono {B : Nat} {w : World} {ds : List D} : ∀ {cs : List Value} {S S' : Nat → Prop}, OwnL B w ds cs S → (∀ b, S b → S' b) → OwnL B w ds cs S' := by
  induction ds with
  | nil => intro cs S S' h _; exact h
  | cons d ds _ =>
    rintro cs S S' ⟨u, us, S1, S2, rfl, h1, h2, h3, h4⟩ hS
    exact ⟨u, us, S1, S2, rfl, h1, h2, fun b hb => ⟨hS _ (h3 b hb).1, (h3 b hb).2⟩, fun b hb => hS _ (h4 b hb)⟩

theorem OwnL.frame {B : Nat} {w w' : World} {ds : List D} : ∀ {cs : List Value} {S : Nat → Prop}, OwnL B w ds cs S → (∀ b, S b → w'.heap[b]? = w.heap[b]?) → OwnL B w' ds cs S := by
  induction ds with
  | nil => intro cs S h _; exact h
  | cons d ds ih =>
    rintro cs S ⟨u, us, S1, S2, rfl, h1, h2, h3, h4⟩ hb
    exact ⟨u, us, S1, S2, rfl, h1.frame fun b h => hb b (h3 b h).1, ih h2 fun b h => hb b (h4 b h), h3, h4⟩

/-- a list's things, by their number -/
theorem OwnL.parts {B : Nat} {w : World} {ds : List D} : ∀ {cs : List Value} {S : Nat → Prop}, OwnL B w ds cs S →
    ∃ (vs : Nat → Value) (Sub : Nat → Nat → Prop), cs.length = ds.length ∧ (∀ j, (hj : j < ds.length) → Own B w ds[j] (vs j) (Sub j)) ∧ (∀ j, j < ds.length → cs[j]? = some (vs j)) ∧
      (∀ j b, j < ds.length → Sub j b → S b) ∧ (∀ j j' b, j < ds.length → j' < ds.length → Sub j b → Sub j' b → j = j') := by
  induction ds with
  | nil => rintro cs S rfl; exact ⟨fun _ => undef, fun _ _ => False, rfl, by simp, by simp, by simp, by simp⟩
  | cons d ds ih =>
    rintro cs S ⟨u, us, S1, S2, rfl, h1, h2, h3, h4⟩
    obtain ⟨vs, Sub, g0, g1, g2, g3, g4⟩ := ih h2
    refine ⟨fun j => j.casesOn u vs, fun j => j.casesOn S1 Sub, by simp [g0], ?_, ?_, ?_, ?_⟩
    · rintro (_ | j) hj
      · exact h1
      · exact g1 j (by simpa using hj)
    · rintro (_ | j) hj
      · rfl
      · exact g2 j (by simpa using hj)
    · rintro (_ | j) b hj hb
      · exact (h3 b hb).1
      · exact h4 b (g3 j b (by simpa using hj) hb)
    · rintro (_ | j) (_ | j') b hj hj' hb hb'
      · rfl
      · exact absurd (g3 j' b (by simpa using hj') hb') (h3 b hb).2
      · exact absurd (g3 j b (by simpa using hj) hb) (h3 b hb').2
      · rw [g4 j j' b (by simpa using hj) (by simpa using hj') hb hb']

theorem Own.nil (B : Nat) (w : World) (e sz : Nat) (S : Nat → Prop) : Own B w (.row e sz []) (.slice none 0 0) S :=
  .row e sz [] _ [] (fun _ _ => undef) (fun _ _ _ => False) S (World.ownsRow_nil _ _ _ _) (Nat.zero_le _) (by simp) (by simp) (by simp) (by simp) (by simp) (by simp [Value.ownBlock])

theorem Own.row_inv {B : Nat} {w : World} {e sz : Nat} {es : List (List D)} {v : Value} {S : Nat → Prop} (h : Own B w (.row e sz es) v S) :
    ∃ xs, w.ownsRow 0 e sz v es.length xs ∧ es.length ≤ B ∧ (∀ b, v.ownBlock = some b → S b) := by
  cases h with
  | row e sz es v xs vs Sub S h1 h2 h3 h4 h5 h6 h7 h8 => exact ⟨xs, h1, h2, h8⟩

theorem ownBlock_lt {w : World} {e sz n : Nat} {v : Value} {xs : List Value} (h : w.ownsRow 0 e sz v n xs) : ∀ b, v.ownBlock = some b → b < w.heap.size := fun b hb => (h.lt b hb).2

/-- one element more, behind append's law -/
theorem Own.append {B : Nat} {w w' : World} {e sz : Nat} {es : List (List D)} {v v' : Value} {S T : Nat → Prop} {ds : List D} {cs xs : List Value}
    (h : Own B w (.row e sz es) v S) (hx : w.ownsRow 0 e sz v es.length xs) (hT : OwnL B w ds cs T) (hsz : ds.length = sz) (hST : ∀ b, S b → ¬ T b)
    (hSb : ∀ b, S b → b < w.heap.size) (hTb : ∀ b, T b → b < w.heap.size)
    (hx' : w'.ownsRow 0 e sz v' (es.length + 1) (xs ++ cs)) (hg : w.grownBy w' v.ownBlock) (hat : v'.ownBlock = v.ownBlock ∨ v'.ownBlock = some w.heap.size) (hB : es.length + 1 ≤ B) :
    Own B w' (.row e sz (es ++ [ds])) v' (fun b => S b ∨ T b ∨ v'.ownBlock = some b) := by
  obtain ⟨vs1, Sub1, g0, g1, g2, g3, g4⟩ := hT.parts
  cases h with
  | row _ _ _ _ xs0 vs Sub _ h1 h2 h3 h4 h5 h6 h7 h8 =>
  have hxx : xs0 = xs := by
    obtain ⟨l1, a1⟩ := h1
    obtain ⟨l2, a2⟩ := hx
    rcases a1 with ⟨rfl, a1⟩ | ⟨g, cap, cur, rfl, _, b1, _, _, _, b2⟩
    · rw [a1, Nat.zero_mul] at l1 l2
      rw [List.eq_nil_of_length_eq_zero l1, List.eq_nil_of_length_eq_zero l2]
    · rcases a2 with ⟨hv, _⟩ | ⟨g', cap', cur', hv, _, c1, _, _, _, c2⟩
      · cases hv
      · cases hv
        rw [b1] at c1; cases c1
        rw [← b2, ← c2]
  subst hxx
  have hl1 : xs0.length = es.length * sz := h1.1
  have hkeep : ∀ b, S b → v.ownBlock ≠ some b → w'.heap[b]? = w.heap[b]? := fun b hb hne => hg.block b (hSb b hb) (fun e => hne e.symm)
  have hkeepT : ∀ b, T b → w'.heap[b]? = w.heap[b]? := fun b hb => hg.block b (hTb b hb) (fun e => hST b (h8 b e.symm) hb)
  refine .row e sz _ v' (xs0 ++ cs) (fun i j => if i < es.length then vs i j else vs1 j) (fun i j => if i < es.length then Sub i j else Sub1 j) _ (by simpa using hx') (by simpa using hB) ?_ ?_ ?_ ?_ ?_ ?_
  · intro i j hi hj
    by_cases hlt : i < es.length
    · simp only [hlt, if_true, List.getElem_append_left]
      simp only [hlt, List.getElem_append_left] at hj
      have hj' : j < sz := h4 i hlt ▸ hj
      exact (h3 i j hlt hj).frame fun b hb => hkeep b (h6 i j b hlt hj' hb).2 (h6 i j b hlt hj' hb).1
    · have : i = es.length := by simp at hi; omega
      subst this
      simp only [Nat.lt_irrefl, if_false, List.getElem_concat_length]
      simp only [List.getElem_concat_length] at hj
      exact (g1 j hj).frame fun b hb => hkeepT b (g3 j b hj hb)
  · intro i hi
    by_cases hlt : i < es.length
    · simp only [hlt, List.getElem_append_left]; exact h4 i hlt
    · have : i = es.length := by simp at hi; omega
      subst this
      simpa using hsz
  · intro i j hi hj
    by_cases hlt : i < es.length
    · simp only [hlt, if_true]
      have : i * sz + j < xs0.length := by
        rw [hl1]
        calc i * sz + j < i * sz + sz := by omega
          _ = (i + 1) * sz := by rw [Nat.succ_mul]
          _ ≤ es.length * sz := Nat.mul_le_mul_right _ hlt
      rw [List.getElem?_append_left this]; exact h5 i j hlt hj
    · have : i = es.length := by simp at hi; omega
      subst this
      simp only [Nat.lt_irrefl, if_false]
      rw [List.getElem?_append_right (by rw [hl1]; omega), hl1, show es.length * sz + j - es.length * sz = j from by omega]
      exact g2 j (by omega)
  · intro i j b hi hj hb
    by_cases hlt : i < es.length
    · simp only [hlt, if_true] at hb
      have hh := h6 i j b hlt hj hb
      refine ⟨fun e => ?_, .inl hh.2⟩
      rcases hat with hat | hat
      · exact hh.1 (hat ▸ e)
      · rw [hat] at e; cases e
        exact absurd (hSb _ hh.2) (Nat.lt_irrefl _)
    · simp only [hlt, if_false] at hb
      have hTb' := g3 j b (by omega) hb
      refine ⟨fun e => ?_, .inr (.inl hTb')⟩
      rcases hat with hat | hat
      · exact hST b (h8 b (hat ▸ e)) hTb'
      · rw [hat] at e; cases e
        exact absurd (hTb _ hTb') (Nat.lt_irrefl _)
  · intro i j i' j' b hi hj hi' hj' hb hb'
    by_cases hlt : i < es.length
    · by_cases hlt' : i' < es.length
      · simp only [hlt, hlt', if_true] at hb hb'
        exact h7 i j i' j' b hlt hj hlt' hj' hb hb'
      · simp only [hlt, hlt', if_true, if_false] at hb hb'
        exact absurd (g3 j' b (by omega) hb') (hST b (h6 i j b hlt hj hb).2)
    · by_cases hlt' : i' < es.length
      · simp only [hlt, hlt', if_true, if_false] at hb hb'
        exact absurd (g3 j b (by omega) hb) (hST b (h6 i' j' b hlt' hj' hb').2)
      · simp only [hlt, hlt', if_false] at hb hb'
        have h1 : i = es.length := by simp at hi; omega
        have h2 : i' = es.length := by simp at hi'; omega
        exact ⟨by omega, g4 j j' b (by omega) (by omega) hb hb'⟩
  · exact fun b hb => .inr (.inr hb)

theorem Own.rd {B : Nat} {w : World} {d : D} {v : Value} {S : Nat → Prop} (h : Own B w d v S) : Rd B w d v := by
  induction h with
  | val v S h => exact .val v h
  | row e sz es v xs vs Sub S h1 h2 _ h4 h5 _ _ _ ih =>
    obtain ⟨hl, h1⟩ := h1
    rcases h1 with ⟨rfl, h1⟩ | ⟨g, cap, cur, rfl, _, hg, hn, hm, hc, ht⟩
    · have : es = [] := List.eq_nil_of_length_eq_zero h1
      subst this
      exact .row e sz [] none 0 vs (Nat.le_refl _) (Nat.zero_le _) (by omega) (by simp) (by simp)
    · refine .row e sz es _ cap vs hn h2 (by unfold maxLen at hm; exact hm) ih fun i hi => ⟨h4 i hi, g, 0, rfl, ?_, fun j hj => ?_⟩
      · rcases Nat.lt_or_ge g w.heap.size with h' | h'
        · exact h'
        · simp [Array.getElem?_eq_none h'] at hg
      · have h6 := h5 i j hi hj
        have hlt : i * sz + j < es.length * sz := by
          calc i * sz + j < i * sz + sz := by omega
            _ = (i + 1) * sz := by rw [Nat.succ_mul]
            _ ≤ es.length * sz := Nat.mul_le_mul_right _ hi
        rw [← ht, List.getElem?_take, if_pos hlt] at h6
        simp only [World.cell?, hg, Option.isSome_none, Bool.false_eq_true, if_false, Nat.zero_add]
        simpa using h6

theorem OwnL.rd {B : Nat} {w : World} {ds : List D} : ∀ {cs : List Value} {S : Nat → Prop}, OwnL B w ds cs S → RdL B w ds cs := by
  induction ds with
  | nil => intro cs S h; exact h
  | cons d ds ih =>
    rintro cs S ⟨u, us, S1, S2, rfl, h1, h2, _, _⟩
    exact ⟨u, us, rfl, h1.rd, ih h2⟩

theorem Rd.longer {B : Nat} {w : World} {e sz : Nat} {es : List (List D)} {v : Value} (h : Rd B w (.row e sz es) v) : es.length ≤ B := by
  cases h with | row _ _ _ _ _ _ _ h2 => exact h2

def Iv (lo hi : Nat) : Nat → Prop := fun b => lo ≤ b ∧ b < hi

theorem Own.one {B : Nat} {w : World} {d : D} {v : Value} {S : Nat → Prop} (h : Own B w d v S) : v.oneCell' = true := by
  cases h with
  | val v S h => cases v <;> first | rfl | exact h.elim
  | row e sz es v xs vs Sub S h1 =>
    obtain ⟨_, h1⟩ := h1
    rcases h1 with ⟨rfl, _⟩ | ⟨g, cap, cur, rfl, _⟩ <;> rfl

theorem OwnL.one {B : Nat} {w : World} {ds : List D} : ∀ {cs : List Value} {S : Nat → Prop}, OwnL B w ds cs S → ∀ u ∈ cs, u.oneCell' = true := by
  induction ds with
  | nil => rintro cs S rfl; simp
  | cons d ds ih =>
    rintro cs S ⟨u, us, S1, S2, rfl, h1, h2, _, _⟩ x hx
    rcases List.mem_cons.1 hx with rfl | hx
    · exact h1.one
    · exact ih h2 x hx

theorem OwnL.len {B : Nat} {w : World} {ds : List D} {cs : List Value} {S : Nat → Prop} (h : OwnL B w ds cs S) : cs.length = ds.length := by
  obtain ⟨_, _, h, _⟩ := h.parts; exact h

/-- what append needs of its types -/
def AppT (P : Program) (t e sz bytes : Nat) : Prop :=
  ∃ i z, P.underlying t = some (.slice e) ∧ P.info? e = some i ∧ i.zero = some z ∧ i.size = sz ∧ i.bytes = bytes ∧ z.cells.size = sz ∧ 0 < sz

theorem AppT.mk {P : Program} {t e sz bytes : Nat} {z : Value} (h1 : P.underlying t = some (.slice e)) (h2 : (P.info? e).map (fun i => (i.zero, i.size, i.bytes)) = some (some z, sz, bytes)) (h3 : z.cells.size = sz) (h4 : 0 < sz) : AppT P t e sz bytes := by
  cases hi : P.info? e with
  | none => simp [hi] at h2
  | some i =>
    simp only [hi, Option.map_some, Option.some.injEq, Prod.mk.injEq] at h2
    exact ⟨i, z, h1, hi, h2.1, h2.2.1, h2.2.2, h3, h4⟩

/-- what is known behind an append of one element -/
structure Appd (B e sz : Nat) (w : World) (n0 n1 : Nat) (es : List (List D)) (ds : List D) (v' : Value) (w' : World) : Prop where
  own : Own B w' (.row e sz (es ++ [ds])) v' (Iv n0 w'.heap.size)
  form : ∃ A c, v' = .slice A (es.length + 1) c
  below : Below n0 w w'
  cell0 : ∀ b o, b < n0 → w'.cell? ⟨b, o, none⟩ = w.cell? ⟨b, o, none⟩
  cell1 : ∀ b o, n1 ≤ b → b < w.heap.size → w'.cell? ⟨b, o, none⟩ = w.cell? ⟨b, o, none⟩
  heap : ∀ b, b < w.heap.size → b < n0 ∨ n1 ≤ b → w'.heap[b]? = w.heap[b]?
  size : w.heap.size ≤ w'.heap.size

theorem run_app {P : Program} {w : World} {t ty : TypeId} {B e sz bytes : Nat} (hT0 : AppT P t e sz bytes)
    {es : List (List D)} {v : Value} {n0 n1 n2 : Nat} (hown : Own B w (.row e sz es) v (Iv n0 n1))
    {ad : Addr} {c : Nat} {ds : List D} {cs : List Value} (hT : OwnL B w ds cs (Iv n1 n2)) (hds : ds.length = sz)
    (hcells : ∀ j u, cs[j]? = some u → w.cell? (ad.add j) = some u) (h01 : n0 ≤ n1) (h12 : n1 ≤ n2) (h2w : n2 ≤ w.heap.size) (hB : es.length + 1 ≤ B) (hB2 : B ≤ 140737488355328) (hbytes : (es.length + 1) * bytes ≤ 140737488355328) :
    ∃ v' w', (Builtin.append_ #[t, t] ty #[v, .slice (some ad) 1 c]).run P w = .ok v' w' ∧ Appd B e sz w n0 n1 es ds v' w' := by
  obtain ⟨i, z, ht, hi, hz, hsize, hby, hzs, hsz⟩ := hT0
  obtain ⟨xs, hrow, hlen, hblk⟩ := hown.row_inv
  obtain ⟨v', w', hr, g1, g2, g3, g4⟩ := run_append_own_at (P := P) w 0 t ty e i z sz bytes ht hi hz hsize hby hzs hsz v es.length xs hrow ad 1 c cs (by rw [hT.len, hds]; omega) hcells hT.one (by unfold maxLen; omega) hbytes (Nat.zero_le _)
  refine ⟨v', w', hr, ?_⟩
  have hown' := Own.append hown hrow hT hds (fun b h1 h2 => by have := h1.2; have := h2.1; omega) (fun b hb => by have := hb.2; omega) (fun b hb => by have := hb.2; omega) g1 g2 g4 hB
  have hpre : ∀ b, b < w.heap.size → (b < n0 ∨ n1 ≤ b) → w'.heap[b]? = w.heap[b]? := fun b hb hor => g2.block b hb fun e => by
    have := hblk b e.symm
    have h1 := this.1; have h2 := this.2; omega
  have hn0 : n0 ≤ w.heap.size := by omega
  refine ⟨hown'.mono fun b hb => ?_, ?_, ⟨g2.os, g2.tape, g2.output, g2.size, fun b hb => hpre b (by omega) (.inl hb)⟩,
    (fun b o hb => World.cell?_of_block (a := ⟨b, o, none⟩) (hpre b (by omega) (.inl hb))), (fun b o hb hb' => World.cell?_of_block (a := ⟨b, o, none⟩) (hpre b hb' (.inr hb))), hpre, g2.size⟩
  · have := g2.size
    rcases hb with hb | hb | hb
    · exact ⟨hb.1, by have := hb.2; omega⟩
    · exact ⟨by have := hb.1; omega, by have := hb.2; omega⟩
    · have hlt := ownBlock_lt g1 b hb
      rcases g4 with g4 | g4
      · exact ⟨(hblk b (g4 ▸ hb)).1, hlt⟩
      · rw [g4] at hb; cases hb; exact ⟨hn0, hlt⟩
  · obtain ⟨_, g1⟩ := g1
    rcases g1 with ⟨_, g1⟩ | ⟨g, cap, cur, rfl, _⟩
    · omega
    · exact ⟨_, _, rfl⟩

theorem wp_app {P : Program} {w : World} {o : Oper} {a : Act} {K : Act → World → Prop} {Q : Exit → Act → World → Prop} (s x : Operand) (t : TypeId)
    (ho : o.op = .call { callee := .builtin .append, args := #[s, x], argTypes := #[t, t] }) {B e sz bytes : Nat} (hT0 : AppT P t e sz bytes)
    {es : List (List D)} {v : Value} {n0 n1 n2 : Nat} (hs : a.eval s = v) (hown : Own B w (.row e sz es) v (Iv n0 n1))
    {ad : Addr} {c : Nat} {ds : List D} {cs : List Value} (hx : a.eval x = .slice (some ad) 1 c) (hT : OwnL B w ds cs (Iv n1 n2)) (hds : ds.length = sz)
    (hcells : ∀ j u, cs[j]? = some u → w.cell? (ad.add j) = some u) (h01 : n0 ≤ n1) (h12 : n1 ≤ n2) (h2w : n2 ≤ w.heap.size) (hB : es.length + 1 ≤ B) (hB2 : B ≤ 140737488355328) (hbytes : (es.length + 1) * bytes ≤ 140737488355328)
    (h : ∀ v' w', Appd B e sz w n0 n1 es ds v' w' → K (a.put o.dst v') w') : o.wp P a w K Q := by
  obtain ⟨v', w', hr, g⟩ := run_app (P := P) (w := w) (t := t) (ty := o.type) hT0 hown hT hds hcells h01 h12 h2w hB hB2 hbytes
  unfold Oper.wp execOp
  simp only [ho, resolve, invoke, builtin, Sem.run_bind, Sem.run_pure, Result.andThen_ok, List.map_toArray, List.map_cons, List.map_nil, hs, hx]
  rw [hr]
  exact h v' w' g

theorem wpList_app {P : Program} {w : World} {ops : Array Oper} {rest : List Oper} {o : Oper} {a : Act} {Q : Exit → Act → World → Prop} (hgd : o.guard = none) (s x : Operand) (t : TypeId)
    (ho : o.op = .call { callee := .builtin .append, args := #[s, x], argTypes := #[t, t] }) {B e sz bytes : Nat} (hT0 : AppT P t e sz bytes)
    {es : List (List D)} {v : Value} {n0 n1 n2 : Nat} (hs : a.eval s = v) (hown : Own B w (.row e sz es) v (Iv n0 n1))
    {ad : Addr} {c : Nat} {ds : List D} {cs : List Value} (hx : a.eval x = .slice (some ad) 1 c) (hT : OwnL B w ds cs (Iv n1 n2)) (hds : ds.length = sz)
    (hcells : ∀ j u, cs[j]? = some u → w.cell? (ad.add j) = some u) (h01 : n0 ≤ n1) (h12 : n1 ≤ n2) (h2w : n2 ≤ w.heap.size) (hB : es.length + 1 ≤ B) (hB2 : B ≤ 140737488355328) (hbytes : (es.length + 1) * bytes ≤ 140737488355328)
    (h : ∀ v' w', Appd B e sz w n0 n1 es ds v' w' → wpList P ops Q rest (a.put o.dst v') w') :
    wpList P ops Q (o :: rest) a w :=
  wpList_plain hgd fun _ hK => wp_app s x t ho hT0 hs hown hx hT hds hcells h01 h12 h2w hB hB2 hbytes fun v' w' g => hK _ _ (h v' w' g)

theorem step_app {P : Program} {w : World} {ops : Array Oper} {o : Oper} {a : Act} {K : Act → World → Prop} {Q : Exit → Act → World → Prop} {E : Prop} (hgd : o.guard = none) (s x : Operand) (t : TypeId)
    (ho : o.op = .call { callee := .builtin .append, args := #[s, x], argTypes := #[t, t] }) {B e sz bytes : Nat} (hT0 : AppT P t e sz bytes)
    {es : List (List D)} {v : Value} {n0 n1 n2 : Nat} (hs : a.eval s = v) (hown : Own B w (.row e sz es) v (Iv n0 n1))
    {ad : Addr} {c : Nat} {ds : List D} {cs : List Value} (hx : a.eval x = .slice (some ad) 1 c) (hT : OwnL B w ds cs (Iv n1 n2)) (hds : ds.length = sz)
    (hcells : ∀ j u, cs[j]? = some u → w.cell? (ad.add j) = some u) (h01 : n0 ≤ n1) (h12 : n1 ≤ n2) (h2w : n2 ≤ w.heap.size) (hB : es.length + 1 ≤ B) (hB2 : B ≤ 140737488355328) (hbytes : (es.length + 1) * bytes ≤ 140737488355328)
    (h : ∀ v' w', Appd B e sz w n0 n1 es ds v' w' → K (a.put o.dst v') w') :
    if Region.wanted o (yielded ops a.tmps) = true then Oper.wp P o a w K Q else E := by
  have hw : Region.wanted o (yielded ops a.tmps) = true := by simp [Region.wanted, hgd]
  rw [if_pos hw]
  exact wp_app s x t ho hT0 hs hown hx hT hds hcells h01 h12 h2w hB hB2 hbytes h

theorem OwnL.wide {B : Nat} {w : World} {ds : List D} {cs : List Value} {a b a' b' : Nat} (h : OwnL B w ds cs (Iv a b)) (ha : a' ≤ a) (hb : b ≤ b') : OwnL B w ds cs (Iv a' b') :=
  h.mono fun _ hx => ⟨Nat.le_trans ha hx.1, Nat.lt_of_lt_of_le hx.2 hb⟩
theorem Below.on {n : Nat} {w W w1 : World} (h : Below n w W) (h1 : Below W.heap.size W w1) (hn : n ≤ W.heap.size) : Below n w w1 := h.trans (h1.mono hn)
theorem Own.step {B : Nat} {w w' : World} {d : D} {v : Value} {a b : Nat} (h : Own B w d v (Iv a b)) (hb : b ≤ w.heap.size) (hw : Below w.heap.size w w') : Own B w' d v (Iv a b) :=
  h.frame fun x hx => hw.block x (by have := hx.2; omega)
theorem OwnL.step {B : Nat} {w w' : World} {ds : List D} {cs : List Value} {a b : Nat} (h : OwnL B w ds cs (Iv a b)) (hb : b ≤ w.heap.size) (hw : Below w.heap.size w w') : OwnL B w' ds cs (Iv a b) :=
  h.frame fun x hx => hw.block x (by have := hx.2; omega)
theorem Own.wide {B : Nat} {w : World} {d : D} {v : Value} {a b a' b' : Nat} (h : Own B w d v (Iv a b)) (ha : a' ≤ a) (hb : b ≤ b') : Own B w d v (Iv a' b') :=
  h.mono fun _ hx => ⟨Nat.le_trans ha hx.1, Nat.lt_of_lt_of_le hx.2 hb⟩

theorem cell_at {w : World} {b : Nat} {cs : Array Value} {t : TypeId} {fr : Nat × Nat} (h : w.heap[b]? = some (.cells cs t fr)) (j : Nat) : w.cell? ⟨b, j, none⟩ = cs[j]? := by
  simp [World.cell?, h]
theorem free_at {w : World} {b : Nat} {cs : Array Value} {t : TypeId} (h : w.heap[b]? = some (.cells cs t (0, 0))) (j : Nat) : w.frozen? ⟨b, j, none⟩ = false := by
  simp [World.frozen?, h]
theorem set_at {w : World} {b : Nat} {cs : Array Value} {t : TypeId} {fr : Nat × Nat} (h : w.heap[b]? = some (.cells cs t fr)) (j : Nat) (u : Value) : (w.setCell ⟨b, j, none⟩ u).heap[b]? = some (.cells (cs.setIfInBounds j u) t fr) := by
  have hlt := lt_of_block h
  have h' : w.heap[b] = .cells cs t fr := by simpa [Array.getElem?_eq_getElem hlt] using h
  show (w.heap.modify b _)[b]? = _
  rw [Array.getElem?_eq_getElem (by simpa using hlt), Array.getElem_modify_self, h']
  rfl
theorem set_other {w : World} {b b' : Nat} (j : Nat) (u : Value) (h : b ≠ b') : (w.setCell ⟨b', j, none⟩ u).heap[b]? = w.heap[b]? := Below.heap_setCell w ⟨b', j, none⟩ u b h
theorem alloc_at (w : World) (o : Obj) : (w.alloc o).heap[w.heap.size]? = some o := by
  show (w.heap.push o)[w.heap.size]? = _
  simp
theorem alloc_old {w : World} {b : Nat} (o : Obj) (h : b < w.heap.size) : (w.alloc o).heap[b]? = w.heap[b]? := Below.heap_alloc w o b h

theorem cell_alloc {w : World} {b : Nat} (o : Obj) (j : Nat) (h : b < w.heap.size) : (w.alloc o).cell? ⟨b, j, none⟩ = w.cell? ⟨b, j, none⟩ :=
  World.cell?_of_block (a := ⟨b, j, none⟩) (alloc_old o h)
theorem cell_alloc_new (w : World) (cs : Array Value) (t : TypeId) (b j : Nat) (h : b = w.heap.size) : (w.alloc (.cells cs t)).cell? ⟨b, j, none⟩ = cs[j]? := by
  subst h; exact cell_at (alloc_at w _) j

theorem cells_new (w : World) (cs : List Value) (t : TypeId) (b : Nat) (hb : b = w.heap.size) : ∀ j u, cs[j]? = some u → (w.alloc (.cells cs.toArray t)).cell? ((⟨b, 0, none⟩ : Addr).add j) = some u := by
  subst hb
  intro j u hj
  have : (w.alloc (.cells cs.toArray t)).heap[w.heap.size]? = some (.cells cs.toArray t) := by
    show (w.heap.push _)[w.heap.size]? = _
    simp
  have hadd : (⟨w.heap.size, 0, none⟩ : Addr).add j = ⟨w.heap.size, j, none⟩ := by
    by_cases h : j = 0 <;> simp [Addr.add, h]
  rw [hadd]
  unfold World.cell?
  rw [this]
  simpa using hj

end Pal
