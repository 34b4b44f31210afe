/- What is read: data as trees of cells (D), and that a value in a world reads as one (Rd). Conditions: each lemma's own. -/
import Derived.WalkKit
import Derived.WalkSpells
import Derived.Lib.Hide
import Derived.WalkSmall
import Derived.BigQuiet
import Derived.Deep.QuietTactic
open Go Go.RowKit
namespace Pal

inductive D where
  | val (v : Value)
  | row (e sz : Nat) (es : List (List D))

/-- a one-cell value that is no slice, in its range -/
def wfV (B : Nat) : Value → Prop
  | .int k n => k.min ≤ n ∧ n ≤ k.max
  | .string s => s.size ≤ B
  | .slice .. => False
  | .agg _ => False
  | .tuple _ => False
  | _ => True

inductive Rd (B : Nat) (w : World) : D → Value → Prop
  | val (v : Value) : wfV B v → Rd B w (.val v) v
  | row (e sz : Nat) (es : List (List D)) (a : Option Addr) (cap : Nat) (vs : Nat → Nat → Value) :
      es.length ≤ cap → es.length ≤ B → cap ≤ 9223372036854775807 →
      (∀ i j, (hi : i < es.length) → (hj : j < es[i].length) → Rd B w (es[i][j]) (vs i j)) →
      (∀ i, (hi : i < es.length) → es[i].length = sz ∧ ∃ ab ao, a = some ⟨ab, ao, none⟩ ∧ ab < w.heap.size ∧
        ∀ j, j < sz → w.cell? ⟨ab, ao + i * sz + j, none⟩ = some (vs i j)) →
      Rd B w (.row e sz es) (.slice a es.length cap)

def RdL (B : Nat) (w : World) : List D → List Value → Prop
  | [], vs => vs = []
  | d :: ds, vs => ∃ u us, vs = u :: us ∧ Rd B w d u ∧ RdL B w ds us

theorem Rd.step {B : Nat} {w w' : World} {d : D} {v : Value} (h : Rd B w d v) (hb : Below w.heap.size w w') : Rd B w' d v := by
  induction h with
  | val v h => exact .val v h
  | row e sz es a cap vs h1 h2 h3 _ h5 ih =>
    refine .row e sz es a cap vs h1 h2 h3 ih fun i hi => ?_
    obtain ⟨e1, ab, ao, e2, e3, e4⟩ := h5 i hi
    exact ⟨e1, ab, ao, e2, Nat.lt_of_lt_of_le e3 hb.size, fun j hj => by rw [hb.cell (p := ⟨ab, _, none⟩) e3]; exact e4 j hj⟩

theorem RdL.step {B : Nat} {w w' : World} {ds : List D} : ∀ {vs : List Value}, RdL B w ds vs → Below w.heap.size w w' → RdL B w' ds vs := by
  induction ds with
  | nil => intro vs h _; exact h
  | cons d ds ih =>
    rintro vs ⟨u, us, rfl, h1, h2⟩ hb
    exact ⟨u, us, rfl, h1.step hb, ih h2 hb⟩

theorem Rd.mono {B B' : Nat} (hB : B ≤ B') {w : World} {d : D} {v : Value} (h : Rd B w d v) : Rd B' w d v := by
  induction h with
  | val v h => exact .val v (by cases v <;> simp_all [wfV] <;> omega)
  | row e sz es a cap vs h1 h2 h3 _ h5 ih => exact .row e sz es a cap vs h1 (by omega) h3 ih h5

theorem Rd.val_inv {B : Nat} {w : World} {v u : Value} (h : Rd B w (.val v) u) : u = v ∧ wfV B v := by
  cases h with | val _ h => exact ⟨rfl, h⟩

theorem Rd.row_inv {B : Nat} {w : World} {e sz : Nat} {es : List (List D)} {u : Value} (h : Rd B w (.row e sz es) u) :
    ∃ a cap, u = .slice a es.length cap ∧ es.length ≤ cap ∧ es.length ≤ B ∧ cap ≤ 9223372036854775807 ∧
      ∀ i, (hi : i < es.length) → ∃ ab ao cs, a = some ⟨ab, ao, none⟩ ∧ ab < w.heap.size ∧ es[i].length = sz ∧ RdL B w es[i] cs ∧
        ∀ j x, cs[j]? = some x → w.cell? ⟨ab, ao + i * sz + j, none⟩ = some x := by
  cases h with
  | row _ _ _ a cap vs h1 h2 h3 h4 h5 =>
    refine ⟨a, cap, rfl, h1, h2, h3, fun i hi => ?_⟩
    obtain ⟨e1, ab, ao, e2, e3, e4⟩ := h5 i hi
    refine ⟨ab, ao, (List.range sz).map (vs i), e2, e3, e1, ?_, ?_⟩
    · have key : ∀ (n k : Nat), n + k = sz → RdL B w (es[i].drop k) ((List.range' k n).map (vs i)) := by
        intro n
        induction n with
        | zero => intro k hk; rw [List.drop_of_length_le (by omega)]; rfl
        | succ n ih =>
          intro k hk
          have hk' : k < es[i].length := by omega
          rw [List.drop_eq_getElem_cons hk', List.range'_succ, List.map_cons]
          exact ⟨_, _, rfl, h4 i k hi hk', ih (k + 1) (by omega)⟩
      have := key sz 0 (by omega)
      rwa [List.drop_zero, ← List.range_eq_range'] at this
    · intro j x hj
      rw [List.getElem?_map] at hj
      by_cases hjs : j < sz
      · rw [List.getElem?_range hjs] at hj
        simp only [Option.map_some, Option.some.injEq] at hj
        rw [← hj]; exact e4 j hjs
      · rw [List.getElem?_eq_none (by simpa using hjs)] at hj
        simp at hj

theorem Rd.slice {B : Nat} {w : World} {e sz : Nat} {es : List (List D)} {u : Value} (h : Rd B w (.row e sz es) u) : ∃ a cap, u = .slice a es.length cap := by
  cases h with | row _ _ _ a cap => exact ⟨a, cap, rfl⟩

/-- a list of texts -/
def strs (l : List ByteArray) : D := .row 9 1 (l.map fun s => [.val (.string s)])

inductive Lit where
  | mk (kind n bits : Int) (text : ByteArray) (items : List Lit)

mutual
def Lit.enc : Lit → List D
  | .mk k n b t is => [.val (.int .u8 k), .val (.int .i64 n), .val (.int .u64 b), .val (.string t), .row 43 5 (Lit.encs is)]
def Lit.encs : List Lit → List (List D)
  | [] => []
  | x :: xs => x.enc :: Lit.encs xs
end

theorem Lit.enc_len (x : Lit) : x.enc.length = 5 := by cases x; rfl

theorem Lit.encs_map (l : List Lit) : Lit.encs l = l.map Lit.enc := by
  induction l with
  | nil => rfl
  | cons x xs ih => rw [Lit.encs, ih]; rfl

inductive Node where
  | mk (kind : Int) (name : ByteArray) (lit : Lit) (args temps : List ByteArray) (kids : List Node) (pos : Int)

mutual
def Node.enc : Node → List D
  | .mk k nm l a t ks p => .val (.int .u8 k) :: .val (.string nm) :: (l.enc ++ [strs a, strs t, .row 90 11 (Node.encs ks), .val (.int .i64 p)])
def Node.encs : List Node → List (List D)
  | [] => []
  | x :: xs => x.enc :: Node.encs xs
end

theorem Node.enc_len (x : Node) : x.enc.length = 11 := by
  obtain ⟨k, nm, l, a, t, ks, p⟩ := x
  simp [Node.enc, Lit.enc_len]

theorem Node.encs_map (l : List Node) : Node.encs l = l.map Node.enc := by
  induction l with
  | nil => rfl
  | cons x xs ih => rw [Node.encs, ih]; rfl

theorem lit_inv {B : Nat} {w : World} {x : Lit} {ds : List D} {cs : List Value} (h : RdL B w (x.enc ++ ds) cs) :
    ∃ k n b t is va vc cs', x = .mk k n b t is ∧ cs = .int .u8 k :: .int .i64 n :: .int .u64 b :: .string t :: .slice va is.length vc :: cs' ∧
      (0 ≤ k ∧ k ≤ 255) ∧ (-9223372036854775808 ≤ n ∧ n ≤ 9223372036854775807) ∧ (0 ≤ b ∧ b ≤ 18446744073709551615) ∧ t.size ≤ B ∧
      Rd B w (.row 43 5 (Lit.encs is)) (.slice va is.length vc) ∧ RdL B w ds cs' := by
  obtain ⟨k, n, b, t, is⟩ := x
  simp only [Lit.enc, List.cons_append, List.nil_append] at h
  obtain ⟨u0, us, rfl, h0, u1, us, rfl, h1, u2, us, rfl, h2, u3, us, rfl, h3, u4, us, rfl, h4, h5⟩ := h
  obtain ⟨rfl, g0⟩ := h0.val_inv
  obtain ⟨rfl, g1⟩ := h1.val_inv
  obtain ⟨rfl, g2⟩ := h2.val_inv
  obtain ⟨rfl, g3⟩ := h3.val_inv
  obtain ⟨a, cap, rfl⟩ := h4.slice
  have hl : (Lit.encs is).length = is.length := by rw [Lit.encs_map, List.length_map]
  rw [hl] at h4 ⊢
  exact ⟨k, n, b, t, is, a, cap, us, rfl, rfl, g0, g1, g2, g3, h4, h5⟩

theorem node_inv {B : Nat} {w : World} {x : Node} {cs : List Value} (h : RdL B w x.enc cs) :
    ∃ k nm l a t ks p lk ln lb lt li ia ic aa ac ta tc ka kc, x = .mk k nm l a t ks p ∧ l = .mk lk ln lb lt li ∧
      cs = [.int .u8 k, .string nm, .int .u8 lk, .int .i64 ln, .int .u64 lb, .string lt, .slice ia li.length ic, .slice aa a.length ac, .slice ta t.length tc, .slice ka ks.length kc, .int .i64 p] ∧
      (0 ≤ k ∧ k ≤ 255) ∧ nm.size ≤ B ∧ (0 ≤ lk ∧ lk ≤ 255) ∧ (-9223372036854775808 ≤ ln ∧ ln ≤ 9223372036854775807) ∧ (0 ≤ lb ∧ lb ≤ 18446744073709551615) ∧ lt.size ≤ B ∧
      (-9223372036854775808 ≤ p ∧ p ≤ 9223372036854775807) ∧
      Rd B w (.row 43 5 (Lit.encs li)) (.slice ia li.length ic) ∧ Rd B w (strs a) (.slice aa a.length ac) ∧ Rd B w (strs t) (.slice ta t.length tc) ∧ Rd B w (.row 90 11 (Node.encs ks)) (.slice ka ks.length kc) := by
  obtain ⟨k, nm, l, a, t, ks, p⟩ := x
  simp only [Node.enc] at h
  obtain ⟨u0, us, rfl, h0, u1, us, rfl, h1, h⟩ := h
  obtain ⟨rfl, g0⟩ := h0.val_inv
  obtain ⟨rfl, g1⟩ := h1.val_inv
  obtain ⟨lk, ln, lb, lt, li, ia, ic, us, rfl, rfl, e1, e2, e3, e4, e5, h⟩ := lit_inv h
  obtain ⟨u2, us, rfl, h2, u3, us, rfl, h3, u4, us, rfl, h4, u5, us, rfl, h5, rfl⟩ := h
  obtain ⟨rfl, g5⟩ := h5.val_inv
  obtain ⟨aa, ac, rfl⟩ := h2.slice
  obtain ⟨ta, tc, rfl⟩ := h3.slice
  obtain ⟨ka, kc, rfl⟩ := h4.slice
  have hl : (Node.encs ks).length = ks.length := by rw [Node.encs_map, List.length_map]
  have e1' : ∀ l : List ByteArray, (List.map (fun s => [D.val (Value.string s)]) l).length = l.length := fun l => List.length_map _
  rw [hl] at h4
  rw [e1'] at h2 h3
  rw [hl, e1', e1']
  exact ⟨_, _, _, _, _, _, _, lk, ln, lb, lt, li, ia, ic, aa, ac, ta, tc, ka, kc, rfl, rfl, rfl, g0, g1, e1, e2, e3, e4, g5, e5, h2, h3, h4⟩

theorem strs_inv {B : Nat} {w : World} {l : List ByteArray} {u : Value} (h : Rd B w (strs l) u) :
    ∃ a cap, u = .slice a l.length cap ∧ l.length ≤ cap ∧ l.length ≤ B ∧ cap ≤ 9223372036854775807 ∧
      ∀ i, (hi : i < l.length) → ∃ ab ao, a = some ⟨ab, ao, none⟩ ∧ ab < w.heap.size ∧ l[i].size ≤ B ∧ w.cell? ⟨ab, ao + i, none⟩ = some (.string l[i]) := by
  obtain ⟨a, cap, rfl, h1, h2, h3, h4⟩ := Rd.row_inv h
  simp only [List.length_map] at h1 h2 h4 ⊢
  refine ⟨a, cap, rfl, h1, h2, h3, fun i hi => ?_⟩
  obtain ⟨ab, ao, cs, e1, e2, _, e4, e5⟩ := h4 i hi
  simp only [List.getElem_map] at e4
  obtain ⟨u0, us, rfl, h0, rfl⟩ := e4
  obtain ⟨rfl, g0⟩ := h0.val_inv
  exact ⟨ab, ao, e1, e2, g0, by simpa using e5 0 _ rfl⟩

theorem lits_inv {B : Nat} {w : World} {l : List Lit} {u : Value} (h : Rd B w (.row 43 5 (Lit.encs l)) u) :
    ∃ a cap, u = .slice a l.length cap ∧ l.length ≤ cap ∧ l.length ≤ B ∧ cap ≤ 9223372036854775807 ∧
      ∀ i, (hi : i < l.length) → ∃ ab ao cs, a = some ⟨ab, ao, none⟩ ∧ ab < w.heap.size ∧ RdL B w l[i].enc cs ∧
        ∀ j x, cs[j]? = some x → w.cell? ⟨ab, ao + i * 5 + j, none⟩ = some x := by
  rw [Lit.encs_map] at h
  obtain ⟨a, cap, rfl, h1, h2, h3, h4⟩ := Rd.row_inv h
  simp only [List.length_map] at h1 h2 h4 ⊢
  refine ⟨a, cap, rfl, h1, h2, h3, fun i hi => ?_⟩
  obtain ⟨ab, ao, cs, e1, e2, _, e4, e5⟩ := h4 i hi
  simp only [List.getElem_map] at e4
  exact ⟨ab, ao, cs, e1, e2, e4, e5⟩

theorem nodes_inv {B : Nat} {w : World} {l : List Node} {u : Value} (h : Rd B w (.row 90 11 (Node.encs l)) u) :
    ∃ a cap, u = .slice a l.length cap ∧ l.length ≤ cap ∧ l.length ≤ B ∧ cap ≤ 9223372036854775807 ∧
      ∀ i, (hi : i < l.length) → ∃ ab ao cs, a = some ⟨ab, ao, none⟩ ∧ ab < w.heap.size ∧ RdL B w l[i].enc cs ∧
        ∀ j x, cs[j]? = some x → w.cell? ⟨ab, ao + i * 11 + j, none⟩ = some x := by
  rw [Node.encs_map] at h
  obtain ⟨a, cap, rfl, h1, h2, h3, h4⟩ := Rd.row_inv h
  simp only [List.length_map] at h1 h2 h4 ⊢
  refine ⟨a, cap, rfl, h1, h2, h3, fun i hi => ?_⟩
  obtain ⟨ab, ao, cs, e1, e2, _, e4, e5⟩ := h4 i hi
  simp only [List.getElem_map] at e4
  exact ⟨ab, ao, cs, e1, e2, e4, e5⟩

theorem cells2 {w : World} {ab o : Nat} {c0 c1 : Value} (h : ∀ j x, [c0, c1][j]? = some x → w.cell? ⟨ab, o + j, none⟩ = some x) :
    w.cell? ⟨ab, o, none⟩ = some c0 ∧ w.cell? ⟨ab, o + 1, none⟩ = some c1 :=
  ⟨h 0 _ rfl, h 1 _ rfl⟩

theorem cells3 {w : World} {ab o : Nat} {c0 c1 c2 : Value} (h : ∀ j x, [c0, c1, c2][j]? = some x → w.cell? ⟨ab, o + j, none⟩ = some x) :
    w.cell? ⟨ab, o, none⟩ = some c0 ∧ w.cell? ⟨ab, o + 1, none⟩ = some c1 ∧ w.cell? ⟨ab, o + 2, none⟩ = some c2 :=
  ⟨h 0 _ rfl, h 1 _ rfl, h 2 _ rfl⟩

theorem cells4 {w : World} {ab o : Nat} {c0 c1 c2 c3 : Value} (h : ∀ j x, [c0, c1, c2, c3][j]? = some x → w.cell? ⟨ab, o + j, none⟩ = some x) :
    w.cell? ⟨ab, o, none⟩ = some c0 ∧ w.cell? ⟨ab, o + 1, none⟩ = some c1 ∧ w.cell? ⟨ab, o + 2, none⟩ = some c2 ∧ w.cell? ⟨ab, o + 3, none⟩ = some c3 :=
  ⟨h 0 _ rfl, h 1 _ rfl, h 2 _ rfl, h 3 _ rfl⟩

theorem cells5 {w : World} {ab o : Nat} {c0 c1 c2 c3 c4 : Value} (h : ∀ j x, [c0, c1, c2, c3, c4][j]? = some x → w.cell? ⟨ab, o + j, none⟩ = some x) :
    w.cell? ⟨ab, o, none⟩ = some c0 ∧ w.cell? ⟨ab, o + 1, none⟩ = some c1 ∧ w.cell? ⟨ab, o + 2, none⟩ = some c2 ∧ w.cell? ⟨ab, o + 3, none⟩ = some c3 ∧ w.cell? ⟨ab, o + 4, none⟩ = some c4 :=
  ⟨h 0 _ rfl, h 1 _ rfl, h 2 _ rfl, h 3 _ rfl, h 4 _ rfl⟩

theorem cells6 {w : World} {ab o : Nat} {c0 c1 c2 c3 c4 c5 : Value} (h : ∀ j x, [c0, c1, c2, c3, c4, c5][j]? = some x → w.cell? ⟨ab, o + j, none⟩ = some x) :
    w.cell? ⟨ab, o, none⟩ = some c0 ∧ w.cell? ⟨ab, o + 1, none⟩ = some c1 ∧ w.cell? ⟨ab, o + 2, none⟩ = some c2 ∧ w.cell? ⟨ab, o + 3, none⟩ = some c3 ∧ w.cell? ⟨ab, o + 4, none⟩ = some c4 ∧ w.cell? ⟨ab, o + 5, none⟩ = some c5 :=
  ⟨h 0 _ rfl, h 1 _ rfl, h 2 _ rfl, h 3 _ rfl, h 4 _ rfl, h 5 _ rfl⟩

theorem cells7 {w : World} {ab o : Nat} {c0 c1 c2 c3 c4 c5 c6 : Value} (h : ∀ j x, [c0, c1, c2, c3, c4, c5, c6][j]? = some x → w.cell? ⟨ab, o + j, none⟩ = some x) :
    w.cell? ⟨ab, o, none⟩ = some c0 ∧ w.cell? ⟨ab, o + 1, none⟩ = some c1 ∧ w.cell? ⟨ab, o + 2, none⟩ = some c2 ∧ w.cell? ⟨ab, o + 3, none⟩ = some c3 ∧ w.cell? ⟨ab, o + 4, none⟩ = some c4 ∧ w.cell? ⟨ab, o + 5, none⟩ = some c5 ∧ w.cell? ⟨ab, o + 6, none⟩ = some c6 :=
  ⟨h 0 _ rfl, h 1 _ rfl, h 2 _ rfl, h 3 _ rfl, h 4 _ rfl, h 5 _ rfl, h 6 _ rfl⟩

theorem cells8 {w : World} {ab o : Nat} {c0 c1 c2 c3 c4 c5 c6 c7 : Value} (h : ∀ j x, [c0, c1, c2, c3, c4, c5, c6, c7][j]? = some x → w.cell? ⟨ab, o + j, none⟩ = some x) :
    w.cell? ⟨ab, o, none⟩ = some c0 ∧ w.cell? ⟨ab, o + 1, none⟩ = some c1 ∧ w.cell? ⟨ab, o + 2, none⟩ = some c2 ∧ w.cell? ⟨ab, o + 3, none⟩ = some c3 ∧ w.cell? ⟨ab, o + 4, none⟩ = some c4 ∧ w.cell? ⟨ab, o + 5, none⟩ = some c5 ∧ w.cell? ⟨ab, o + 6, none⟩ = some c6 ∧ w.cell? ⟨ab, o + 7, none⟩ = some c7 :=
  ⟨h 0 _ rfl, h 1 _ rfl, h 2 _ rfl, h 3 _ rfl, h 4 _ rfl, h 5 _ rfl, h 6 _ rfl, h 7 _ rfl⟩

theorem cells11 {w : World} {ab o : Nat} {c0 c1 c2 c3 c4 c5 c6 c7 c8 c9 c10 : Value} (h : ∀ j x, [c0, c1, c2, c3, c4, c5, c6, c7, c8, c9, c10][j]? = some x → w.cell? ⟨ab, o + j, none⟩ = some x) :
    w.cell? ⟨ab, o, none⟩ = some c0 ∧ w.cell? ⟨ab, o + 1, none⟩ = some c1 ∧ w.cell? ⟨ab, o + 2, none⟩ = some c2 ∧ w.cell? ⟨ab, o + 3, none⟩ = some c3 ∧ w.cell? ⟨ab, o + 4, none⟩ = some c4 ∧ w.cell? ⟨ab, o + 5, none⟩ = some c5 ∧ w.cell? ⟨ab, o + 6, none⟩ = some c6 ∧ w.cell? ⟨ab, o + 7, none⟩ = some c7 ∧ w.cell? ⟨ab, o + 8, none⟩ = some c8 ∧ w.cell? ⟨ab, o + 9, none⟩ = some c9 ∧ w.cell? ⟨ab, o + 10, none⟩ = some c10 :=
  ⟨h 0 _ rfl, h 1 _ rfl, h 2 _ rfl, h 3 _ rfl, h 4 _ rfl, h 5 _ rfl, h 6 _ rfl, h 7 _ rfl, h 8 _ rfl, h 9 _ rfl, h 10 _ rfl⟩

theorem Lit.ind {P : Lit → Prop} (h : ∀ k n b t is, (∀ x ∈ is, P x) → P (.mk k n b t is)) : ∀ x, P x
  | .mk k n b t is => h k n b t is fun x _ => Lit.ind h x

theorem Node.ind {P : Node → Prop} (h : ∀ k nm l a t ks p, (∀ x ∈ ks, P x) → P (.mk k nm l a t ks p)) : ∀ x, P x
  | .mk k nm l a t ks p => h k nm l a t ks p fun x _ => Node.ind h x

/-- what a caller knows behind a call that leaves what was as it was -/
theorem grow {W w1 : World} (hb : Below W.heap.size W w1) :
    (∀ b o, b < W.heap.size → w1.cell? ⟨b, o, none⟩ = W.cell? ⟨b, o, none⟩) ∧ (∀ b o, b < W.heap.size → w1.frozen? ⟨b, o, none⟩ = W.frozen? ⟨b, o, none⟩) ∧
    (∀ x, x < W.heap.size → x < w1.heap.size) :=
  ⟨fun b o h => hb.cell (p := ⟨b, o, none⟩) h, fun b o h => hb.frozen (p := ⟨b, o, none⟩) h, fun _ h => Nat.lt_of_lt_of_le h hb.size⟩

theorem ret_int {k : IntKind} {a b : Int} (h : a = b) : Ending.returned (.int k a) = .returned (.int k b) := by rw [h]
theorem ret_bool {a b : Bool} (h : a = b) : Ending.returned (.bool a) = .returned (.bool b) := by rw [h]
theorem ret_val {a b : Value} (h : a = b) : Ending.returned a = .returned b := by rw [h]

theorem lt_add (a b k : Nat) (h : a < b) : a < b + k := by omega

end Pal
