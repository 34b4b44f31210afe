/- what the library's variables hold: it stays. -/
import Derived.Test.YtljiogkfabfkmaaGreatDoorProg
import Derived.Test.YtljiogkfabfkmaaGreatDoorShelf
import Derived.Test.YtljiogkfabfkmaaGreatDoorBase
open Go Go.RowKit Go.Proofs
namespace Pal

theorem var_below {P : Program} {n : Nat} {w w' : World} {name : String} {cs : Array Value} {g : Nat} (h : w.var? P name = some cs) (hg : P.globalNamed name = some g) (hn : g < n) (hb : Below n w w') : w'.var? P name = some cs := by
  unfold World.var? at h ⊢
  rw [hg] at h ⊢
  simp only [Option.bind_some] at h ⊢
  rw [hb.block g hn]
  exact h

structure Env (w : World) : Prop where
  range : ∃ tp p, w.var? Tryz.prog "strconv.ErrRange" = some #[.iface tp p]
  syn : ∃ tp p, w.var? Tryz.prog "strconv.ErrSyntax" = some #[.iface tp p]
  tab : Lib.TabIs Tryz.prog w "internal/strconv.uint64pow10" .u64 Lib.pow10Tab
  mlen : ∃ m, w.cell? ⟨1, 0, none⟩ = some (.int .i64 m)
  size : Tryz.prog.globals.size ≤ w.heap.size

theorem Env.below {n : Nat} {w w' : World} (h : Env w) (hn : Tryz.prog.globals.size ≤ n) (hb : Below n w w') : Env w' := by
  obtain ⟨⟨tp, p, h1⟩, ⟨tq, q, h2⟩, h3, ⟨m, hm⟩, h4⟩ := h
  refine ⟨⟨tp, p, ?_⟩, ⟨tq, q, ?_⟩, ?_, ⟨m, ?_⟩, Nat.le_trans h4 hb.size⟩
  · obtain ⟨g, hg, hl⟩ : ∃ g, Tryz.prog.globalNamed "strconv.ErrRange" = some g ∧ g < Tryz.prog.globals.size := ⟨(Tryz.prog.globalNamed "strconv.ErrRange").getD 0, by kernel_rfl, by decide +kernel⟩
    exact var_below h1 hg (Nat.lt_of_lt_of_le hl hn) hb
  · obtain ⟨g, hg, hl⟩ : ∃ g, Tryz.prog.globalNamed "strconv.ErrSyntax" = some g ∧ g < Tryz.prog.globals.size := ⟨(Tryz.prog.globalNamed "strconv.ErrSyntax").getD 0, by kernel_rfl, by decide +kernel⟩
    exact var_below h2 hg (Nat.lt_of_lt_of_le hl hn) hb
  · obtain ⟨g, hg, hl⟩ : ∃ g, Tryz.prog.globalNamed "internal/strconv.uint64pow10" = some g ∧ g < Tryz.prog.globals.size := ⟨(Tryz.prog.globalNamed "internal/strconv.uint64pow10").getD 0, by kernel_rfl, by decide +kernel⟩
    exact var_below h3 hg (Nat.lt_of_lt_of_le hl hn) hb
  · rw [← hm]; simp only [World.cell?]; rw [hb.block 1 (Nat.lt_of_lt_of_le (show 1 < Tryz.prog.globals.size by decide +kernel) hn)]
end Pal
