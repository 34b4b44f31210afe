/- From a row's condition to what the walks want of the library's variables. -/
import Derived.Test.YtljiogkfabfkmaaGreatDoorEnv
import Derived.Test.YtljiogkfabfkmaaGreatDoorRows
import Derived.LaidSub
import Derived.LaidLaws
import Derived.LaidMore
import Derived.Lib.LaidTab
import Derived.Shelf.Vars
import Derived.MakeChecks
open Go Go.RowKit Go.Proofs
namespace Pal

theorem one_var {L : List (String × DataW Unit)} {w : World} {name : String} {d : DataW Unit} (hl : laidMet Tryz.prog L w) (e : L.filter (fun x => x.1 == name) = [(name, d)]) : laidMet Tryz.prog [(name, d)] w := by
  have h := hl.filter (fun x => x.1 == name)
  rw [e] at h; exact h

theorem sent_var {w : World} {name nm : String} {d : DataW Unit} {g t : Nat} {ms : Array (String × TypeId)} (h : laidMet Tryz.prog [(name, .iface nm d)] w) (hg : Tryz.prog.globalNamed name = some g) (ht : (Tryz.prog.globals[g]?).map (·.type) = some t) (hi : Tryz.prog.underlying t = some (.interface ms)) :
    ∃ tp p, w.var? Tryz.prog name = some #[.iface tp p] := by
  obtain ⟨ps, ⟨g', t', cs, fuel, p, q, hg', ht', hvar, hd, _, _⟩, _⟩ := h
  obtain rfl := Option.some.inj (hg.symm.trans hg')
  obtain rfl := Option.some.inj (ht.symm.trans ht')
  obtain ⟨f1, u, v, hcs, _, _⟩ := iface_of_trod hi hd
  exact ⟨u, v, hvar.trans (congrArg some (Array.toList_inj.1 hcs))⟩

set_option maxRecDepth 100000 in
theorem Env.of_laid {L : List (String × DataW Unit)} {w : World} (hl : laidMet Tryz.prog L w) (hs : w.ShapedOpen Tryz.prog)
    (e1 : L.filter (fun x => x.1 == "strconv.ErrRange") = [("strconv.ErrRange", YtljiogkfabfkmaaGreatDoor.Rows.laid_strconv_ErrRange)])
    (e2 : L.filter (fun x => x.1 == "strconv.ErrSyntax") = [("strconv.ErrSyntax", YtljiogkfabfkmaaGreatDoor.Rows.laid_strconv_ErrSyntax)])
    (e3 : L.filter (fun x => x.1 == "internal/strconv.uint64pow10") = [("internal/strconv.uint64pow10", YtljiogkfabfkmaaGreatDoor.Rows.laid_internal_strconv_uint64pow10)]) : Env w := by
  refine ⟨sent_var (one_var hl e1) (g := (Tryz.prog.globalNamed "strconv.ErrRange").getD 0) (t := 96) (by kernel_rfl) (by kernel_rfl) Tryz.underlying96, sent_var (one_var hl e2) (g := (Tryz.prog.globalNamed "strconv.ErrSyntax").getD 0) (t := 96) (by kernel_rfl) (by kernel_rfl) Tryz.underlying96, ?_, ?_, ?_⟩
  · have h3 := one_var hl e3
    rw [show YtljiogkfabfkmaaGreatDoor.Rows.laid_internal_strconv_uint64pow10 = (Lib.tabData .u64 Lib.pow10Tab : DataW Unit) by rfl] at h3
    exact Lib.tabIs_of_head (g := (Tryz.prog.globalNamed "internal/strconv.uint64pow10").getD 0) (t := ((Tryz.prog.globals[(Tryz.prog.globalNamed "internal/strconv.uint64pow10").getD 0]?).map (·.type)).getD 0) (n := 20) (e := 40) (by kernel_rfl) (by kernel_rfl) (by kernel_rfl) Tryz.underlying40 (by kernel_rfl) (by kernel_rfl) h3
  · exact cell_of_shapedOpen_int (g := 1) (t := 3) (zero := #[.int .i64 0]) hs (by decide +kernel) (by kernel_rfl) rfl (by kernel_rfl) (by kernel_rfl) Tryz.underlying3
  · have hle : Tryz.prog.globals.size ≤ (begin Tryz.prog (fun _ _ => 0) default).world.heap.size := by decide +kernel
    have key : ∀ k, k < (begin Tryz.prog (fun _ _ => 0) default).world.heap.size → k < w.heap.size := by
      intro k hk
      by_cases hg : k < Tryz.prog.globals.size
      · have hz : ∀ g, g < Tryz.prog.globals.size → (((begin Tryz.prog (fun _ _ => 0) default).world.heap[g]?).bind Obj.row?).isSome = true := by
          have hall : ((List.range Tryz.prog.globals.size).all fun g => (((begin Tryz.prog (fun _ _ => 0) default).world.heap[g]?).bind Obj.row?).isSome) = true := by kernel_rfl
          exact fun g hg => List.all_eq_true.1 hall g (List.mem_range.2 hg)
        obtain ⟨⟨zero, t⟩, h0⟩ := Option.isSome_iff_exists.1 (hz k hg)
        obtain ⟨cs, h1, _⟩ := hs.1 k zero t hg h0
        exact (Array.getElem?_eq_some_iff.1 h1).1
      · obtain ⟨o, o0, h1, _⟩ := hs.2 k (by omega) hk
        exact (Array.getElem?_eq_some_iff.1 h1).1
    exact Nat.le_of_not_lt fun h => by
      have h1 := key (w.heap.size) (Nat.lt_of_lt_of_le h hle)
      exact Nat.lt_irrefl _ h1
end Pal
