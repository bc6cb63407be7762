/- Texts TxtOpen. -/
import Derived.Test.YtljkkojkfddpeaaGreatDoorU4
import Derived.Test.YtljkkojkfddpeaaGreatDoorU8
import Derived.Test.YtljkkojkfddpeaaGreatDoorRows
import Derived.Test.YtljkkojkfddpeaaGreatDoorU3
import Derived.Shelf.Vars
import Derived.MakeChecks
section
/- What the rows of the texts' laws say of the package's variables. -/
namespace Go.TF
open Go Go.RowKit Go.Proofs
set_option maxRecDepth 100000
open Go.Proofs.YtljkkojkfddpeaaGreatDoor

abbrev textLaid : List (String × DataW Unit) := Rows.textFactsRow.laid
theorem vars_of {W : World} (hL : laidMetH Tryz.prog textLaid W) (hsh : W.ShapedOpen Tryz.prog) : Vars (memH W) := by
  rw [MakeChecks.laidMetH_plain _ _ _ (by kernel_rfl)] at hL
  have h3 := hL.tail.tail
  have h5 := h3.tail.tail
  have h6 := h5.tail
  obtain ⟨m, hm⟩ := cell_of_shapedOpen_int (g := 0) (t := 3) (zero := #[.int .i64 0]) hsh (of_decide_eq_true (by kernel_rfl)) (by kernel_rfl) rfl (by kernel_rfl) (by kernel_rfl) Tryz.underlying3
  refine ⟨⟨m, memH_cell hm⟩, ?_, ?_, ?_⟩
  · obtain ⟨a, s, hv, _⟩ := laid_sentinel (g := 2) (ti := 55) h6 (by kernel_rfl) (by kernel_rfl) Tryz.underlying55 (tp := 271) (te := 273) (ts := 9) (fun u h => typeName_ptr_named (nm := "errors.errorString") (by kernel_rfl) (by kernel_rfl) (by decide) u h) Tryz.underlying271 Tryz.underlying273 rfl rfl Tryz.underlying9 (by kernel_rfl) (by kernel_rfl)
    exact ⟨_, _, memH_cell (by simpa using World.var?_cell (g := 2) (by kernel_rfl) hv 0)⟩
  · obtain ⟨a, s, hv, _⟩ := laid_sentinel (g := 3) (ti := 55) h5 (by kernel_rfl) (by kernel_rfl) Tryz.underlying55 (tp := 271) (te := 273) (ts := 9) (fun u h => typeName_ptr_named (nm := "errors.errorString") (by kernel_rfl) (by kernel_rfl) (by decide) u h) Tryz.underlying271 Tryz.underlying273 rfl rfl Tryz.underlying9 (by kernel_rfl) (by kernel_rfl)
    exact ⟨_, _, memH_cell (by simpa using World.var?_cell (g := 3) (by kernel_rfl) hv 0)⟩
  · exact laid_ints (g := 1) (t := 226) (e := 199) (k := .u64) (zs := Lib.pow10Tab) h3 (by kernel_rfl) (by kernel_rfl) Tryz.underlying226 Tryz.underlying199 (by kernel_rfl) (by kernel_rfl)
theorem PrgOk.nm5 {p : Prg} {h : Heap} (x : PrgOk p h) : p.Nm := fun y hy => by
  have := (x.preds.each y hy).1
  simp only [reachBytes] at this; omega
end Go.TF
end
