/- The row's frame for laws over the library's table: what the row's list gives; a world for the witness. -/
import Derived.Test.YtjpmpjcenajmbaaDoorRow
import Derived.Test.YtjpmpjcenajmbaaDoorTz
import Derived.Test.YtjpmpjcenajmbaaDoorCards
import Derived.Test.YtjpmpjcenajmbaaDoorTie
import Derived.Deep.DeepHandedRow
import Derived.Lib.LaidTab
namespace Go.Proofs.YtjpmpjcenajmbaaDoor
set_option linter.unusedSimpArgs false
set_option linter.unusedVariables false
open Go.ChangeShapes Go.WideShapes Go.ChangeAt Go.RowKit Go.Joins
/-- The list of the rows: the table. -/
def theList : List (String × DataW Unit) := Rows.fnAgreeRow.laid
def tabName : String := (theList.map (·.1)).headD default
theorem gTab : Tryd.prog.globalNamed tabName = some 1 := by kernel_rfl
theorem gTabType : (Tryd.prog.globals[1]?).map (·.type) = some 91 := by kernel_rfl
theorem cellsTab : Tryd.prog.cellsOf 91 = 64 := by kernel_rfl
theorem cellsU8 : Tryd.prog.cellsOf 5 = 1 := by kernel_rfl
/-- What the row's list gives: the table's cells hold its numbers. -/
theorem tb_of {W : World} (h : laidMet Tryd.prog theList W) : Tb W := by
  have hT : Lib.TabIs Tryd.prog W tabName .u8 (Lib.deBruijn64tab.map fun n : Nat => (n : Int)) :=
    Lib.tabIs_of_head (rest := []) gTab gTabType Tryd.underlying91 Tryd.underlying5 cellsU8 cellsTab h
  intro j hj
  have := hT.cell gTab j (by rw [List.length_map]; exact hj)
  rw [this]
  congr 2
  rw [List.getD_eq_getElem?_getD, List.getD_eq_getElem?_getD, List.getElem?_map]
  cases Lib.deBruijn64tab[j]? <;> rfl
/-- A world for the witness: the settled one, the table holding what its initialiser lays. -/
noncomputable def laidWorld (os : Os) : World :=
  { World.holding Tryd.prog os ⟨#[], #[], []⟩ with heap := (World.holding Tryd.prog os ⟨#[], #[], []⟩).heap.modify 1 fun
      | .cells _ t frozen => .cells (Lib.deBruijn64tab.map fun n : Nat => Value.int .u8 (n : Int)).toArray t frozen
      | o => o }
end Go.Proofs.YtjpmpjcenajmbaaDoor
