/- The row's frame for laws over the library's two tables: what the row's list gives; a world for the witness. -/
import Derived.Test.YtlochdfemphhfaaDoorRow
import Derived.Test.YtlochdfemphhfaaDoorTz
import Derived.Test.YtlochdfemphhfaaDoorCards
import Derived.Test.YtlochdfemphhfaaDoorTie
import Derived.Deep.DeepHandedRow
import Derived.Lib.LaidTab
import Derived.LaidSub
namespace Go.Proofs.YtlochdfemphhfaaDoor
set_option linter.unusedSimpArgs false
set_option linter.unusedVariables false
open Go.ChangeShapes Go.WideShapes Go.ChangeAt Go.RowKit Go.Joins
/-- The list of the rows: the table. -/
def theList : List (String × DataW Unit) := Rows.fnExactAnglePeriodRow.laid
def tabName : String := (theList.map (·.1)).getD 1 default
theorem gTab : Tryd.prog.globalNamed tabName = some 1 := by kernel_rfl
theorem gTabType : (Tryd.prog.globals[1]?).map (·.type) = some 40 := by kernel_rfl
theorem cellsTab : Tryd.prog.cellsOf 40 = 64 := by kernel_rfl
theorem cellsU8 : Tryd.prog.cellsOf 5 = 1 := by kernel_rfl
/-- What the row's list gives: the table's cells hold its numbers. -/
theorem onlyTab : theList.filter (fun x => x.1 == tabName) = [(tabName, Lib.tabData .u8 (Lib.deBruijn64tab.map fun n : Nat => (n : Int)))] := by kernel_rfl
theorem tb_of {W : World} (h : laidMet Tryd.prog theList W) : Tb W := by
  have h := laidMet.filter (fun x => x.1 == tabName) h
  rw [onlyTab] at h
  have hT : Lib.TabIs Tryd.prog W tabName .u8 (Lib.deBruijn64tab.map fun n : Nat => (n : Int)) :=
    Lib.tabIs_of_head (rest := []) gTab gTabType Tryd.underlying40 Tryd.underlying5 cellsU8 cellsTab h
  intro j hj
  have := hT.cell gTab j (by rw [List.length_map]; exact hj)
  rw [this]
  congr 2
  rw [List.getD_eq_getElem?_getD, List.getD_eq_getElem?_getD, List.getElem?_map]
  cases Lib.deBruijn64tab[j]? <;> rfl
def tab32 : List Int := [0, 1, 28, 2, 29, 14, 24, 3, 30, 22, 20, 15, 25, 17, 4, 8, 31, 27, 13, 23, 21, 19, 16, 7, 26, 12, 18, 6, 11, 5, 10, 9]
def lay64 : Obj → Obj
  | .cells _ t frozen => .cells (Lib.deBruijn64tab.map fun n : Nat => Value.int .u8 (n : Int)).toArray t frozen
  | o => o
def lay32 : Obj → Obj
  | .cells _ t frozen => .cells (tab32.map fun n : Int => Value.int .u8 n).toArray t frozen
  | o => o
/-- A world for the witness: the settled one, the tables holding what their initialisers lay. -/
noncomputable def laidWorld (os : Os) : World :=
  { World.holding Tryd.prog os ⟨#[], #[], []⟩ with heap := ((World.holding Tryd.prog os ⟨#[], #[], []⟩).heap.modify 1 lay64).modify 0 lay32 }
end Go.Proofs.YtlochdfemphhfaaDoor
