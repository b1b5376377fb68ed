/- What the reference's DyadAdd gives. -/
import Derived.Test.YtdgfipdlfgcfeaaDyW4
namespace Go.Proofs.Ytdgfipdlfgcfeaa
set_option linter.unusedSimpArgs false
set_option linter.unusedVariables false
open Go.RowKit

/-- What DyadAdd gives. -/
def ADV (r i s x y t : Int) : Value := if ADD r i s x y t = true then (.tuple #[.agg #[.int .i64 (lR (AP r s x t) (AP i s y t) (max s t)), .int .i64 (lI (AP r s x t) (AP i s y t) (max s t)), .int .i64 (lS (AP r s x t) (AP i s y t) (max s t))], .bool true]) else (.tuple #[.agg #[.int .i64 0, .int .i64 0, .int .i64 0], .bool false])
theorem ADV_yes {r i s x y t : Int} (h : ADD r i s x y t = true) : ADV r i s x y t = (.tuple #[.agg #[.int .i64 (lR (AP r s x t) (AP i s y t) (max s t)), .int .i64 (lI (AP r s x t) (AP i s y t) (max s t)), .int .i64 (lS (AP r s x t) (AP i s y t) (max s t))], .bool true]) := if_pos h
theorem ADV_no {r i s x y t : Int} (h : ADD r i s x y t = false) : ADV r i s x y t = (.tuple #[.agg #[.int .i64 0, .int .i64 0, .int .i64 0], .bool false]) := if_neg (by rw [h]; decide)

theorem ADD_low {r i s x y t : Int} (h1 : DV r i s = true) (h2 : DV x y t = true) : ADD r i s x y t = DV (lR (AP r s x t) (AP i s y t) (max s t)) (lI (AP r s x t) (AP i s y t) (max s t)) (lS (AP r s x t) (AP i s y t) (max s t)) := by
  unfold ADD; rw [h1, h2]; rfl

end Go.Proofs.Ytdgfipdlfgcfeaa
