/- Drawn laws on boxes: what is drawn, as letters. -/
import Derived.Test.YtdgfipdlfgcfeaaBoG
import Derived.Test.YtdgfipdlfgcfeaaEng2
namespace Go.Proofs.Ytdgfipdlfgcfeaa
set_option linter.unusedSimpArgs false
set_option linter.unusedVariables false
open Go.RowKit Eng
/-- One box drawn, two boxes drawn. -/
def box1 : SVal := .cv (.agg [.int .i64 (.var 1), .int .i64 (.var 2), .int .i64 (.var 3), .int .i64 (.var 4)])
def box2 : SVal := .tup [.agg [.int .i64 (.var 1), .int .i64 (.var 2), .int .i64 (.var 3), .int .i64 (.var 4)], .agg [.int .i64 (.var 5), .int .i64 (.var 6), .int .i64 (.var 7), .int .i64 (.var 8)]]
def Bd (a b c d : Int) : Prop := -200000000 ≤ a ∧ a ≤ 200000000 ∧ -200000000 ≤ b ∧ b ≤ 200000000 ∧ -200000000 ≤ c ∧ c ≤ 200000000 ∧ -200000000 ≤ d ∧ d ≤ 200000000
def Good1 (zs : List Int) : Prop := ∃ a b c d : Int, zs = [a, b, c, d] ∧ Bd a b c d
def Good2 (zs : List Int) : Prop := ∃ a b c d e f g h : Int, zs = [a, b, c, d, e, f, g, h] ∧ Bd a b c d ∧ Bd e f g h
end Go.Proofs.Ytdgfipdlfgcfeaa
