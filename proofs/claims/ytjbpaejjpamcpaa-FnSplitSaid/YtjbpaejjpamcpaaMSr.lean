import Derived.Test.YtjbpaejjpamcpaaMSp
/- Points of the cardioid and the disc: all of some columns are looked at. Plain Lean. -/
namespace Go.Proofs.Ytjbpaejjpamcpaa
set_option linter.unusedSimpArgs false
set_option linter.unusedVariables false
namespace Sp
theorem rA_193 : cols 1544 2048 18 65 = true := by decide +kernel
theorem rA_249 : cols 1992 2048 32 65 = true := by decide +kernel
theorem rB_200 : cols 1601 1537 11 129 = true := by decide +kernel
theorem rC_193 : cols 1544 1537 7 129 = true := by decide +kernel
theorem rC_200 : cols 1600 1537 11 129 = true := by decide +kernel
end Sp
end Go.Proofs.Ytjbpaejjpamcpaa
/- Points of the cardioid and the disc: all of some columns are looked at. Plain Lean. -/
namespace Go.Proofs.Ytjbpaejjpamcpaa
set_option linter.unusedSimpArgs false
set_option linter.unusedVariables false
namespace Sp
theorem rB_176 : cols 1409 1537 10 129 = true := by decide +kernel
theorem rB_186 : cols 1489 1537 7 129 = true := by decide +kernel
theorem rB_211 : cols 1689 1537 14 129 = true := by decide +kernel
theorem rB_225 : cols 1801 1537 24 129 = true := by decide +kernel
theorem rC_176 : cols 1408 1537 10 129 = true := by decide +kernel
end Sp
end Go.Proofs.Ytjbpaejjpamcpaa
