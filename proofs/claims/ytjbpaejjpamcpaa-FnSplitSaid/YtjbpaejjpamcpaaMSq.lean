import Derived.Test.YtjbpaejjpamcpaaMSp
/- Points of the cardioid and the disc: all of some columns are looked at. Plain Lean. -/
namespace Go.Proofs.Ytjbpaejjpamcpaa
set_option linter.unusedSimpArgs false
set_option linter.unusedVariables false
namespace Sp
theorem rB_193 : cols 1545 1537 7 129 = true := by decide +kernel
theorem rB_275 : cols 2201 1537 6 129 = true := by decide +kernel
theorem rC_186 : cols 1488 1537 7 129 = true := by decide +kernel
theorem rC_225 : cols 1800 1537 24 129 = true := by decide +kernel
theorem rC_249 : cols 1992 1537 26 129 = true := by decide +kernel
end Sp
end Go.Proofs.Ytjbpaejjpamcpaa
/- Points of the cardioid and the disc: all of some columns are looked at. Plain Lean. -/
namespace Go.Proofs.Ytjbpaejjpamcpaa
set_option linter.unusedSimpArgs false
set_option linter.unusedVariables false
namespace Sp
theorem rA_176 : cols 1408 2048 17 65 = true := by decide +kernel
theorem rA_211 : cols 1688 2048 38 65 = true := by decide +kernel
theorem rB_249 : cols 1993 1537 26 129 = true := by decide +kernel
theorem rC_211 : cols 1688 1537 14 129 = true := by decide +kernel
theorem rC_275 : cols 2200 1537 6 129 = true := by decide +kernel
end Sp
end Go.Proofs.Ytjbpaejjpamcpaa
