/-
  Lin: arguments, opened.
  Lin: what was, as an argument.
-/
import Derived.Test.YtplhcfaonhkegaaP0a
import Derived.Test.YtplhcfaonhkegaaH1
import Derived.Test.YtplhcfaonhkegaaLH
namespace Go.Proofs.Ytplhcfaonhkegaa
open Go.ChangeShapes Go.WideShapes Go.ChangeAt Go.RowKit

section
variable {w : World}
theorem from76 : From Try.prog w kHap 76 := From.struct Try.underlying76 (by kernel_rfl) (FromFs.cons from39 rfl rfl (FromFs.cons from52 rfl rfl (FromFs.cons from3 rfl rfl (FromFs.cons from3 rfl rfl (FromFs.cons from4 rfl rfl (FromFs.one from4 rfl))))))
theorem from71 : From Try.prog w (kRow kHap 224) 71 := From.slice Try.underlying71 (by kernel_rfl) from76 (by kernel_rfl)
theorem from73 : From Try.prog w (kRow kI 8) 73 := From.slice Try.underlying73 (by kernel_rfl) from3 (by kernel_rfl)
end
end Go.Proofs.Ytplhcfaonhkegaa

namespace Go.Proofs.Ytplhcfaonhkegaa
open Go.ChangeShapes Go.WideShapes Go.ChangeAt Go.RowKit

section
variable {w : World}
theorem from160 : From Try.prog w kWas 160 := From.struct Try.underlying160 (by kernel_rfl) (FromFs.cons from39 rfl rfl (FromFs.cons (From.byte Try.underlying5 (by kernel_rfl)) rfl rfl (FromFs.cons (From.byte Try.underlying5 (by kernel_rfl)) rfl rfl (FromFs.cons from4 rfl rfl (FromFs.one from4 rfl)))))
theorem from109 : From Try.prog w (kRow kWas 56) 109 := From.slice Try.underlying109 (by kernel_rfl) from160 (by kernel_rfl)
end
end Go.Proofs.Ytplhcfaonhkegaa
