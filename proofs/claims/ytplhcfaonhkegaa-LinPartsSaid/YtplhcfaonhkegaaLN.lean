/-
  Model: how the laws' arguments lie in the cells.
  Model: arguments, opened.
  Lin: arguments, opened.
  The reference's Order, walked.
  The reference's Linear, walked.
  The law of parts, walked.
-/
import Derived.Test.YtplhcfaonhkegaaRows
import Derived.Test.YtplhcfaonhkegaaM1
import Derived.ProofKit
import Derived.Test.YtplhcfaonhkegaaM6
import Derived.Test.YtplhcfaonhkegaaH1
import Derived.Test.YtplhcfaonhkegaaLK
import Derived.Test.YtplhcfaonhkegaaLC
import Derived.Test.YtplhcfaonhkegaaLG
import Derived.Test.YtplhcfaonhkegaaLJ
namespace Go.Proofs.Ytplhcfaonhkegaa
open Go.ChangeShapes Go.WideShapes Go.ChangeAt Go.RowKit

theorem Try.own : ownKnob Try.prog.godebug = none := by kernel_rfl
theorem Try.laidOut : laidOutB Try.prog = true := by kernel_rfl

set_option maxRecDepth 100000 in
/-- The program's head, sign by sign. -/
def Try.signL : List Char :=
  [Char.ofNat 104, Char.ofNat 97, Char.ofNat 114, Char.ofNat 110, Char.ofNat 101, Char.ofNat 115, Char.ofNat 115, Char.ofNat 32, Char.ofNat 102, Char.ofNat 52, Char.ofNat 99, Char.ofNat 101, Char.ofNat 50, Char.ofNat 51, Char.ofNat 98, Char.ofNat 50, Char.ofNat 50, Char.ofNat 50, Char.ofNat 98, Char.ofNat 102, Char.ofNat 98, Char.ofNat 100, Char.ofNat 53, Char.ofNat 55, Char.ofNat 49, Char.ofNat 56, Char.ofNat 97, Char.ofNat 54, Char.ofNat 99, Char.ofNat 101, Char.ofNat 48, Char.ofNat 98, Char.ofNat 55, Char.ofNat 49, Char.ofNat 98, Char.ofNat 49, Char.ofNat 54, Char.ofNat 99, Char.ofNat 52, Char.ofNat 50, Char.ofNat 56, Char.ofNat 54, Char.ofNat 57, Char.ofNat 48, Char.ofNat 101, Char.ofNat 55, Char.ofNat 49, Char.ofNat 49, Char.ofNat 50, Char.ofNat 102, Char.ofNat 54, Char.ofNat 54, Char.ofNat 49, Char.ofNat 52, Char.ofNat 50, Char.ofNat 53, Char.ofNat 97, Char.ofNat 54, Char.ofNat 52, Char.ofNat 54, Char.ofNat 101, Char.ofNat 49, Char.ofNat 102, Char.ofNat 53, Char.ofNat 99, Char.ofNat 51, Char.ofNat 51, Char.ofNat 56, Char.ofNat 99, Char.ofNat 54, Char.ofNat 100, Char.ofNat 97, Char.ofNat 32, Char.ofNat 99, Char.ofNat 117, Char.ofNat 116, Char.ofNat 32, Char.ofNat 97, Char.ofNat 116, Char.ofNat 32, Char.ofNat 108, Char.ofNat 101, Char.ofNat 97, Char.ofNat 112, Char.ofNat 102, Char.ofNat 114, Char.ofNat 111, Char.ofNat 103, Char.ofNat 47, Char.ofNat 108, Char.ofNat 101, Char.ofNat 97, Char.ofNat 112, Char.ofNat 102, Char.ofNat 114, Char.ofNat 111, Char.ofNat 103, Char.ofNat 108, Char.ofNat 97, Char.ofNat 119, Char.ofNat 49, Char.ofNat 48, Char.ofNat 46, Char.ofNat 77, Char.ofNat 111, Char.ofNat 100, Char.ofNat 101, Char.ofNat 108, Char.ofNat 82, Char.ofNat 117, Char.ofNat 110, Char.ofNat 115, Char.ofNat 32, Char.ofNat 108, Char.ofNat 101, Char.ofNat 97, Char.ofNat 112, Char.ofNat 102, Char.ofNat 114, Char.ofNat 111, Char.ofNat 103, Char.ofNat 47, Char.ofNat 108, Char.ofNat 101, Char.ofNat 97, Char.ofNat 112, Char.ofNat 102, Char.ofNat 114, Char.ofNat 111, Char.ofNat 103, Char.ofNat 108, Char.ofNat 97, Char.ofNat 119, Char.ofNat 49, Char.ofNat 48, Char.ofNat 46, Char.ofNat 77, Char.ofNat 111, Char.ofNat 100, Char.ofNat 101, Char.ofNat 108, Char.ofNat 65, Char.ofNat 112, Char.ofNat 97, Char.ofNat 114, Char.ofNat 116, Char.ofNat 32, Char.ofNat 108, Char.ofNat 101, Char.ofNat 97, Char.ofNat 112, Char.ofNat 102, Char.ofNat 114, Char.ofNat 111, Char.ofNat 103, Char.ofNat 47, Char.ofNat 108, Char.ofNat 101, Char.ofNat 97, Char.ofNat 112, Char.ofNat 102, Char.ofNat 114, Char.ofNat 111, Char.ofNat 103, Char.ofNat 108, Char.ofNat 97, Char.ofNat 119, Char.ofNat 49, Char.ofNat 48, Char.ofNat 46, Char.ofNat 77, Char.ofNat 111, Char.ofNat 100, Char.ofNat 101, Char.ofNat 108, Char.ofNat 79, Char.ofNat 110, Char.ofNat 101, Char.ofNat 32, Char.ofNat 108, Char.ofNat 101, Char.ofNat 97, Char.ofNat 112, Char.ofNat 102, Char.ofNat 114, Char.ofNat 111, Char.ofNat 103, Char.ofNat 47, Char.ofNat 108, Char.ofNat 101, Char.ofNat 97, Char.ofNat 112, Char.ofNat 102, Char.ofNat 114, Char.ofNat 111, Char.ofNat 103, Char.ofNat 108, Char.ofNat 97, Char.ofNat 119, Char.ofNat 49, Char.ofNat 48, Char.ofNat 46, Char.ofNat 77, Char.ofNat 111, Char.ofNat 100, Char.ofNat 101, Char.ofNat 108, Char.ofNat 82, Char.ofNat 101, Char.ofNat 97, Char.ofNat 100, Char.ofNat 115, Char.ofNat 32, Char.ofNat 108, Char.ofNat 101, Char.ofNat 97, Char.ofNat 112, Char.ofNat 102, Char.ofNat 114, Char.ofNat 111, Char.ofNat 103, Char.ofNat 47, Char.ofNat 108, Char.ofNat 101, Char.ofNat 97, Char.ofNat 112, Char.ofNat 102, Char.ofNat 114, Char.ofNat 111, Char.ofNat 103, Char.ofNat 108, Char.ofNat 97, Char.ofNat 119, Char.ofNat 49, Char.ofNat 48, Char.ofNat 46, Char.ofNat 77, Char.ofNat 111, Char.ofNat 100, Char.ofNat 101, Char.ofNat 108, Char.ofNat 70, Char.ofNat 111, Char.ofNat 114, Char.ofNat 109, Char.ofNat 115, Char.ofNat 32, Char.ofNat 108, Char.ofNat 101, Char.ofNat 97, Char.ofNat 112, Char.ofNat 102, Char.ofNat 114, Char.ofNat 111, Char.ofNat 103, Char.ofNat 47, Char.ofNat 108, Char.ofNat 101, Char.ofNat 97, Char.ofNat 112, Char.ofNat 102, Char.ofNat 114, Char.ofNat 111, Char.ofNat 103, Char.ofNat 108, Char.ofNat 97, Char.ofNat 119, Char.ofNat 49, Char.ofNat 48, Char.ofNat 46, Char.ofNat 77, Char.ofNat 111, Char.ofNat 100, Char.ofNat 101, Char.ofNat 108, Char.ofNat 68, Char.ofNat 111, Char.ofNat 101, Char.ofNat 115, Char.ofNat 32, Char.ofNat 108, Char.ofNat 101, Char.ofNat 97, Char.ofNat 112, Char.ofNat 102, Char.ofNat 114, Char.ofNat 111, Char.ofNat 103, Char.ofNat 47, Char.ofNat 108, Char.ofNat 101, Char.ofNat 97, Char.ofNat 112, Char.ofNat 102, Char.ofNat 114, Char.ofNat 111, Char.ofNat 103, Char.ofNat 108, Char.ofNat 97, Char.ofNat 119, Char.ofNat 50, Char.ofNat 50, Char.ofNat 46, Char.ofNat 72, Char.ofNat 105, Char.ofNat 115, Char.ofNat 116, Char.ofNat 84, Char.ofNat 114, Char.ofNat 117, Char.ofNat 101, Char.ofNat 32, Char.ofNat 108, Char.ofNat 101, Char.ofNat 97, Char.ofNat 112, Char.ofNat 102, Char.ofNat 114, Char.ofNat 111, Char.ofNat 103, Char.ofNat 47, Char.ofNat 108, Char.ofNat 101, Char.ofNat 97, Char.ofNat 112, Char.ofNat 102, Char.ofNat 114, Char.ofNat 111, Char.ofNat 103, Char.ofNat 108, Char.ofNat 97, Char.ofNat 119, Char.ofNat 50, Char.ofNat 50, Char.ofNat 46, Char.ofNat 72, Char.ofNat 105, Char.ofNat 115, Char.ofNat 116, Char.ofNat 79, Char.ofNat 114, Char.ofNat 100, Char.ofNat 101, Char.ofNat 114, Char.ofNat 32, Char.ofNat 108, Char.ofNat 101, Char.ofNat 97, Char.ofNat 112, Char.ofNat 102, Char.ofNat 114, Char.ofNat 111, Char.ofNat 103, Char.ofNat 47, Char.ofNat 108, Char.ofNat 101, Char.ofNat 97, Char.ofNat 112, Char.ofNat 102, Char.ofNat 114, Char.ofNat 111, Char.ofNat 103, Char.ofNat 108, Char.ofNat 97, Char.ofNat 119, Char.ofNat 50, Char.ofNat 50, Char.ofNat 46, Char.ofNat 72, Char.ofNat 105, Char.ofNat 115, Char.ofNat 116, Char.ofNat 82, Char.ofNat 117, Char.ofNat 110, Char.ofNat 115, Char.ofNat 32, Char.ofNat 108, Char.ofNat 101, Char.ofNat 97, Char.ofNat 112, Char.ofNat 102, Char.ofNat 114, Char.ofNat 111, Char.ofNat 103, Char.ofNat 47, Char.ofNat 108, Char.ofNat 101, Char.ofNat 97, Char.ofNat 112, Char.ofNat 102, Char.ofNat 114, Char.ofNat 111, Char.ofNat 103, Char.ofNat 108, Char.ofNat 97, Char.ofNat 119, Char.ofNat 50, Char.ofNat 50, Char.ofNat 46, Char.ofNat 72, Char.ofNat 105, Char.ofNat 115, Char.ofNat 116, Char.ofNat 70, Char.ofNat 117, Char.ofNat 108, Char.ofNat 108, Char.ofNat 32, Char.ofNat 108, Char.ofNat 101, Char.ofNat 97, Char.ofNat 112, Char.ofNat 102, Char.ofNat 114, Char.ofNat 111, Char.ofNat 103, Char.ofNat 47, Char.ofNat 108, Char.ofNat 101, Char.ofNat 97, Char.ofNat 112, Char.ofNat 102, Char.ofNat 114, Char.ofNat 111, Char.ofNat 103, Char.ofNat 108, Char.ofNat 97, Char.ofNat 119, Char.ofNat 50, Char.ofNat 50, Char.ofNat 46, Char.ofNat 72, Char.ofNat 105, Char.ofNat 115, Char.ofNat 116, Char.ofNat 78, Char.ofNat 111, Char.ofNat 98, Char.ofNat 111, Char.ofNat 100, Char.ofNat 121, Char.ofNat 32, Char.ofNat 108, Char.ofNat 101, Char.ofNat 97, Char.ofNat 112, Char.ofNat 102, Char.ofNat 114, Char.ofNat 111, Char.ofNat 103, Char.ofNat 47, Char.ofNat 108, Char.ofNat 101, Char.ofNat 97, Char.ofNat 112, Char.ofNat 102, Char.ofNat 114, Char.ofNat 111, Char.ofNat 103, Char.ofNat 108, Char.ofNat 97, Char.ofNat 119, Char.ofNat 50, Char.ofNat 52, Char.ofNat 46, Char.ofNat 76, Char.ofNat 105, Char.ofNat 110, Char.ofNat 78, Char.ofNat 111, Char.ofNat 110, Char.ofNat 101, Char.ofNat 32, Char.ofNat 108, Char.ofNat 101, Char.ofNat 97, Char.ofNat 112, Char.ofNat 102, Char.ofNat 114, Char.ofNat 111, Char.ofNat 103, Char.ofNat 47, Char.ofNat 108, Char.ofNat 101, Char.ofNat 97, Char.ofNat 112, Char.ofNat 102, Char.ofNat 114, Char.ofNat 111, Char.ofNat 103, Char.ofNat 108, Char.ofNat 97, Char.ofNat 119, Char.ofNat 50, Char.ofNat 52, Char.ofNat 46, Char.ofNat 76, Char.ofNat 105, Char.ofNat 110, Char.ofNat 83, Char.ofNat 104, Char.ofNat 111, Char.ofNat 114, Char.ofNat 116, Char.ofNat 101, Char.ofNat 114, Char.ofNat 32, Char.ofNat 108, Char.ofNat 101, Char.ofNat 97, Char.ofNat 112, Char.ofNat 102, Char.ofNat 114, Char.ofNat 111, Char.ofNat 103, Char.ofNat 47, Char.ofNat 108, Char.ofNat 101, Char.ofNat 97, Char.ofNat 112, Char.ofNat 102, Char.ofNat 114, Char.ofNat 111, Char.ofNat 103, Char.ofNat 108, Char.ofNat 97, Char.ofNat 119, Char.ofNat 50, Char.ofNat 52, Char.ofNat 46, Char.ofNat 76, Char.ofNat 105, Char.ofNat 110, Char.ofNat 70, Char.ofNat 111, Char.ofNat 108, Char.ofNat 108, Char.ofNat 111, Char.ofNat 119, Char.ofNat 115, Char.ofNat 32, Char.ofNat 108, Char.ofNat 101, Char.ofNat 97, Char.ofNat 112, Char.ofNat 102, Char.ofNat 114, Char.ofNat 111, Char.ofNat 103, Char.ofNat 47, Char.ofNat 108, Char.ofNat 101, Char.ofNat 97, Char.ofNat 112, Char.ofNat 102, Char.ofNat 114, Char.ofNat 111, Char.ofNat 103, Char.ofNat 108, Char.ofNat 97, Char.ofNat 119, Char.ofNat 50, Char.ofNat 52, Char.ofNat 46, Char.ofNat 76, Char.ofNat 105, Char.ofNat 110, Char.ofNat 84, Char.ofNat 97, Char.ofNat 107, Char.ofNat 101, Char.ofNat 115, Char.ofNat 32, Char.ofNat 108, Char.ofNat 101, Char.ofNat 97, Char.ofNat 112, Char.ofNat 102, Char.ofNat 114, Char.ofNat 111, Char.ofNat 103, Char.ofNat 47, Char.ofNat 108, Char.ofNat 101, Char.ofNat 97, Char.ofNat 112, Char.ofNat 102, Char.ofNat 114, Char.ofNat 111, Char.ofNat 103, Char.ofNat 108, Char.ofNat 97, Char.ofNat 119, Char.ofNat 50, Char.ofNat 52, Char.ofNat 46, Char.ofNat 76, Char.ofNat 105, Char.ofNat 110, Char.ofNat 80, Char.ofNat 97, Char.ofNat 114, Char.ofNat 116, Char.ofNat 115, Char.ofNat 32, Char.ofNat 108, Char.ofNat 101, Char.ofNat 97, Char.ofNat 112, Char.ofNat 102, Char.ofNat 114, Char.ofNat 111, Char.ofNat 103, Char.ofNat 47, Char.ofNat 108, Char.ofNat 101, Char.ofNat 97, Char.ofNat 112, Char.ofNat 102, Char.ofNat 114, Char.ofNat 111, Char.ofNat 103, Char.ofNat 108, Char.ofNat 97, Char.ofNat 119, Char.ofNat 50, Char.ofNat 52, Char.ofNat 46, Char.ofNat 76, Char.ofNat 105, Char.ofNat 110, Char.ofNat 76, Char.ofNat 111, Char.ofNat 99, Char.ofNat 97, Char.ofNat 108, Char.ofNat 32, Char.ofNat 108, Char.ofNat 101, Char.ofNat 97, Char.ofNat 112, Char.ofNat 102, Char.ofNat 114, Char.ofNat 111, Char.ofNat 103, Char.ofNat 47, Char.ofNat 108, Char.ofNat 101, Char.ofNat 97, Char.ofNat 112, Char.ofNat 102, Char.ofNat 114, Char.ofNat 111, Char.ofNat 103, Char.ofNat 108, Char.ofNat 97, Char.ofNat 119, Char.ofNat 50, Char.ofNat 52, Char.ofNat 46, Char.ofNat 76, Char.ofNat 105, Char.ofNat 110, Char.ofNat 87, Char.ofNat 97, Char.ofNat 115]
theorem Try.signs0 : Try.prog.initOrder = String.ofList Try.signL := by kernel_rfl
theorem Try.signs : Try.prog.initOrder.toList = Try.signL := by rw [Try.signs0]; exact String.toList_ofList
set_option maxRecDepth 100000 in
/-- Its words, behind the first three. -/
def Try.wordL : List (List Char) :=
  [[Char.ofNat 97, Char.ofNat 116], [Char.ofNat 108, Char.ofNat 101, Char.ofNat 97, Char.ofNat 112, Char.ofNat 102, Char.ofNat 114, Char.ofNat 111, Char.ofNat 103, Char.ofNat 47, Char.ofNat 108, Char.ofNat 101, Char.ofNat 97, Char.ofNat 112, Char.ofNat 102, Char.ofNat 114, Char.ofNat 111, Char.ofNat 103, Char.ofNat 108, Char.ofNat 97, Char.ofNat 119, Char.ofNat 49, Char.ofNat 48, Char.ofNat 46, Char.ofNat 77, Char.ofNat 111, Char.ofNat 100, Char.ofNat 101, Char.ofNat 108, Char.ofNat 82, Char.ofNat 117, Char.ofNat 110, Char.ofNat 115], [Char.ofNat 108, Char.ofNat 101, Char.ofNat 97, Char.ofNat 112, Char.ofNat 102, Char.ofNat 114, Char.ofNat 111, Char.ofNat 103, Char.ofNat 47, Char.ofNat 108, Char.ofNat 101, Char.ofNat 97, Char.ofNat 112, Char.ofNat 102, Char.ofNat 114, Char.ofNat 111, Char.ofNat 103, Char.ofNat 108, Char.ofNat 97, Char.ofNat 119, Char.ofNat 49, Char.ofNat 48, Char.ofNat 46, Char.ofNat 77, Char.ofNat 111, Char.ofNat 100, Char.ofNat 101, Char.ofNat 108, Char.ofNat 65, Char.ofNat 112, Char.ofNat 97, Char.ofNat 114, Char.ofNat 116], [Char.ofNat 108, Char.ofNat 101, Char.ofNat 97, Char.ofNat 112, Char.ofNat 102, Char.ofNat 114, Char.ofNat 111, Char.ofNat 103, Char.ofNat 47, Char.ofNat 108, Char.ofNat 101, Char.ofNat 97, Char.ofNat 112, Char.ofNat 102, Char.ofNat 114, Char.ofNat 111, Char.ofNat 103, Char.ofNat 108, Char.ofNat 97, Char.ofNat 119, Char.ofNat 49, Char.ofNat 48, Char.ofNat 46, Char.ofNat 77, Char.ofNat 111, Char.ofNat 100, Char.ofNat 101, Char.ofNat 108, Char.ofNat 79, Char.ofNat 110, Char.ofNat 101], [Char.ofNat 108, Char.ofNat 101, Char.ofNat 97, Char.ofNat 112, Char.ofNat 102, Char.ofNat 114, Char.ofNat 111, Char.ofNat 103, Char.ofNat 47, Char.ofNat 108, Char.ofNat 101, Char.ofNat 97, Char.ofNat 112, Char.ofNat 102, Char.ofNat 114, Char.ofNat 111, Char.ofNat 103, Char.ofNat 108, Char.ofNat 97, Char.ofNat 119, Char.ofNat 49, Char.ofNat 48, Char.ofNat 46, Char.ofNat 77, Char.ofNat 111, Char.ofNat 100, Char.ofNat 101, Char.ofNat 108, Char.ofNat 82, Char.ofNat 101, Char.ofNat 97, Char.ofNat 100, Char.ofNat 115], [Char.ofNat 108, Char.ofNat 101, Char.ofNat 97, Char.ofNat 112, Char.ofNat 102, Char.ofNat 114, Char.ofNat 111, Char.ofNat 103, Char.ofNat 47, Char.ofNat 108, Char.ofNat 101, Char.ofNat 97, Char.ofNat 112, Char.ofNat 102, Char.ofNat 114, Char.ofNat 111, Char.ofNat 103, Char.ofNat 108, Char.ofNat 97, Char.ofNat 119, Char.ofNat 49, Char.ofNat 48, Char.ofNat 46, Char.ofNat 77, Char.ofNat 111, Char.ofNat 100, Char.ofNat 101, Char.ofNat 108, Char.ofNat 70, Char.ofNat 111, Char.ofNat 114, Char.ofNat 109, Char.ofNat 115], [Char.ofNat 108, Char.ofNat 101, Char.ofNat 97, Char.ofNat 112, Char.ofNat 102, Char.ofNat 114, Char.ofNat 111, Char.ofNat 103, Char.ofNat 47, Char.ofNat 108, Char.ofNat 101, Char.ofNat 97, Char.ofNat 112, Char.ofNat 102, Char.ofNat 114, Char.ofNat 111, Char.ofNat 103, Char.ofNat 108, Char.ofNat 97, Char.ofNat 119, Char.ofNat 49, Char.ofNat 48, Char.ofNat 46, Char.ofNat 77, Char.ofNat 111, Char.ofNat 100, Char.ofNat 101, Char.ofNat 108, Char.ofNat 68, Char.ofNat 111, Char.ofNat 101, Char.ofNat 115], [Char.ofNat 108, Char.ofNat 101, Char.ofNat 97, Char.ofNat 112, Char.ofNat 102, Char.ofNat 114, Char.ofNat 111, Char.ofNat 103, Char.ofNat 47, Char.ofNat 108, Char.ofNat 101, Char.ofNat 97, Char.ofNat 112, Char.ofNat 102, Char.ofNat 114, Char.ofNat 111, Char.ofNat 103, Char.ofNat 108, Char.ofNat 97, Char.ofNat 119, Char.ofNat 50, Char.ofNat 50, Char.ofNat 46, Char.ofNat 72, Char.ofNat 105, Char.ofNat 115, Char.ofNat 116, Char.ofNat 84, Char.ofNat 114, Char.ofNat 117, Char.ofNat 101], [Char.ofNat 108, Char.ofNat 101, Char.ofNat 97, Char.ofNat 112, Char.ofNat 102, Char.ofNat 114, Char.ofNat 111, Char.ofNat 103, Char.ofNat 47, Char.ofNat 108, Char.ofNat 101, Char.ofNat 97, Char.ofNat 112, Char.ofNat 102, Char.ofNat 114, Char.ofNat 111, Char.ofNat 103, Char.ofNat 108, Char.ofNat 97, Char.ofNat 119, Char.ofNat 50, Char.ofNat 50, Char.ofNat 46, Char.ofNat 72, Char.ofNat 105, Char.ofNat 115, Char.ofNat 116, Char.ofNat 79, Char.ofNat 114, Char.ofNat 100, Char.ofNat 101, Char.ofNat 114], [Char.ofNat 108, Char.ofNat 101, Char.ofNat 97, Char.ofNat 112, Char.ofNat 102, Char.ofNat 114, Char.ofNat 111, Char.ofNat 103, Char.ofNat 47, Char.ofNat 108, Char.ofNat 101, Char.ofNat 97, Char.ofNat 112, Char.ofNat 102, Char.ofNat 114, Char.ofNat 111, Char.ofNat 103, Char.ofNat 108, Char.ofNat 97, Char.ofNat 119, Char.ofNat 50, Char.ofNat 50, Char.ofNat 46, Char.ofNat 72, Char.ofNat 105, Char.ofNat 115, Char.ofNat 116, Char.ofNat 82, Char.ofNat 117, Char.ofNat 110, Char.ofNat 115], [Char.ofNat 108, Char.ofNat 101, Char.ofNat 97, Char.ofNat 112, Char.ofNat 102, Char.ofNat 114, Char.ofNat 111, Char.ofNat 103, Char.ofNat 47, Char.ofNat 108, Char.ofNat 101, Char.ofNat 97, Char.ofNat 112, Char.ofNat 102, Char.ofNat 114, Char.ofNat 111, Char.ofNat 103, Char.ofNat 108, Char.ofNat 97, Char.ofNat 119, Char.ofNat 50, Char.ofNat 50, Char.ofNat 46, Char.ofNat 72, Char.ofNat 105, Char.ofNat 115, Char.ofNat 116, Char.ofNat 70, Char.ofNat 117, Char.ofNat 108, Char.ofNat 108], [Char.ofNat 108, Char.ofNat 101, Char.ofNat 97, Char.ofNat 112, Char.ofNat 102, Char.ofNat 114, Char.ofNat 111, Char.ofNat 103, Char.ofNat 47, Char.ofNat 108, Char.ofNat 101, Char.ofNat 97, Char.ofNat 112, Char.ofNat 102, Char.ofNat 114, Char.ofNat 111, Char.ofNat 103, Char.ofNat 108, Char.ofNat 97, Char.ofNat 119, Char.ofNat 50, Char.ofNat 50, Char.ofNat 46, Char.ofNat 72, Char.ofNat 105, Char.ofNat 115, Char.ofNat 116, Char.ofNat 78, Char.ofNat 111, Char.ofNat 98, Char.ofNat 111, Char.ofNat 100, Char.ofNat 121], [Char.ofNat 108, Char.ofNat 101, Char.ofNat 97, Char.ofNat 112, Char.ofNat 102, Char.ofNat 114, Char.ofNat 111, Char.ofNat 103, Char.ofNat 47, Char.ofNat 108, Char.ofNat 101, Char.ofNat 97, Char.ofNat 112, Char.ofNat 102, Char.ofNat 114, Char.ofNat 111, Char.ofNat 103, Char.ofNat 108, Char.ofNat 97, Char.ofNat 119, Char.ofNat 50, Char.ofNat 52, Char.ofNat 46, Char.ofNat 76, Char.ofNat 105, Char.ofNat 110, Char.ofNat 78, Char.ofNat 111, Char.ofNat 110, Char.ofNat 101], [Char.ofNat 108, Char.ofNat 101, Char.ofNat 97, Char.ofNat 112, Char.ofNat 102, Char.ofNat 114, Char.ofNat 111, Char.ofNat 103, Char.ofNat 47, Char.ofNat 108, Char.ofNat 101, Char.ofNat 97, Char.ofNat 112, Char.ofNat 102, Char.ofNat 114, Char.ofNat 111, Char.ofNat 103, Char.ofNat 108, Char.ofNat 97, Char.ofNat 119, Char.ofNat 50, Char.ofNat 52, Char.ofNat 46, Char.ofNat 76, Char.ofNat 105, Char.ofNat 110, Char.ofNat 83, Char.ofNat 104, Char.ofNat 111, Char.ofNat 114, Char.ofNat 116, Char.ofNat 101, Char.ofNat 114], [Char.ofNat 108, Char.ofNat 101, Char.ofNat 97, Char.ofNat 112, Char.ofNat 102, Char.ofNat 114, Char.ofNat 111, Char.ofNat 103, Char.ofNat 47, Char.ofNat 108, Char.ofNat 101, Char.ofNat 97, Char.ofNat 112, Char.ofNat 102, Char.ofNat 114, Char.ofNat 111, Char.ofNat 103, Char.ofNat 108, Char.ofNat 97, Char.ofNat 119, Char.ofNat 50, Char.ofNat 52, Char.ofNat 46, Char.ofNat 76, Char.ofNat 105, Char.ofNat 110, Char.ofNat 70, Char.ofNat 111, Char.ofNat 108, Char.ofNat 108, Char.ofNat 111, Char.ofNat 119, Char.ofNat 115], [Char.ofNat 108, Char.ofNat 101, Char.ofNat 97, Char.ofNat 112, Char.ofNat 102, Char.ofNat 114, Char.ofNat 111, Char.ofNat 103, Char.ofNat 47, Char.ofNat 108, Char.ofNat 101, Char.ofNat 97, Char.ofNat 112, Char.ofNat 102, Char.ofNat 114, Char.ofNat 111, Char.ofNat 103, Char.ofNat 108, Char.ofNat 97, Char.ofNat 119, Char.ofNat 50, Char.ofNat 52, Char.ofNat 46, Char.ofNat 76, Char.ofNat 105, Char.ofNat 110, Char.ofNat 84, Char.ofNat 97, Char.ofNat 107, Char.ofNat 101, Char.ofNat 115], [Char.ofNat 108, Char.ofNat 101, Char.ofNat 97, Char.ofNat 112, Char.ofNat 102, Char.ofNat 114, Char.ofNat 111, Char.ofNat 103, Char.ofNat 47, Char.ofNat 108, Char.ofNat 101, Char.ofNat 97, Char.ofNat 112, Char.ofNat 102, Char.ofNat 114, Char.ofNat 111, Char.ofNat 103, Char.ofNat 108, Char.ofNat 97, Char.ofNat 119, Char.ofNat 50, Char.ofNat 52, Char.ofNat 46, Char.ofNat 76, Char.ofNat 105, Char.ofNat 110, Char.ofNat 80, Char.ofNat 97, Char.ofNat 114, Char.ofNat 116, Char.ofNat 115], [Char.ofNat 108, Char.ofNat 101, Char.ofNat 97, Char.ofNat 112, Char.ofNat 102, Char.ofNat 114, Char.ofNat 111, Char.ofNat 103, Char.ofNat 47, Char.ofNat 108, Char.ofNat 101, Char.ofNat 97, Char.ofNat 112, Char.ofNat 102, Char.ofNat 114, Char.ofNat 111, Char.ofNat 103, Char.ofNat 108, Char.ofNat 97, Char.ofNat 119, Char.ofNat 50, Char.ofNat 52, Char.ofNat 46, Char.ofNat 76, Char.ofNat 105, Char.ofNat 110, Char.ofNat 76, Char.ofNat 111, Char.ofNat 99, Char.ofNat 97, Char.ofNat 108], [Char.ofNat 108, Char.ofNat 101, Char.ofNat 97, Char.ofNat 112, Char.ofNat 102, Char.ofNat 114, Char.ofNat 111, Char.ofNat 103, Char.ofNat 47, Char.ofNat 108, Char.ofNat 101, Char.ofNat 97, Char.ofNat 112, Char.ofNat 102, Char.ofNat 114, Char.ofNat 111, Char.ofNat 103, Char.ofNat 108, Char.ofNat 97, Char.ofNat 119, Char.ofNat 50, Char.ofNat 52, Char.ofNat 46, Char.ofNat 76, Char.ofNat 105, Char.ofNat 110, Char.ofNat 87, Char.ofNat 97, Char.ofNat 115]]
theorem Try.words : behindMainWord (wordsSigns Try.prog.initOrder.toList) = "cut".toList :: Try.wordL := by
  rw [Try.signs]
  kernel_rfl
theorem Try.strip : stripLifts liftWords ("cut".toList :: Try.wordL) = ([], "cut".toList :: Try.wordL) := by kernel_rfl
theorem ne_gc : ("cut".toList == "gc".toList) = false := by decide
theorem ne_spec : ("cut".toList == "spec".toList) = false := by decide
theorem ne_carried : ("cut".toList == "carried".toList) = false := by decide
theorem headLifts_of {P : Program} {r : List (List Char)} (h : behindMainWord (wordsSigns P.initOrder.toList) = "cut".toList :: r) (h1 : stripLifts liftWords ("cut".toList :: r) = ([], "cut".toList :: r)) : P.headLifts = [] := by
  unfold Program.headLifts
  rw [h, h1]
  simp only
  split <;> rfl
theorem make_of {P : Program} {r : List (List Char)} (h : behindMainWord (wordsSigns P.initOrder.toList) = "cut".toList :: r) : P.make = some .cut := by
  unfold Program.make
  rw [h]
  simp only [ne_gc, ne_spec, Bool.or_self, Bool.false_eq_true, if_false, beq_self_eq_true, Bool.true_or, if_true]
theorem liftsFinal_of {P : Program} {r : List (List Char)} (h : behindMainWord (wordsSigns P.initOrder.toList) = "cut".toList :: r) (h1 : P.headLifts = []) : P.liftsFinal = false := by
  unfold Program.liftsFinal
  rw [h, h1]
  have e : (some "cut".toList == some "carried".toList) = false := by decide
  simp only [List.head?_cons, e, Bool.false_and, List.contains_nil, Bool.or_self]
theorem mayEnter_of {P : Program} {r : List (List Char)} (h : behindMainWord (wordsSigns P.initOrder.toList) = "cut".toList :: r) (h1 : stripLifts liftWords ("cut".toList :: r) = ([], "cut".toList :: r))
    (h2 : P.laysLater = false) (h3 : P.bearsReflect = false) (h4 : P.doorFits [] = true) : P.mayEnter = true := by
  unfold Program.mayEnter
  rw [h]
  simp only [h1, h2, h3, h4, ne_gc, ne_spec, ne_carried, Bool.or_self, Bool.false_and, List.head?_cons, beq_self_eq_true, Bool.not_false, Bool.or_true, Bool.and_true, List.contains_nil]
theorem Try.headLiftsL : Try.prog.headLifts = [] := headLifts_of Try.words Try.strip
theorem Try.mayEnterL : Try.prog.mayEnter = true := mayEnter_of Try.words Try.strip (by kernel_rfl) (by kernel_rfl) (by kernel_rfl)
theorem Try.liftsFinalL : Try.prog.liftsFinal = false := liftsFinal_of Try.words Try.headLiftsL
theorem Try.makeL : Try.prog.make = some .cut := make_of Try.words

section
variable {w : World}
theorem from35 : From Try.prog w kI 35 := From.int Try.underlying35 (by kernel_rfl)
theorem from27 : From Try.prog w kI 27 := From.int Try.underlying27 (by kernel_rfl)
theorem from36 : From Try.prog w kU 36 := From.int Try.underlying36 (by kernel_rfl)
theorem from4 : From Try.prog w kBool 4 := From.bool Try.underlying4 (by kernel_rfl)
theorem from37 : From Try.prog w (kRow kByte 1) 37 := From.slice Try.underlying37 (by kernel_rfl) (From.byte Try.underlying5 (by kernel_rfl)) (by kernel_rfl)
theorem from60 : From Try.prog w kItem 60 := From.struct Try.underlying60 (by kernel_rfl) (FromFs.cons from36 rfl rfl (FromFs.one from37 rfl))
theorem from22 : From Try.prog w (kRow kItem 32) 22 := From.slice Try.underlying22 (by kernel_rfl) from60 (by kernel_rfl)
theorem from39 : From Try.prog w kCall 39 := From.struct Try.underlying39 (by kernel_rfl) (FromFs.cons from35 rfl rfl (FromFs.cons from36 rfl rfl (FromFs.cons from36 rfl rfl (FromFs.one from37 rfl))))
theorem from23 : From Try.prog w (kRow kCall 48) 23 := From.slice Try.underlying23 (by kernel_rfl) from39 (by kernel_rfl)
end
end Go.Proofs.Ytplhcfaonhkegaa

namespace Go.Proofs.Ytplhcfaonhkegaa
open Go.ChangeShapes Go.WideShapes Go.ChangeAt Go.RowKit

set_option maxRecDepth 100000 in
/-- A slice argument. -/
theorem slice_arg {α : Type} {k : Kd α} {B : Nat} {W : World} {base : Nat} {t e : TypeId} {v : Value} {H : Type} {enc : TypeId × Value → H} {d : DataW H} {p : List MemPlace} (ht : Try.prog.underlying t = some (.slice e))
    (hv : Value.okWide Try.prog W .any base t v) (hf : From Try.prog W (kRow k B) t) (h : DataW.Trod enc Try.prog W 0 (fun _ => true) true t v d p) (hw : Fit Try.prog t d) : ∃ x, Sl k All W v x ∧ x.length * B ≤ reachBytes := by
  obtain ⟨x, u, hu, hs⟩ := hf.arg h hw
  obtain ⟨a, l, c, rfl⟩ := okWide_slice ht hv
  have e : u = .slice a l c := by
    have := hu
    simp [Value.cells] at this
    exact this.symm
  subst e
  exact ⟨x, hs.1.all, hs.2⟩
set_option maxRecDepth 100000 in
/-- A call as an argument. -/
theorem call_arg {W : World} {base : Nat} {v : Value} {H : Type} {enc : TypeId × Value → H} {d : DataW H} {p : List MemPlace}
    (hv : Value.okWide Try.prog W .any base 39 v) (h : DataW.Trod enc Try.prog W 0 (fun _ => true) true 39 v d p) (hw : Fit Try.prog 39 d) :
    ∃ (c : MCall) (a : Option Addr) (n : Nat), v = .agg #[.int .i64 c.1, .int .u64 c.2.1, .int .u64 c.2.2.1, .slice a c.2.2.2.length n] ∧ Sl kByte All W (.slice a c.2.2.2.length n) c.2.2.2 ∧ c.2.2.2.length ≤ reachBytes ∧
      (0 ≤ c.2.1 ∧ c.2.1 ≤ 18446744073709551615) ∧ (0 ≤ c.2.2.1 ∧ c.2.2.1 ≤ 18446744073709551615) ∧ (Lit.int .i64 c.1).wf = true := by
  obtain ⟨cs, rfl, hcs⟩ := agg_cells Try.underlying39 hv
  obtain ⟨x, hx⟩ := (from39 (w := W)).arg h hw
  rw [hcs] at hx
  obtain ⟨u, hc, hu, h1, h2, h3, h4⟩ := call_cells hx
  obtain ⟨va, vc, rfl, _⟩ := hu.frm
  refine ⟨x, va, vc, ?_, hu.all, h1, h2, h3, h4⟩
  congr 1
  apply Array.toList_inj.1
  exact hc

section
variable {w : World}
theorem from3 : From Try.prog w kI 3 := From.int Try.underlying3 (by kernel_rfl)
theorem from44 : From Try.prog w kI 44 := From.int Try.underlying44 (by kernel_rfl)
theorem from46 : From Try.prog w (kPair kI kU) 46 := From.struct Try.underlying46 (by kernel_rfl) (FromFs.cons from44 rfl rfl (FromFs.one from36 rfl))
theorem from48 : From Try.prog w (kPair kI kU) 48 := From.struct Try.underlying48 (by kernel_rfl) (FromFs.cons from3 rfl rfl (FromFs.one from36 rfl))
theorem from50 : From Try.prog w kRef 50 := From.struct Try.underlying50 (by kernel_rfl) (FromFs.cons from3 rfl rfl (FromFs.cons from46 rfl rfl (FromFs.one from48 rfl)))
theorem from52 : From Try.prog w kRes 52 := From.struct Try.underlying52 (by kernel_rfl) (FromFs.cons from27 rfl rfl (FromFs.cons from36 rfl rfl (FromFs.cons from37 rfl rfl (FromFs.cons from22 rfl rfl (FromFs.cons from50 rfl rfl (FromFs.cons from50 rfl rfl (FromFs.one from4 rfl)))))))
end
set_option maxRecDepth 100000 in
/-- A result as an argument. -/
theorem res_arg {W : World} {base : Nat} {v : Value} {H : Type} {enc : TypeId × Value → H} {d : DataW H} {p : List MemPlace}
    (hv : Value.okWide Try.prog W .any base 52 v) (h : DataW.Trod enc Try.prog W 0 (fun _ => true) true 52 v d p) (hw : Fit Try.prog 52 d) :
    ∃ (r : MRes) (u vv : Value), v = .agg (resCells r u vv).toArray ∧ Sl kByte All W u r.2.2.1 ∧ Sl kItem All W vv r.2.2.2.1 := by
  obtain ⟨cs, rfl, hcs⟩ := agg_cells Try.underlying52 hv
  obtain ⟨x, hx⟩ := (from52 (w := W)).arg h hw
  rw [hcs] at hx
  obtain ⟨u, vv, hc, hu, _, hv2, _⟩ := res_cells hx
  refine ⟨x, u, vv, ?_, hu.all, hv2.all⟩
  congr 1
  apply Array.toList_inj.1
  exact hc
end Go.Proofs.Ytplhcfaonhkegaa

namespace Go.Proofs.Ytplhcfaonhkegaa
open Go.ChangeShapes Go.WideShapes Go.ChangeAt Go.RowKit

section
variable {w : World}
theorem from76 : From Try.prog w kHap 76 := From.struct Try.underlying76 (by kernel_rfl) (FromFs.cons from39 rfl rfl (FromFs.cons from52 rfl rfl (FromFs.cons from3 rfl rfl (FromFs.cons from3 rfl rfl (FromFs.cons from4 rfl rfl (FromFs.one from4 rfl))))))
theorem from71 : From Try.prog w (kRow kHap 224) 71 := From.slice Try.underlying71 (by kernel_rfl) from76 (by kernel_rfl)
theorem from73 : From Try.prog w (kRow kI 8) 73 := From.slice Try.underlying73 (by kernel_rfl) from3 (by kernel_rfl)
end
end Go.Proofs.Ytplhcfaonhkegaa

namespace Go.Proofs.Ytplhcfaonhkegaa
open Go.RowKit Go.Maps

set_option maxRecDepth 100000 in
set_option maxHeartbeats 4000000 in
theorem rorder_any {w : World} {u : Value} {l : List MHap} (hl : Sl kHap All w u l) :
    Calls Try.prog 103 #[u] w fun e w' => ∃ v, e = .returned (.tuple #[v, .bool (lOrder l).2.1, .int .i64 (lOrder l).2.2]) ∧ Sl kI All w' v (lOrder l).1 ∧ Fr Non w w' := by
  obtain ⟨ua, uc, rfl, _⟩ := hl.frm
  have HC := Lib.hid (lrcheck_any hl)
  have HL := Lib.hid hl
  clear hl
  obtain ⟨R, hR⟩ : ∃ R, lOrder l = R := ⟨_, rfl⟩
  have HR := Lib.hid (show R = if lCheck l = 0 then (match lLook l (l.length + 1) 0 [] [] ([], false) with
      | (s, r) => if s.2 then ([], false, 3) else (r.getD [], r.isSome, 0)) else ([], false, lCheck l) from hR.symm)
  rw [hR]
  clear hR
  go_enter Try.func103, Try.ntmps103
  go_wp2_with fail
  refine HC.out.mono ?_
  rintro e w1 ⟨rfl, f1⟩
  have HL1 := Lib.hid (HL.out.stay f1)
  have F1 := Lib.hid f1
  clear f1 HC HL
  by_cases hc : lCheck l = 0
  rotate_left
  · have n0 : (lCheck l != 0) = true := by simpa using hc
    have HE := Lib.hid (show R = ([], false, lCheck l) by rw [HR.out, if_neg hc])
    obtain ⟨C, hC⟩ : ∃ C, lCheck l = C := ⟨_, rfl⟩
    rw [hC] at n0 HE ⊢
    clear hc hC HR
    go_wp2_with fail
    refine bodyPost_ret (v := .tuple #[.slice none 0 0, .bool false, .int .i64 C]) (by simp [results, Try.results103, go_sem]) rfl ⟨.slice none 0 0, by rw [HE.out], by rw [HE.out]; exact .inl ⟨rfl, rfl⟩, F1.out⟩
  obtain ⟨h64, hmay⟩ := lCheck_iff.1 hc
  replace HR := Lib.hid (show R = (match lLook l (l.length + 1) 0 [] [] ([], false) with
      | (s, r) => if s.2 then ([], false, 3) else (r.getD [], r.isSome, 0)) by rw [HR.out, if_pos hc])
  rw [hc]
  clear hc
  obtain ⟨w2, hw2⟩ : ∃ w2, w1.alloc (.cells #[.slice ua l.length uc, .slice none 0 0, .bool false] 177) = w2 := ⟨_, rfl⟩
  have f2 : Fr Non w1 w2 := by rw [← hw2]; exact (Fr.refl _ _).alloc _
  have b2 : w2.heap[w1.heap.size]? = some (.cells #[.slice ua l.length uc, .slice none 0 0, .bool false] 177 (0, 0)) := by rw [← hw2]; exact alloc_at w1 _
  obtain ⟨D, hD⟩ : ∃ D, w1.heap.size = D := ⟨_, rfl⟩
  rw [hD] at b2
  have s2 : SearchR w2 D (.slice ua l.length uc) (.slice none 0 0) l.length ([], false) := ⟨b2, BuildS.nil _ _ _ _, fun p hp => by cases hp⟩
  have HS := Lib.hid s2
  have HLD := Lib.hid ((HL1.out.there.fr (fun b hb _ => f2.block b hb id) (S' := Apart D (.slice none 0 0)) (fun b hb _ => ⟨fun e => (by cases e), by omega⟩)))
  have HB := Lib.hid (beginS_any w2 l.length (by omega))
  have HSZ := Lib.hid (show w.heap.size ≤ D ∧ D < w2.heap.size from ⟨hD ▸ F1.out.size, lt_of_block b2⟩)
  have F2 := Lib.hid (F1.out.trans f2)
  clear f2 b2 s2 F1 HL1
  go_wp2_with fail
  refine HB.out.mono ?_
  rintro e w3 ⟨dv, rfl, hdv, f3⟩
  have HLK := Lib.hid (rlook_any h64 hmay (l.length + 1) w3 D (.slice ua l.length uc) (.slice none 0 0) dv (.slice none 0 0) (.slice none 0 0) [] [] 0 ([], false) (HS.out.fr f3) (HLD.out.stay f3) (hdv.mono fun b _ hb => ⟨fun e => (by cases e), by have := HSZ.out; omega⟩) (.inl ⟨rfl, rfl⟩) (.inl ⟨rfl, rfl⟩) (by simp; omega) (by simp; omega) (Nat.two_pow_pos _) (by have := lUnset_le 0 l.length; omega))
  have F3 := Lib.hid (F2.out.trans f3)
  clear f3 hdv HS HLD HB F2
  go_wp2_with fail
  refine HLK.out.mono ?_
  rintro e w4 ⟨r, b, rfl, sv, hs4, f4, -, hr⟩
  obtain ⟨⟨⟨s1, s2⟩, q⟩, hX⟩ : ∃ X, lLook l (l.length + 1) 0 [] [] ([], false) = X := ⟨_, rfl⟩
  rw [hX] at hr hs4
  replace HR := Lib.hid (show R = if s2 then ([], false, 3) else (q.getD [], q.isSome, 0) by rw [HR.out, hX])
  have F4 := Lib.hid (F3.out.trans2 f4 (fun b hb he => by
    have := HSZ.out
    rcases he with he | he
    · omega
    · cases he))
  obtain ⟨q1, _⟩ := box_facts hs4.1
  simp only at hr
  clear HLK hX F3 f4 hs4 HSZ
  cases q with
  | none =>
    obtain ⟨rfl, rfl⟩ := hr
    cases s2 with
    | true =>
      have HE := Lib.hid (show R = ([], false, 3) by rw [HR.out]; rfl)
      go_wp2_with fail
      refine bodyPost_ret (v := .tuple #[.slice none 0 0, .bool false, .int .i64 3]) (by simp [results, Try.results103, go_sem]) rfl ⟨.slice none 0 0, by rw [HE.out], by rw [HE.out]; exact .inl ⟨rfl, rfl⟩, F4.out⟩
    | false =>
      have HE := Lib.hid (show R = ([], false, 0) by rw [HR.out]; rfl)
      go_wp2_with fail
      refine bodyPost_ret (v := .tuple #[.slice none 0 0, .bool false, .int .i64 0]) (by simp [results, Try.results103, go_sem]) rfl ⟨.slice none 0 0, by rw [HE.out], by rw [HE.out]; exact .inl ⟨rfl, rfl⟩, F4.out⟩
  | some q =>
    obtain ⟨rfl, hq⟩ := hr
    obtain ⟨qa, qc, rfl, _⟩ := hq.frm
    have HQ := Lib.hid hq
    clear hq
    cases s2 with
    | true =>
      have HE := Lib.hid (show R = ([], false, 3) by rw [HR.out]; rfl)
      go_wp2_with fail
      refine bodyPost_ret (v := .tuple #[.slice none 0 0, .bool false, .int .i64 3]) (by simp [results, Try.results103, go_sem]) rfl ⟨.slice none 0 0, by rw [HE.out], by rw [HE.out]; exact .inl ⟨rfl, rfl⟩, F4.out⟩
    | false =>
      have HE := Lib.hid (show R = (q, true, 0) by rw [HR.out]; rfl)
      go_wp2_with fail
      refine bodyPost_ret (v := .tuple #[.slice qa q.length qc, .bool true, .int .i64 0]) (by simp [results, Try.results103, go_sem]) rfl ⟨.slice qa q.length qc, by rw [HE.out], by rw [HE.out]; exact HQ.out.mono fun _ _ _ => trivial, F4.out⟩
end Go.Proofs.Ytplhcfaonhkegaa

namespace Go.Proofs.Ytplhcfaonhkegaa
open Go.RowKit Go.Maps

set_option maxRecDepth 100000 in
set_option maxHeartbeats 4000000 in
theorem rlinear_any {w : World} {u : Value} {L : List MHap} (hl : Sl kHap All w u L) :
    Calls Try.prog 68 #[u] w fun e w' => e = .returned (.tuple #[.bool (lLinear L).1, .int .i64 (lLinear L).2]) ∧ Fr Non w w' := by
  obtain ⟨ua, uc, rfl, _⟩ := hl.frm
  have HP := Lib.hid (rparts_any hl)
  have HL := Lib.hid hl
  have HIN := Lib.hid (lParts_in (l := L))
  have HLEN := Lib.hid (lParts_len (l := L))
  clear hl
  obtain ⟨R, hR⟩ : ∃ R, lLinear L = R := ⟨_, rfl⟩
  have HR := Lib.hid (show R = if (lParts L).2 = 0 then lLinFold L true (lParts L).1 else (false, (lParts L).2) from hR.symm)
  rw [hR]
  clear hR
  obtain ⟨PP, hPP⟩ : ∃ P, lParts L = P := ⟨_, rfl⟩
  rw [hPP] at HP HR HIN HLEN
  clear hPP
  obtain ⟨Ps, pe⟩ := PP
  simp only at HP HR HIN HLEN
  go_enter Try.func68, Try.ntmps68
  go_wp2_with fail
  refine HP.out.mono ?_
  rintro e w1 ⟨pv, rfl, hps, f1⟩
  obtain ⟨pa, pc, rfl, _, hpx, _⟩ := hps.frm
  unfold maxLen at hpx
  have HPS := Lib.hid hps
  have F1 := Lib.hid f1
  clear f1 hps HP
  by_cases hc : pe = 0
  rotate_left
  · have n0 : (pe != 0) = true := by simpa using hc
    have HE := Lib.hid (show R = (false, pe) by rw [HR.out, if_neg hc])
    clear HR
    go_wp2_with fail
    refine bodyPost_ret (v := .tuple #[.bool false, .int .i64 pe]) (by simp [results, Try.results68, go_sem]) rfl ⟨by rw [HE.out], F1.out⟩
  subst hc
  have hlen := HLEN.out rfl
  have hPl : Ps.length ≤ 65 := by have := HIN.out.1; omega
  replace HR := Lib.hid (show R = lLinFold L true Ps by rw [HR.out, if_pos rfl])
  go_wp2_with fail
  go_loopw [6, 7] (fun av iv wr => ∃ (j : Nat) (all : Bool), j ≤ Ps.length ∧ iv = .int .i64 j ∧ av = .bool all ∧ Hid (Fr Non w1 wr ∧ R = lLinFold L all (Ps.drop j))) (fun _ iv _ => Ps.length - (intOf iv).toNat)
  case atStart => exact ⟨0, true, by omega, rfl, rfl, Fr.refl _ _, HR.out⟩
  case round =>
    obtain ⟨j, all, hj, rfl, rfl, HI⟩ := hrel
    have j0 : (0 : Int) ≤ (j : Int) := by omega
    have FR := Lib.hid HI.out.1
    by_cases hlt : j < Ps.length
    · have j1 : (j : Int) < (Ps.length : Int) := by omega
      have HRJ := Lib.hid (show R = _ from HI.out.2.trans (lLinFold_drop (l := L) (all := all) hlt))
      obtain ⟨b, a, cs, e, _, _, _, hr, hcs⟩ := (HPS.out.stay FR.out).at j hlt
      cases e
      obtain ⟨v, rfl, hsv, _⟩ := hr
      have q0 := hcs 0 (by simp)
      have hsz : kRowI.sz = 1 := rfl
      rw [hsz] at q0
      simp only [Nat.mul_one, Nat.add_zero, List.getElem_cons_zero] at q0
      obtain ⟨hpn, hpi⟩ := HIN.out.2 Ps[j] (List.getElem_mem hlt)
      obtain ⟨p, hp⟩ : ∃ p, Ps[j] = p := ⟨_, rfl⟩
      rw [hp] at hsv HRJ hpn hpi
      obtain ⟨sa, sc, rfl, _⟩ := hsv.frm
      have HPK := Lib.hid (pick_any ((HL.out.stay F1.out).stay FR.out) hsv (by omega) hpi)
      have HRJ2 := Lib.hid HRJ.out
      clear hcs hsz hp hsv hpi HI HRJ HR
      go_wp2_with fail
      refine HPK.out.mono ?_
      rintro e w4 ⟨v4, rfl, hv4, f4⟩
      obtain ⟨v4a, v4c, rfl, _⟩ := hv4.frm
      obtain ⟨Y, hY⟩ : ∃ Y, lPickI L p = Y := ⟨_, rfl⟩
      rw [hY] at hv4 HRJ2 ⊢
      have HV4 := Lib.hid hv4
      have F4 := Lib.hid (FR.out.trans f4)
      clear hv4 hY f4 HPK q0
      go_wp2_with fail
      refine (rorder_any HV4.out).mono ?_
      rintro e w5 ⟨v5, rfl, hv5, f5⟩
      obtain ⟨v5a, v5c, rfl, _⟩ := hv5.frm
      obtain ⟨O, hO⟩ : ∃ O, lOrder Y = O := ⟨_, rfl⟩
      rw [hO] at HRJ2 ⊢
      obtain ⟨o5, ok5, er5⟩ := O
      simp only at HRJ2 ⊢
      have F5 := Lib.hid (F4.out.trans f5)
      clear hO hv5 f5 HV4 F4
      by_cases h0 : er5 = 0
      rotate_left
      · have n0 : (er5 != 0) = true := by simpa using h0
        have HE := Lib.hid (show R = (false, er5) by rw [HRJ2.out, if_neg h0])
        go_wp2_with fail
        refine bodyPost_ret (v := .tuple #[.bool false, .int .i64 er5]) (by simp [results, Try.results68, go_sem]) rfl ⟨by rw [HE.out], F1.out.trans F5.out⟩
      subst h0
      have HE := Lib.hid (show R = lLinFold L (all && ok5) (Ps.drop (j + 1)) by rw [HRJ2.out, if_pos rfl])
      cases all with
      | false =>
        go_wp2_with fail
        go_roundw
        case rel => exact ⟨j + 1, false, by omega, by go_num, rfl, F5.out, by rw [HE.out]; rfl⟩
        case measure => simp [intOf]; omega
      | true =>
        go_wp2_with fail
        go_roundw
        case rel => exact ⟨j + 1, ok5, by omega, by go_num, rfl, F5.out, by rw [HE.out]; rfl⟩
        case measure => simp [intOf]; omega
    · obtain rfl : j = Ps.length := by omega
      have HE := Lib.hid (show R = (all, 0) by rw [HI.out.2, List.drop_length, lLinFold])
      clear HR HI
      go_wp2_with fail
      refine bodyPost_ret (v := .tuple #[.bool all, .int .i64 0]) (by simp [results, Try.results68, go_sem]) rfl ⟨by rw [HE.out], F1.out.trans FR.out⟩
end Go.Proofs.Ytplhcfaonhkegaa

namespace Go.Proofs.Ytplhcfaonhkegaa
open Go.RowKit Go.Maps

/-- A row of a row of rows, held. -/
theorem rowI_at {w : World} {a : Option Addr} {n c : Nat} {l : List (List Int)} (h : Sl kRowI All w (.slice a n c) l) (j : Nat) (hj : j < l.length) :
    ∃ B O sa sc, a = some ⟨B, O, none⟩ ∧ Sl kI All w (.slice sa l[j].length sc) l[j] ∧ ∀ y, Fr Non w y → y.cell? ⟨B, O + j, none⟩ = some (.slice sa l[j].length sc) := by
  obtain ⟨b, o, cs, rfl, _, _, _, hr, hc⟩ := h.at j hj
  obtain ⟨v, rfl, hsv, _⟩ := hr
  obtain ⟨sa, sc, rfl, _⟩ := id hsv.frm
  have q0 := hc 0 (by simp)
  have hsz : kRowI.sz = 1 := rfl
  rw [hsz] at q0
  simp only [Nat.mul_one, Nat.add_zero, List.getElem_cons_zero] at q0
  exact ⟨b, o, sa, sc, rfl, hsv, fun y f => f.cell q0 id⟩
set_option maxRecDepth 100000 in
set_option maxHeartbeats 4000000 in
theorem linParts_any {w : World} {u : Value} {L : List MHap} (hl : Sl kHap All w u L) :
    Calls Try.prog 18 #[u] w fun e w' => e = .returned (.bool true) ∧ Fr Non w w' := by
  obtain ⟨va, vc, rfl, _⟩ := hl.frm
  have HL := Lib.hid hl
  clear hl
  go_enter Try.func18, Try.ntmps18
  go_wp2_with fail
  refine (lcut_any HL.out 80 (by decide)).mono ?_
  rintro e w1 ⟨v1, rfl, hv1, f1⟩
  obtain ⟨l, hl⟩ : ∃ l, lCut 80 L = l := ⟨_, rfl⟩
  rw [hl] at hv1
  obtain ⟨l1a, l1c, rfl, _⟩ := hv1.frm
  have HV1 := Lib.hid hv1
  have F1 := Lib.hid f1
  clear hl hv1 f1 HL
  go_wp2_with fail
  refine (parts_any HV1.out).mono ?_
  rintro e w2 ⟨v2, rfl, hv2, f2⟩
  obtain ⟨p2a, p2c, rfl, hpl, hpx, -⟩ := hv2.frm
  replace hpx := Nat.le_trans hpl hpx
  clear hpl
  unfold maxLen at hpx
  have HV2 := Lib.hid (HV1.out.stay f2)
  have F2 := Lib.hid (F1.out.trans f2)
  have HPP := Lib.hid hv2
  clear hv2 f2 HV1 F1
  go_wp2_with fail
  refine (rparts_any HV2.out).mono ?_
  rintro e w3 ⟨v3, rfl, hv3, f3⟩
  obtain ⟨p3a, p3c, rfl, _⟩ := hv3.frm
  have HV3 := Lib.hid (HV2.out.stay f3)
  have F3 := Lib.hid (F2.out.trans f3)
  have HP3 := Lib.hid (HPP.out.stay f3)
  have HQ3 := Lib.hid hv3
  clear hv3 f3 HV2 F2 HPP
  obtain ⟨T, hT⟩ : ∃ T, lParts l = T := ⟨_, rfl⟩
  rw [hT] at HP3 HQ3 hpx ⊢
  clear hT
  obtain ⟨Ps, pe⟩ := T
  simp only at HP3 HQ3 hpx ⊢
  have hn0 : ((Ps.length : Int) != (Ps.length : Int)) = false := by simp
  have hn1 : (pe != pe) = false := by simp
  obtain ⟨n, hn⟩ : ∃ n, Ps.length = n := ⟨_, rfl⟩
  have HN := Lib.hid hn
  rw [hn] at HP3 HQ3 hpx hn0 ⊢
  clear hn
  go_wp2_with fail
  go_loopw [2, 7] (fun rv iv wr => ∃ (j : Nat), j ≤ n ∧ iv = .int .i64 j ∧ rv = .bool false ∧ Hid (Fr Non w3 wr)) (fun _ iv _ => n - (intOf iv).toNat)
  case atStart => exact ⟨0, by omega, rfl, rfl, Fr.refl _ _⟩
  case round =>
    obtain ⟨j, hj, rfl, rfl, HI⟩ := hrel
    have j0 : (0 : Int) ≤ (j : Int) := by omega
    by_cases hlt : j < n
    · have j1 : (j : Int) < (n : Int) := by omega
      obtain ⟨b1, o1, s1a, s1c, e, h1, q1⟩ := rowI_at (HP3.out.stay HI.out) j (by rw [HN.out]; exact hlt)
      cases e
      obtain ⟨b2, o2, s2a, s2c, e, h2, q2⟩ := rowI_at (HQ3.out.stay HI.out) j (by rw [HN.out]; exact hlt)
      cases e
      obtain ⟨p, hp⟩ : ∃ p, Ps[j]'(by rw [HN.out]; exact hlt) = p := ⟨_, rfl⟩
      rw [hp] at h1 h2 q1 q2
      have Q1 := Lib.hid q1
      have Q2 := Lib.hid q2
      have HSP := Lib.hid (fun (y : World) (f : Fr Non wr y) => sameplaces_any (w := y) (h1.stay f) (h2.stay f))
      have FW := Lib.hid HI.out
      clear h1 h2 q1 q2 hp HI
      have fd : Fr Non wr wr.drew := (Fr.refl _ _).drew
      go_wp2_with fail
      refine wp_draw [((fun y => Fr Non wr y), [(.free, 0), (.free, 1), (.free, 2), (.held, 3), (.free, 4), (.free, 5), (.free, 6), (.held, 7), (.kept, 8), (.free, 9)])] 10 (by kernel_rfl) (by kernel_rfl) (fun _ _ _ _ _ h => h) ⟨fd, ?_⟩
      generalize wr.drew = wd at fd ⊢
      repeat (first
        | (refine' wpPlan_free (v := _) rfl (by rfl) ?_ ?_
           rotate_left
           · (intro w'; skip; go_simp; try rfl)
           simp only [List.getElem_toArray, List.getElem_cons_zero, List.getElem_cons_succ, Act.put, List.setIfInBounds_toArray, List.set_cons_zero, List.set_cons_succ])
        | (refine' wpPlan_held (v := _) rfl (by rfl) ?_ ?_
           rotate_left
           · (intro w' hS; skip; have q1 := Q1.out w' hS; have q2 := Q2.out w' hS; clear hS; go_simp; try rfl)
           simp only [List.getElem_toArray, List.getElem_cons_zero, List.getElem_cons_succ, Act.put, List.setIfInBounds_toArray, List.set_cons_zero, List.set_cons_succ])
        | (refine' wpPlan_skip rfl (by rfl) ?_
           simp only [List.getElem_toArray, List.getElem_cons_zero, List.getElem_cons_succ, Act.put, List.setIfInBounds_toArray, List.set_cons_zero, List.set_cons_succ])
        | (refine' wpPlan_skipHeld rfl (by rfl) ?_
           simp only [List.getElem_toArray, List.getElem_cons_zero, List.getElem_cons_succ, Act.put, List.setIfInBounds_toArray, List.set_cons_zero, List.set_cons_succ]))
      refine' wpPlan_kept rfl ?_
      intro K hK
      go_simp
      refine (HSP.out _ fd).mono ?_
      rintro e y1 ⟨rfl, g1⟩
      go_simp
      have fd1 := fd.trans g1
      refine hK _ _ ⟨fd1, ?_⟩
      clear hK K fd g1
      repeat (first
        | (refine' wpPlan_free (v := _) rfl (by rfl) ?_ ?_
           rotate_left
           · (intro w'; skip; go_simp; try rfl)
           simp only [List.getElem_toArray, List.getElem_cons_zero, List.getElem_cons_succ, Act.put, List.setIfInBounds_toArray, List.set_cons_zero, List.set_cons_succ])
        | (refine' wpPlan_held (v := _) rfl (by rfl) ?_ ?_
           rotate_left
           · (intro w' hS; skip; clear hS; go_simp; try rfl)
           simp only [List.getElem_toArray, List.getElem_cons_zero, List.getElem_cons_succ, Act.put, List.setIfInBounds_toArray, List.set_cons_zero, List.set_cons_succ])
        | (refine' wpPlan_skip rfl (by rfl) ?_
           simp only [List.getElem_toArray, List.getElem_cons_zero, List.getElem_cons_succ, Act.put, List.setIfInBounds_toArray, List.set_cons_zero, List.set_cons_succ])
        | (refine' wpPlan_skipHeld rfl (by rfl) ?_
           simp only [List.getElem_toArray, List.getElem_cons_zero, List.getElem_cons_succ, Act.put, List.setIfInBounds_toArray, List.set_cons_zero, List.set_cons_succ]))
      refine wpPlan_end ?_
      simp only [wpSegs, List.drop_succ_cons, List.drop_zero]
      go_wp2_with fail
      go_roundw
      case rel => exact ⟨j + 1, by omega, by go_num, rfl, FW.out.trans fd1⟩
      case measure => simp [intOf]; omega
    · obtain rfl : j = n := by omega
      have FW := Lib.hid (F3.out.trans HI.out)
      have HVW := Lib.hid (HV3.out.stay HI.out)
      clear HI HP3 HQ3 HV3 F3
      go_wp2_with fail
      refine (lcut_any HVW.out 6 (by decide)).mono ?_
      rintro e w4 ⟨v4, rfl, hv4, f4⟩
      obtain ⟨k, hk⟩ : ∃ k, lCut 6 l = k := ⟨_, rfl⟩
      rw [hk] at hv4
      obtain ⟨v4a, v4c, rfl, _⟩ := hv4.frm
      have HV4 := Lib.hid hv4
      have F4 := Lib.hid (FW.out.trans f4)
      clear hk hv4 f4 HVW FW
      go_wp2_with fail
      refine (linear_any HV4.out).mono ?_
      rintro e w5 ⟨rfl, f5⟩
      have HV5 := Lib.hid (HV4.out.stay f5)
      have F5 := Lib.hid (F4.out.trans f5)
      clear f5 HV4 F4
      go_wp2_with fail
      refine (rlinear_any HV5.out).mono ?_
      rintro e w6 ⟨rfl, f6⟩
      have F6 := Lib.hid (F5.out.trans f6)
      clear f6 HV5 F5
      obtain ⟨T, hT⟩ : ∃ T, lLinear k = T := ⟨_, rfl⟩
      rw [hT]
      clear hT
      obtain ⟨ok, er⟩ := T
      have e1 : (ok == ok) = true := by simp
      have e2 : (er == er) = true := by simp
      go_wp2_with fail
      refine (lawake_any w6).mono ?_
      rintro e w7 ⟨rfl, f7⟩
      go_wp2_with fail
      go_ret
      exact ⟨by simp, F6.out.trans f7⟩
end Go.Proofs.Ytplhcfaonhkegaa
