-- declarations that this claim uses, out of a text that print.sh printed
import Derived.Test.YtjabcdfbncglnaaLWInv
import Derived.Test.YtjabcdfbncglnaaLWFootNe
namespace Go.Proofs.YtjabcdfbncglnaaW.PrintWords
open Go.RowKit
end Go.Proofs.YtjabcdfbncglnaaW.PrintWords
namespace Go.Proofs.YtjabcdfbncglnaaW.PrintLast
section
variable {ops : Array Oper} {a : Act} {o og : Oper} {g : Nat} {t : Tmp} {u : Bool}
end
end Go.Proofs.YtjabcdfbncglnaaW.PrintLast
