-- declarations that this claim uses, out of a text that print.sh printed
import Derived.Test.YtjabcdfbncglnaaLPTreeRanksx0
import Derived.Test.YtjabcdfbncglnaaLPTreeRanksx1
import Derived.Test.YtjabcdfbncglnaaLPTreeRanksx2
namespace Go.Proofs.Ytjabcdfbncglnaa.PTreeRanks
open Go.RowKit Go.Proofs.YtjabcdfbncglnaaW.PrintWords Go.Proofs.YtjabcdfbncglnaaW.PrintLast Go.Proofs.YtjabcdfbncglnaaW.PrintMore
attribute [local go_sem] max2_int min2_int max_two min_two max_three min_three max_four min_four   -- for this text's walks alone
set_option linter.unusedVariables false
set_option linter.unusedSimpArgs false

end Go.Proofs.Ytjabcdfbncglnaa.PTreeRanks
