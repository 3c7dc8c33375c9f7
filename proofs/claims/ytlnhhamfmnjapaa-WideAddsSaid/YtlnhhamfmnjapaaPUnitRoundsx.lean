import Derived.Test.YtlnhhamfmnjapaaPUnitRoundsx0
import Derived.Test.YtlnhhamfmnjapaaPUnitRoundsx1
import Derived.Test.YtlnhhamfmnjapaaPUnitRoundsx2
namespace Go.Proofs.Ytlnhhamfmnjapaa.PUnitRounds
open Go.RowKit Go.Proofs.YtlnhhamfmnjapaaW.PrintWords Go.Proofs.YtlnhhamfmnjapaaW.PrintLast Go.Proofs.YtlnhhamfmnjapaaW.PrintMore
attribute [local go_sem] max2_int min2_int max_two min_two max_three min_three max_four min_four   
set_option linter.unusedVariables false
set_option linter.unusedSimpArgs false
end Go.Proofs.Ytlnhhamfmnjapaa.PUnitRounds
