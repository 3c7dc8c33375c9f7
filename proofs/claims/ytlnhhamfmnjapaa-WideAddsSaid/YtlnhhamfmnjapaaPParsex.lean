-- WRITTEN BY wip/qprint.py (a driver of this session over the print): checked by Lean like any other text
import Derived.Test.YtlnhhamfmnjapaaPParsex0
import Derived.Test.YtlnhhamfmnjapaaPParsex1
import Derived.Test.YtlnhhamfmnjapaaPParsex2
import Derived.Test.YtlnhhamfmnjapaaPParsex3
import Derived.Test.YtlnhhamfmnjapaaPParsex4
import Derived.Test.YtlnhhamfmnjapaaPParsex5
namespace Go.Proofs.Ytlnhhamfmnjapaa.PParse
open Go.RowKit Go.Proofs.YtlnhhamfmnjapaaW.PrintWords Go.Proofs.YtlnhhamfmnjapaaW.PrintLast Go.Proofs.YtlnhhamfmnjapaaW.PrintMore
attribute [local go_sem] max2_int min2_int max_two min_two max_three min_three max_four min_four   -- for this text's walks alone
set_option linter.unusedVariables false
set_option linter.unusedSimpArgs false

end Go.Proofs.Ytlnhhamfmnjapaa.PParse
