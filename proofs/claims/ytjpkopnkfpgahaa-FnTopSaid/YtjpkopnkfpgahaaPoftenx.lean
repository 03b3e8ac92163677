-- PRINTED BY print.sh 35421559b90ae4d0a3588c463048766b98c2df88dd9212a6774a882060cdf62d: not written by this session
import Derived.Test.YtjpkopnkfpgahaaPoftenx0
import Derived.Test.YtjpkopnkfpgahaaPoftenx1
namespace Go.Proofs.Ytjpkopnkfpgahaa.Poften
open Go.RowKit Go.Proofs.YtjpkopnkfpgahaaW.PrintWords Go.Proofs.YtjpkopnkfpgahaaW.PrintLast Go.Proofs.YtjpkopnkfpgahaaW.PrintMore
attribute [local go_sem] max2_int min2_int max_two min_two max_three min_three max_four min_four   -- for this text's walks alone
set_option linter.unusedVariables false
set_option linter.unusedSimpArgs false

end Go.Proofs.Ytjpkopnkfpgahaa.Poften
