-- PRINTED BY print.sh 35421559b90ae4d0a3588c463048766b98c2df88dd9212a6774a882060cdf62d: not written by this session
import Derived.Test.YtjjbaebddkejnaaPl08Primex0
import Derived.Test.YtjjbaebddkejnaaPl08Primex1
import Derived.Test.YtjjbaebddkejnaaPl08Primex2
namespace Go.Proofs.Ytjjbaebddkejnaa.Pl08Prime
open Go.RowKit Go.Proofs.YtjjbaebddkejnaaW.PrintWords Go.Proofs.YtjjbaebddkejnaaW.PrintLast Go.Proofs.YtjjbaebddkejnaaW.PrintMore
attribute [local go_sem] max2_int min2_int max_two min_two max_three min_three max_four min_four   -- for this text's walks alone
set_option linter.unusedVariables false
set_option linter.unusedSimpArgs false

end Go.Proofs.Ytjjbaebddkejnaa.Pl08Prime
