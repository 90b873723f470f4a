/- PROVED HERE: The law on Constants (there is nothing to compare) holds. (the statement over numbers and texts; no condition beyond the statement's own bounds) -/
import Derived.Test.YtllpahijplcfpaaPFnExactConstantsx1
namespace Go.Proofs.Ytllpahijplcfpaa.Pure
open Go.RowKit Go.Proofs.Ytllpahijplcfpaa.PFnExactConstants Go.Proofs.YtllpahijplcfpaaW.PrintWords Go.Proofs.YtllpahijplcfpaaW.PrintLast


theorem FnExactConstants : laws_FnExactConstants.Pure := rfl

end Go.Proofs.Ytllpahijplcfpaa.Pure
