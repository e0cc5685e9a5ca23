/- The law FnExactConstants, as a statement on plain values, holds: every constant is the document's. No condition. -/
import Derived.Test.YtkikhjojfcmboaaPFnExactConstantsx1
namespace Go.Proofs.Ytkikhjojfcmboaa.Pure
open Go.RowKit Go.Proofs.Ytkikhjojfcmboaa.PFnExactConstants

theorem FnExactConstants : laws_FnExactConstants.Pure := rfl

end Go.Proofs.Ytkikhjojfcmboaa.Pure
