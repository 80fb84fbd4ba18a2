/- The document's rows: plain, Is, PutRow. -/
import Derived.Test.YtnhgccapiimheaaDoorWf
import Derived.Test.YtnhgccapiimheaaDoorWx

namespace Go.Proofs.YtnhgccapiimheaaDoor
open Go.RowKit Go.Lib

end Go.Proofs.YtnhgccapiimheaaDoor
