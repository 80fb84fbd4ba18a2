/- The document's rows: plain, Is, PutRow. -/
import Derived.Test.YtllcidpmdmacjaaDoorWf
import Derived.Test.YtllcidpmdmacjaaDoorWx

namespace Go.Proofs.YtllcidpmdmacjaaDoor
open Go.RowKit Go.Lib

end Go.Proofs.YtllcidpmdmacjaaDoor
