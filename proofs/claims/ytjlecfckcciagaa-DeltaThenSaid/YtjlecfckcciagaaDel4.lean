/- What must be written: the document's answer. -/
import Derived.Test.YtjlecfckcciagaaDel3
open Go.RowKit
namespace Go.Proofs.Ytjlecfckcciagaa

end Go.Proofs.Ytjlecfckcciagaa
