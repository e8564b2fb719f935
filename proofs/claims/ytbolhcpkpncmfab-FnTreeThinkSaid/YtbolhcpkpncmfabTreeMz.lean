/-
  Plain Lean: marks on worlds, and looks at them.
-/
import Derived.Test.YtbolhcpkpncmfabKz8
import Derived.Test.YtbolhcpkpncmfabTreeWz
import Derived.Test.YtbolhcpkpncmfabTreeP4z
import Derived.Test.YtbolhcpkpncmfabMkz
set_option linter.all false
namespace Go.Proofs.Ytbolhcpkpncmfab
open Go Go.Ab
set_option maxHeartbeats 400000
end Go.Proofs.Ytbolhcpkpncmfab
