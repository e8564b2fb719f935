/-
  Plain Lean: what each bridge should take to be so, impl's and the reference's alike.
-/
import Derived.Test.YtbolhcpkpncmfabKz4
import Derived.Test.YtbolhcpkpncmfabBfz
import Derived.Test.YtbolhcpkpncmfabTreeAz
set_option linter.all false
namespace Go.Proofs.Ytbolhcpkpncmfab
open Go Go.Ab
set_option maxHeartbeats 400000

end Go.Proofs.Ytbolhcpkpncmfab
