/-
  The structs of the program in Lean.
-/
import Derived.Test.YtjpfiaejakidnaaAbz6
set_option linter.all false
namespace Go.Proofs.Ytjpfiaejakidnaa
open Go Go.Ab
set_option maxRecDepth 100000
set_option maxHeartbeats 200000
structure l1Rd where
  b : (List Int)
  p : Int
deriving DecidableEq
instance : Inhabited l1Rd := ⟨⟨[], 0⟩⟩
@[reducible] def l1Rd.enc (r : l1Rd) : List D := [slD encByte r.b, .int .i64 r.p]

structure NetPrefix where
  Addr : Int
  Len : Int
deriving DecidableEq
instance : Inhabited NetPrefix := ⟨⟨0, 0⟩⟩
@[reducible] def NetPrefix.enc (r : NetPrefix) : List D := [.int .i64 r.Addr, .int .i64 r.Len]

structure AclRule where
  Permit : Bool
  From : NetPrefix
  To : NetPrefix
  Kind : Int
deriving DecidableEq
instance : Inhabited AclRule := ⟨⟨false, default, default, 0⟩⟩
@[reducible] def AclRule.enc (r : AclRule) : List D := [.bool r.Permit, .int .i64 r.From.Addr, .int .i64 r.From.Len, .int .i64 r.To.Addr, .int .i64 r.To.Len, .int .i64 r.Kind]

structure AclPacket where
  From : Int
  To : Int
  Kind : Int
deriving DecidableEq
instance : Inhabited AclPacket := ⟨⟨0, 0, 0⟩⟩
@[reducible] def AclPacket.enc (r : AclPacket) : List D := [.int .i64 r.From, .int .i64 r.To, .int .i64 r.Kind]

end Go.Proofs.Ytjpfiaejakidnaa
