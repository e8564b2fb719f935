/-
  The structs of the program in Lean.
-/
import Derived.Test.YtjgjdobkahdgfaaDoorAbz6
set_option linter.all false
namespace Go.Proofs.YtjgjdobkahdgfaaDoor
open Go Go.Ab
set_option maxRecDepth 100000
set_option maxHeartbeats 200000
structure l21Rd where
  b : (List Int)
  p : Int
deriving DecidableEq
instance : Inhabited l21Rd := ⟨⟨[], 0⟩⟩
@[reducible] def l21Rd.enc (r : l21Rd) : List D := [slD encByte r.b, .int .i64 r.p]

structure NatDoor where
  Kind : Int
  Outer : Int
  Inner : Int
  InnerPort : Int
deriving DecidableEq
instance : Inhabited NatDoor := ⟨⟨0, 0, 0, 0⟩⟩
@[reducible] def NatDoor.enc (r : NatDoor) : List D := [.int .i64 r.Kind, .int .i64 r.Outer, .int .i64 r.Inner, .int .i64 r.InnerPort]

structure NatEntry where
  Kind : Int
  Peer : Int
  PeerPort : Int
  Outer : Int
  Inner : Int
  InnerPort : Int
  Last : Int
deriving DecidableEq
instance : Inhabited NatEntry := ⟨⟨0, 0, 0, 0, 0, 0, 0⟩⟩
@[reducible] def NatEntry.enc (r : NatEntry) : List D := [.int .i64 r.Kind, .int .i64 r.Peer, .int .i64 r.PeerPort, .int .i64 r.Outer, .int .i64 r.Inner, .int .i64 r.InnerPort, .int .i64 r.Last]

structure NatBook where
  Addr : Int
  Len : Int
  Own : Int
  Low : Int
  High : Int
  Doors : (List NatDoor)
  Now : Int
  Entries : (List NatEntry)
deriving DecidableEq
instance : Inhabited NatBook := ⟨⟨0, 0, 0, 0, 0, [], 0, []⟩⟩
@[reducible] def NatBook.enc (r : NatBook) : List D := [.int .i64 r.Addr, .int .i64 r.Len, .int .i64 r.Own, .int .i64 r.Low, .int .i64 r.High, slD NatDoor.enc r.Doors, .int .i64 r.Now, slD NatEntry.enc r.Entries]

structure NatFlow where
  Kind : Int
  From : Int
  FromPort : Int
  To : Int
  ToPort : Int
deriving DecidableEq
instance : Inhabited NatFlow := ⟨⟨0, 0, 0, 0, 0⟩⟩
@[reducible] def NatFlow.enc (r : NatFlow) : List D := [.int .i64 r.Kind, .int .i64 r.From, .int .i64 r.FromPort, .int .i64 r.To, .int .i64 r.ToPort]

structure NetPrefix where
  Addr : Int
  Len : Int
deriving DecidableEq
instance : Inhabited NetPrefix := ⟨⟨0, 0⟩⟩
@[reducible] def NetPrefix.enc (r : NetPrefix) : List D := [.int .i64 r.Addr, .int .i64 r.Len]

end Go.Proofs.YtjgjdobkahdgfaaDoor
