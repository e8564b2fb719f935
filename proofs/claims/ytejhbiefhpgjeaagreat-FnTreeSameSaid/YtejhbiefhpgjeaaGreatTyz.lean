/-
  The structs of the program in Lean.
-/
import Derived.Test.YtejhbiefhpgjeaaGreatAbz6
set_option linter.all false
namespace Go.Proofs.YtejhbiefhpgjeaaGreat
open Go Go.Ab
set_option maxRecDepth 100000
set_option maxHeartbeats 200000
structure l81Rd where
  b:(List Int)
  p:Int
deriving DecidableEq
instance:Inhabited l81Rd:=⟨⟨[],0⟩⟩
@[reducible] def l81Rd.enc (r:l81Rd):List D:=[slD encByte r.b,.int .i64 r.p]
structure TreeLink where
  A:Int
  B:Int
  Cost:Int
deriving DecidableEq
instance:Inhabited TreeLink:=⟨⟨0,0,0⟩⟩
@[reducible] def TreeLink.enc (r:TreeLink):List D:=[.int .i64 r.A,.int .i64 r.B,.int .i64 r.Cost]
structure TreeVector where
  Root:Int
  Cost:Int
  Age:Int
deriving DecidableEq
instance:Inhabited TreeVector:=⟨⟨0,0,0⟩⟩
@[reducible] def TreeVector.enc (r:TreeVector):List D:=[.int .i64 r.Root,.int .i64 r.Cost,.int .i64 r.Age]
structure TreeMind where
  Vector:TreeVector
  Link:Int
deriving DecidableEq
instance:Inhabited TreeMind:=⟨⟨default,0⟩⟩
@[reducible] def TreeMind.enc (r:TreeMind):List D:=[.int .i64 r.Vector.Root,.int .i64 r.Vector.Cost,.int .i64 r.Vector.Age,.int .i64 r.Link]
structure TreeBridge where
  Id:Int
  Up:Bool
  Mind:TreeMind
deriving DecidableEq
instance:Inhabited TreeBridge:=⟨⟨0,false,default⟩⟩
@[reducible] def TreeBridge.enc (r:TreeBridge):List D:=[.int .i64 r.Id,.bool r.Up,.int .i64 r.Mind.Vector.Root,.int .i64 r.Mind.Vector.Cost,.int .i64 r.Mind.Vector.Age,.int .i64 r.Mind.Link]
structure TreeSlot where
  Vector:TreeVector
  Left:Int
deriving DecidableEq
instance:Inhabited TreeSlot:=⟨⟨default,0⟩⟩
@[reducible] def TreeSlot.enc (r:TreeSlot):List D:=[.int .i64 r.Vector.Root,.int .i64 r.Vector.Cost,.int .i64 r.Vector.Age,.int .i64 r.Left]
structure TreeWord where
  Link:Int
  End:Int
  Vector:TreeVector
deriving DecidableEq
instance:Inhabited TreeWord:=⟨⟨0,0,default⟩⟩
@[reducible] def TreeWord.enc (r:TreeWord):List D:=[.int .i64 r.Link,.int .i64 r.End,.int .i64 r.Vector.Root,.int .i64 r.Vector.Cost,.int .i64 r.Vector.Age]
structure TreeWorld where
  Bridges:(List TreeBridge)
  Links:(List TreeLink)
  Down:(List Int)
  AtA:(List TreeSlot)
  AtB:(List TreeSlot)
  Radio:(List TreeWord)
deriving DecidableEq
instance:Inhabited TreeWorld:=⟨⟨[],[],[],[],[],[]⟩⟩
@[reducible] def TreeWorld.enc (r:TreeWorld):List D:=[slD TreeBridge.enc r.Bridges,slD TreeLink.enc r.Links,slD encInt r.Down,slD TreeSlot.enc r.AtA,slD TreeSlot.enc r.AtB,slD TreeWord.enc r.Radio]
structure TreeEvent where
  Kind:Int
  At:Int
  End:Int
deriving DecidableEq
instance:Inhabited TreeEvent:=⟨⟨0,0,0⟩⟩
@[reducible] def TreeEvent.enc (r:TreeEvent):List D:=[.int .i64 r.Kind,.int .i64 r.At,.int .i64 r.End]
end Go.Proofs.YtejhbiefhpgjeaaGreat
