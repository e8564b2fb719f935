/-
  The structs of the program in Lean.
-/
import Derived.Test.YtaoeomoepefojaaGreatAbz6
set_option linter.all false
namespace Go.Proofs.YtaoeomoepefojaaGreat
open Go Go.Ab
set_option maxRecDepth 100000
set_option maxHeartbeats 200000
structure l41Rd where
  b:(List Int)
  p:Int
deriving DecidableEq
instance:Inhabited l41Rd:=⟨⟨[],0⟩⟩
@[reducible] def l41Rd.enc (r:l41Rd):List D:=[slD encByte r.b,.int .i64 r.p]
structure HelloKey where
  Id:Int
  Secret:Int
deriving DecidableEq
instance:Inhabited HelloKey:=⟨⟨0,0⟩⟩
@[reducible] def HelloKey.enc (r:HelloKey):List D:=[.int .i64 r.Id,.int .i64 r.Secret]
structure HelloEntry where
  Addr:Int
  Len:Int
  Cost:Int
  Label:Int
deriving DecidableEq
instance:Inhabited HelloEntry:=⟨⟨0,0,0,0⟩⟩
@[reducible] def HelloEntry.enc (r:HelloEntry):List D:=[.int .i64 r.Addr,.int .i64 r.Len,.int .i64 r.Cost,.int .i64 r.Label]
structure HelloChange where
  Kind:Int
  Entry:HelloEntry
deriving DecidableEq
instance:Inhabited HelloChange:=⟨⟨0,default⟩⟩
@[reducible] def HelloChange.enc (r:HelloChange):List D:=[.int .i64 r.Kind,.int .i64 r.Entry.Addr,.int .i64 r.Entry.Len,.int .i64 r.Entry.Cost,.int .i64 r.Entry.Label]
structure HelloRoute where
  Entry:HelloEntry
  Stale:Bool
deriving DecidableEq
instance:Inhabited HelloRoute:=⟨⟨default,false⟩⟩
@[reducible] def HelloRoute.enc (r:HelloRoute):List D:=[.int .i64 r.Entry.Addr,.int .i64 r.Entry.Len,.int .i64 r.Entry.Cost,.int .i64 r.Entry.Label,.bool r.Stale]
structure HelloEnd where
  Name:Int
  Peer:Int
  Keys:(List HelloKey)
  Boot:Int
  Want:(List HelloEntry)
  Turn:Int
  PeerBoot:Int
  PeerTurn:Int
  Up:Bool
  Left:Int
  Num:Int
  Under:HelloChange
  Told:(List HelloEntry)
  All:Bool
  Got:Int
  Full:Bool
  Heard:(List HelloRoute)
  Keep:Int
deriving DecidableEq
instance:Inhabited HelloEnd:=⟨⟨0,0,[],0,[],0,0,0,false,0,0,default,[],false,0,false,[],0⟩⟩
@[reducible] def HelloEnd.enc (r:HelloEnd):List D:=[.int .i64 r.Name,.int .i64 r.Peer,slD HelloKey.enc r.Keys,.int .i64 r.Boot,slD HelloEntry.enc r.Want,.int .i64 r.Turn,.int .i64 r.PeerBoot,.int .i64 r.PeerTurn,.bool r.Up,.int .i64 r.Left,.int .i64 r.Num,.int .i64 r.Under.Kind,.int .i64 r.Under.Entry.Addr,.int .i64 r.Under.Entry.Len,.int .i64 r.Under.Entry.Cost,.int .i64 r.Under.Entry.Label,slD HelloEntry.enc r.Told,.bool r.All,.int .i64 r.Got,.bool r.Full,slD HelloRoute.enc r.Heard,.int .i64 r.Keep]
structure HelloSide where
  Up:Bool
  End:HelloEnd
deriving DecidableEq
instance:Inhabited HelloSide:=⟨⟨false,default⟩⟩
@[reducible] def HelloSide.enc (r:HelloSide):List D:=[.bool r.Up,.int .i64 r.End.Name,.int .i64 r.End.Peer,slD HelloKey.enc r.End.Keys,.int .i64 r.End.Boot,slD HelloEntry.enc r.End.Want,.int .i64 r.End.Turn,.int .i64 r.End.PeerBoot,.int .i64 r.End.PeerTurn,.bool r.End.Up,.int .i64 r.End.Left,.int .i64 r.End.Num,.int .i64 r.End.Under.Kind,.int .i64 r.End.Under.Entry.Addr,.int .i64 r.End.Under.Entry.Len,.int .i64 r.End.Under.Entry.Cost,.int .i64 r.End.Under.Entry.Label,slD HelloEntry.enc r.End.Told,.bool r.End.All,.int .i64 r.End.Got,.bool r.End.Full,slD HelloRoute.enc r.End.Heard,.int .i64 r.End.Keep]
structure HelloWord where
  From:Int
  To:Int
  Key:Int
  Boot:Int
  Yours:Int
  Turn:Int
  Num:Int
  Heard:Int
  Change:HelloChange
  Sum:Int
deriving DecidableEq
instance:Inhabited HelloWord:=⟨⟨0,0,0,0,0,0,0,0,default,0⟩⟩
@[reducible] def HelloWord.enc (r:HelloWord):List D:=[.int .i64 r.From,.int .i64 r.To,.int .i64 r.Key,.int .i64 r.Boot,.int .i64 r.Yours,.int .i64 r.Turn,.int .i64 r.Num,.int .i64 r.Heard,.int .i64 r.Change.Kind,.int .i64 r.Change.Entry.Addr,.int .i64 r.Change.Entry.Len,.int .i64 r.Change.Entry.Cost,.int .i64 r.Change.Entry.Label,.int .i64 r.Sum]
structure HelloWorld where
  Sides:(List HelloSide)
  Radio:(List HelloWord)
deriving DecidableEq
instance:Inhabited HelloWorld:=⟨⟨[],[]⟩⟩
@[reducible] def HelloWorld.enc (r:HelloWorld):List D:=[slD HelloSide.enc r.Sides,slD HelloWord.enc r.Radio]
structure HelloEvent where
  Kind:Int
  At:Int
  Want:(List HelloEntry)
  Keys:(List HelloKey)
  Word:HelloWord
deriving DecidableEq
instance:Inhabited HelloEvent:=⟨⟨0,0,[],[],default⟩⟩
@[reducible] def HelloEvent.enc (r:HelloEvent):List D:=[.int .i64 r.Kind,.int .i64 r.At,slD HelloEntry.enc r.Want,slD HelloKey.enc r.Keys,.int .i64 r.Word.From,.int .i64 r.Word.To,.int .i64 r.Word.Key,.int .i64 r.Word.Boot,.int .i64 r.Word.Yours,.int .i64 r.Word.Turn,.int .i64 r.Word.Num,.int .i64 r.Word.Heard,.int .i64 r.Word.Change.Kind,.int .i64 r.Word.Change.Entry.Addr,.int .i64 r.Word.Change.Entry.Len,.int .i64 r.Word.Change.Entry.Cost,.int .i64 r.Word.Change.Entry.Label,.int .i64 r.Word.Sum]
structure NetPrefix where
  Addr:Int
  Len:Int
deriving DecidableEq
instance:Inhabited NetPrefix:=⟨⟨0,0⟩⟩
@[reducible] def NetPrefix.enc (r:NetPrefix):List D:=[.int .i64 r.Addr,.int .i64 r.Len]
end Go.Proofs.YtaoeomoepefojaaGreat
