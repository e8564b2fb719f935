/-
  The structs of the program in Lean.
-/
import Derived.Test.YtjgjdobkahdgfaaGreatAbz6
set_option linter.all false
namespace Go.Proofs.YtjgjdobkahdgfaaGreat
open Go Go.Ab
set_option maxRecDepth 100000
set_option maxHeartbeats 200000
structure Qv0 where
  b:(List Int)
  p:Int
deriving DecidableEq
instance:Inhabited Qv0:=⟨⟨[],0⟩⟩
@[reducible] def Qv0.enc (r:Qv0):List D:=[slD Qq r.b,.int .i64 r.p]
structure Qv1 where
  Id:Int
  Secret:Int
deriving DecidableEq
instance:Inhabited Qv1:=⟨⟨0,0⟩⟩
@[reducible] def Qv1.enc (r:Qv1):List D:=[.int .i64 r.Id,.int .i64 r.Secret]
structure Qv2 where
  Addr:Int
  Len:Int
  Cost:Int
  Label:Int
deriving DecidableEq
instance:Inhabited Qv2:=⟨⟨0,0,0,0⟩⟩
@[reducible] def Qv2.enc (r:Qv2):List D:=[.int .i64 r.Addr,.int .i64 r.Len,.int .i64 r.Cost,.int .i64 r.Label]
structure Qv3 where
  Kind:Int
  Entry:Qv2
deriving DecidableEq
instance:Inhabited Qv3:=⟨⟨0,default⟩⟩
@[reducible] def Qv3.enc (r:Qv3):List D:=[.int .i64 r.Kind,.int .i64 r.Entry.Addr,.int .i64 r.Entry.Len,.int .i64 r.Entry.Cost,.int .i64 r.Entry.Label]
structure Qv4 where
  Entry:Qv2
  Stale:Bool
deriving DecidableEq
instance:Inhabited Qv4:=⟨⟨default,false⟩⟩
@[reducible] def Qv4.enc (r:Qv4):List D:=[.int .i64 r.Entry.Addr,.int .i64 r.Entry.Len,.int .i64 r.Entry.Cost,.int .i64 r.Entry.Label,.bool r.Stale]
structure Qv5 where
  Name:Int
  Peer:Int
  Keys:(List Qv1)
  Boot:Int
  Want:(List Qv2)
  Turn:Int
  PeerBoot:Int
  PeerTurn:Int
  Up:Bool
  Left:Int
  Num:Int
  Under:Qv3
  Told:(List Qv2)
  All:Bool
  Got:Int
  Full:Bool
  Heard:(List Qv4)
  Keep:Int
deriving DecidableEq
instance:Inhabited Qv5:=⟨⟨0,0,[],0,[],0,0,0,false,0,0,default,[],false,0,false,[],0⟩⟩
@[reducible] def Qv5.enc (r:Qv5):List D:=[.int .i64 r.Name,.int .i64 r.Peer,slD Qv1.enc r.Keys,.int .i64 r.Boot,slD Qv2.enc r.Want,.int .i64 r.Turn,.int .i64 r.PeerBoot,.int .i64 r.PeerTurn,.bool r.Up,.int .i64 r.Left,.int .i64 r.Num,.int .i64 r.Under.Kind,.int .i64 r.Under.Entry.Addr,.int .i64 r.Under.Entry.Len,.int .i64 r.Under.Entry.Cost,.int .i64 r.Under.Entry.Label,slD Qv2.enc r.Told,.bool r.All,.int .i64 r.Got,.bool r.Full,slD Qv4.enc r.Heard,.int .i64 r.Keep]
structure Qv6 where
  Up:Bool
  End:Qv5
deriving DecidableEq
instance:Inhabited Qv6:=⟨⟨false,default⟩⟩
@[reducible] def Qv6.enc (r:Qv6):List D:=[.bool r.Up,.int .i64 r.End.Name,.int .i64 r.End.Peer,slD Qv1.enc r.End.Keys,.int .i64 r.End.Boot,slD Qv2.enc r.End.Want,.int .i64 r.End.Turn,.int .i64 r.End.PeerBoot,.int .i64 r.End.PeerTurn,.bool r.End.Up,.int .i64 r.End.Left,.int .i64 r.End.Num,.int .i64 r.End.Under.Kind,.int .i64 r.End.Under.Entry.Addr,.int .i64 r.End.Under.Entry.Len,.int .i64 r.End.Under.Entry.Cost,.int .i64 r.End.Under.Entry.Label,slD Qv2.enc r.End.Told,.bool r.End.All,.int .i64 r.End.Got,.bool r.End.Full,slD Qv4.enc r.End.Heard,.int .i64 r.End.Keep]
structure Qv7 where
  From:Int
  To:Int
  Key:Int
  Boot:Int
  Yours:Int
  Turn:Int
  Num:Int
  Heard:Int
  Change:Qv3
  Sum:Int
deriving DecidableEq
instance:Inhabited Qv7:=⟨⟨0,0,0,0,0,0,0,0,default,0⟩⟩
@[reducible] def Qv7.enc (r:Qv7):List D:=[.int .i64 r.From,.int .i64 r.To,.int .i64 r.Key,.int .i64 r.Boot,.int .i64 r.Yours,.int .i64 r.Turn,.int .i64 r.Num,.int .i64 r.Heard,.int .i64 r.Change.Kind,.int .i64 r.Change.Entry.Addr,.int .i64 r.Change.Entry.Len,.int .i64 r.Change.Entry.Cost,.int .i64 r.Change.Entry.Label,.int .i64 r.Sum]
structure Qv8 where
  Sides:(List Qv6)
  Radio:(List Qv7)
deriving DecidableEq
instance:Inhabited Qv8:=⟨⟨[],[]⟩⟩
@[reducible] def Qv8.enc (r:Qv8):List D:=[slD Qv6.enc r.Sides,slD Qv7.enc r.Radio]
structure Qv9 where
  Kind:Int
  At:Int
  Want:(List Qv2)
  Keys:(List Qv1)
  Word:Qv7
deriving DecidableEq
instance:Inhabited Qv9:=⟨⟨0,0,[],[],default⟩⟩
@[reducible] def Qv9.enc (r:Qv9):List D:=[.int .i64 r.Kind,.int .i64 r.At,slD Qv2.enc r.Want,slD Qv1.enc r.Keys,.int .i64 r.Word.From,.int .i64 r.Word.To,.int .i64 r.Word.Key,.int .i64 r.Word.Boot,.int .i64 r.Word.Yours,.int .i64 r.Word.Turn,.int .i64 r.Word.Num,.int .i64 r.Word.Heard,.int .i64 r.Word.Change.Kind,.int .i64 r.Word.Change.Entry.Addr,.int .i64 r.Word.Change.Entry.Len,.int .i64 r.Word.Change.Entry.Cost,.int .i64 r.Word.Change.Entry.Label,.int .i64 r.Word.Sum]
structure Qwa where
  Addr:Int
  Len:Int
deriving DecidableEq
instance:Inhabited Qwa:=⟨⟨0,0⟩⟩
@[reducible] def Qwa.enc (r:Qwa):List D:=[.int .i64 r.Addr,.int .i64 r.Len]
@[reducible] def dI (n:Int):V:=.d (.int .i64 n)
@[reducible] def dB (b:Bool):V:=.d (.bool b)
@[reducible] def heC (e:Qv5) (h:V):List V:=[dI e.Name,dI e.Peer,.d (slD Qv1.enc e.Keys),dI e.Boot,.d (slD Qv2.enc e.Want),dI e.Turn,dI e.PeerBoot,dI e.PeerTurn,dB e.Up,dI e.Left,dI e.Num,dI e.Under.Kind,dI e.Under.Entry.Addr,dI e.Under.Entry.Len,dI e.Under.Entry.Cost,dI e.Under.Entry.Label,.d (slD Qv2.enc e.Told),dB e.All,dI e.Got,dB e.Full,h,dI e.Keep]
@[reducible] def hwC (e:Qv7):List V:=[dI e.From,dI e.To,dI e.Key,dI e.Boot,dI e.Yours,dI e.Turn,dI e.Num,dI e.Heard,dI e.Change.Kind,dI e.Change.Entry.Addr,dI e.Change.Entry.Len,dI e.Change.Entry.Cost,dI e.Change.Entry.Label,dI e.Sum]
@[reducible] def hnC (e:Qv2):List V:=[dI e.Addr,dI e.Len,dI e.Cost,dI e.Label]
@[reducible] def hrC (e:Qv4):List V:=[dI e.Entry.Addr,dI e.Entry.Len,dI e.Entry.Cost,dI e.Entry.Label,dB e.Stale]
theorem sj_ {α:Type} {a b:α} (h:some a=some b):a=b:=Option.some.inj h
end Go.Proofs.YtjgjdobkahdgfaaGreat
