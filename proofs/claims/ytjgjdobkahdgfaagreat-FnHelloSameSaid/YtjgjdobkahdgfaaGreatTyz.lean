/-
  The structs of the program in Lean.
-/
import Derived.Test.YtjgjdobkahdgfaaGreatAbz6
set_option linter.all false
namespace Go.Proofs.YtjgjdobkahdgfaaGreat
open Go Go.Ab
set_option maxRecDepth 100000
set_option maxHeartbeats 200000
structure Qw6 where
  b:(List Int)
  p:Int
deriving DecidableEq
instance:Inhabited Qw6:=⟨⟨[],0⟩⟩
@[reducible] def Qw6.enc (r:Qw6):List D:=[slD QL r.b,.int .i64 r.p]
structure Qw7 where
  Id:Int
  Secret:Int
deriving DecidableEq
instance:Inhabited Qw7:=⟨⟨0,0⟩⟩
@[reducible] def Qw7.enc (r:Qw7):List D:=[.int .i64 r.Id,.int .i64 r.Secret]
structure Qw8 where
  Addr:Int
  Len:Int
  Cost:Int
  Label:Int
deriving DecidableEq
instance:Inhabited Qw8:=⟨⟨0,0,0,0⟩⟩
@[reducible] def Qw8.enc (r:Qw8):List D:=[.int .i64 r.Addr,.int .i64 r.Len,.int .i64 r.Cost,.int .i64 r.Label]
structure Qw9 where
  Kind:Int
  Entry:Qw8
deriving DecidableEq
instance:Inhabited Qw9:=⟨⟨0,default⟩⟩
@[reducible] def Qw9.enc (r:Qw9):List D:=[.int .i64 r.Kind,.int .i64 r.Entry.Addr,.int .i64 r.Entry.Len,.int .i64 r.Entry.Cost,.int .i64 r.Entry.Label]
structure Qxa where
  Entry:Qw8
  Stale:Bool
deriving DecidableEq
instance:Inhabited Qxa:=⟨⟨default,false⟩⟩
@[reducible] def Qxa.enc (r:Qxa):List D:=[.int .i64 r.Entry.Addr,.int .i64 r.Entry.Len,.int .i64 r.Entry.Cost,.int .i64 r.Entry.Label,.bool r.Stale]
structure Qxb where
  Name:Int
  Peer:Int
  Keys:(List Qw7)
  Boot:Int
  Want:(List Qw8)
  Turn:Int
  PeerBoot:Int
  PeerTurn:Int
  Up:Bool
  Left:Int
  Num:Int
  Under:Qw9
  Told:(List Qw8)
  All:Bool
  Got:Int
  Full:Bool
  Heard:(List Qxa)
  Keep:Int
deriving DecidableEq
instance:Inhabited Qxb:=⟨⟨0,0,[],0,[],0,0,0,false,0,0,default,[],false,0,false,[],0⟩⟩
@[reducible] def Qxb.enc (r:Qxb):List D:=[.int .i64 r.Name,.int .i64 r.Peer,slD Qw7.enc r.Keys,.int .i64 r.Boot,slD Qw8.enc r.Want,.int .i64 r.Turn,.int .i64 r.PeerBoot,.int .i64 r.PeerTurn,.bool r.Up,.int .i64 r.Left,.int .i64 r.Num,.int .i64 r.Under.Kind,.int .i64 r.Under.Entry.Addr,.int .i64 r.Under.Entry.Len,.int .i64 r.Under.Entry.Cost,.int .i64 r.Under.Entry.Label,slD Qw8.enc r.Told,.bool r.All,.int .i64 r.Got,.bool r.Full,slD Qxa.enc r.Heard,.int .i64 r.Keep]
structure Qxc where
  Up:Bool
  End:Qxb
deriving DecidableEq
instance:Inhabited Qxc:=⟨⟨false,default⟩⟩
@[reducible] def Qxc.enc (r:Qxc):List D:=[.bool r.Up,.int .i64 r.End.Name,.int .i64 r.End.Peer,slD Qw7.enc r.End.Keys,.int .i64 r.End.Boot,slD Qw8.enc r.End.Want,.int .i64 r.End.Turn,.int .i64 r.End.PeerBoot,.int .i64 r.End.PeerTurn,.bool r.End.Up,.int .i64 r.End.Left,.int .i64 r.End.Num,.int .i64 r.End.Under.Kind,.int .i64 r.End.Under.Entry.Addr,.int .i64 r.End.Under.Entry.Len,.int .i64 r.End.Under.Entry.Cost,.int .i64 r.End.Under.Entry.Label,slD Qw8.enc r.End.Told,.bool r.End.All,.int .i64 r.End.Got,.bool r.End.Full,slD Qxa.enc r.End.Heard,.int .i64 r.End.Keep]
structure Qxd where
  From:Int
  To:Int
  Key:Int
  Boot:Int
  Yours:Int
  Turn:Int
  Num:Int
  Heard:Int
  Change:Qw9
  Sum:Int
deriving DecidableEq
instance:Inhabited Qxd:=⟨⟨0,0,0,0,0,0,0,0,default,0⟩⟩
@[reducible] def Qxd.enc (r:Qxd):List D:=[.int .i64 r.From,.int .i64 r.To,.int .i64 r.Key,.int .i64 r.Boot,.int .i64 r.Yours,.int .i64 r.Turn,.int .i64 r.Num,.int .i64 r.Heard,.int .i64 r.Change.Kind,.int .i64 r.Change.Entry.Addr,.int .i64 r.Change.Entry.Len,.int .i64 r.Change.Entry.Cost,.int .i64 r.Change.Entry.Label,.int .i64 r.Sum]
structure Qxe where
  Sides:(List Qxc)
  Radio:(List Qxd)
deriving DecidableEq
instance:Inhabited Qxe:=⟨⟨[],[]⟩⟩
@[reducible] def Qxe.enc (r:Qxe):List D:=[slD Qxc.enc r.Sides,slD Qxd.enc r.Radio]
structure Qxf where
  Kind:Int
  At:Int
  Want:(List Qw8)
  Keys:(List Qw7)
  Word:Qxd
deriving DecidableEq
instance:Inhabited Qxf:=⟨⟨0,0,[],[],default⟩⟩
@[reducible] def Qxf.enc (r:Qxf):List D:=[.int .i64 r.Kind,.int .i64 r.At,slD Qw8.enc r.Want,slD Qw7.enc r.Keys,.int .i64 r.Word.From,.int .i64 r.Word.To,.int .i64 r.Word.Key,.int .i64 r.Word.Boot,.int .i64 r.Word.Yours,.int .i64 r.Word.Turn,.int .i64 r.Word.Num,.int .i64 r.Word.Heard,.int .i64 r.Word.Change.Kind,.int .i64 r.Word.Change.Entry.Addr,.int .i64 r.Word.Change.Entry.Len,.int .i64 r.Word.Change.Entry.Cost,.int .i64 r.Word.Change.Entry.Label,.int .i64 r.Word.Sum]
structure Qxg where
  Addr:Int
  Len:Int
deriving DecidableEq
instance:Inhabited Qxg:=⟨⟨0,0⟩⟩
@[reducible] def Qxg.enc (r:Qxg):List D:=[.int .i64 r.Addr,.int .i64 r.Len]
@[reducible] def dI (n:Int):V:=.d (.int .i64 n)
@[reducible] def dB (b:Bool):V:=.d (.bool b)
@[reducible] def heC (e:Qxb) (h:V):List V:=[dI e.Name,dI e.Peer,.d (slD Qw7.enc e.Keys),dI e.Boot,.d (slD Qw8.enc e.Want),dI e.Turn,dI e.PeerBoot,dI e.PeerTurn,dB e.Up,dI e.Left,dI e.Num,dI e.Under.Kind,dI e.Under.Entry.Addr,dI e.Under.Entry.Len,dI e.Under.Entry.Cost,dI e.Under.Entry.Label,.d (slD Qw8.enc e.Told),dB e.All,dI e.Got,dB e.Full,h,dI e.Keep]
@[reducible] def hwC (e:Qxd):List V:=[dI e.From,dI e.To,dI e.Key,dI e.Boot,dI e.Yours,dI e.Turn,dI e.Num,dI e.Heard,dI e.Change.Kind,dI e.Change.Entry.Addr,dI e.Change.Entry.Len,dI e.Change.Entry.Cost,dI e.Change.Entry.Label,dI e.Sum]
@[reducible] def hnC (e:Qw8):List V:=[dI e.Addr,dI e.Len,dI e.Cost,dI e.Label]
@[reducible] def hrC (e:Qxa):List V:=[dI e.Entry.Addr,dI e.Entry.Len,dI e.Entry.Cost,dI e.Entry.Label,dB e.Stale]
theorem sj_ {α:Type} {a b:α} (h:some a=some b):a=b:=Option.some.inj h
end Go.Proofs.YtjgjdobkahdgfaaGreat
