/-
  The structs of the program in Lean.
-/
import Derived.Test.YtjgjdobkahdgfaaGreatAbz6
set_option linter.all false
namespace Go.Proofs.YtjgjdobkahdgfaaGreat
open Go Go.Ab
set_option maxRecDepth 100000
set_option maxHeartbeats 200000
structure Qxk where
  b:(List Int)
  p:Int
deriving DecidableEq
instance:Inhabited Qxk:=⟨⟨[],0⟩⟩
@[reducible] def Qxk.enc (r:Qxk):List D:=[slD QN r.b,.int .i64 r.p]
structure Qxl where
  Id:Int
  Secret:Int
deriving DecidableEq
instance:Inhabited Qxl:=⟨⟨0,0⟩⟩
@[reducible] def Qxl.enc (r:Qxl):List D:=[.int .i64 r.Id,.int .i64 r.Secret]
structure Qxm where
  Addr:Int
  Len:Int
  Cost:Int
  Label:Int
deriving DecidableEq
instance:Inhabited Qxm:=⟨⟨0,0,0,0⟩⟩
@[reducible] def Qxm.enc (r:Qxm):List D:=[.int .i64 r.Addr,.int .i64 r.Len,.int .i64 r.Cost,.int .i64 r.Label]
structure Qxn where
  Kind:Int
  Entry:Qxm
deriving DecidableEq
instance:Inhabited Qxn:=⟨⟨0,default⟩⟩
@[reducible] def Qxn.enc (r:Qxn):List D:=[.int .i64 r.Kind,.int .i64 r.Entry.Addr,.int .i64 r.Entry.Len,.int .i64 r.Entry.Cost,.int .i64 r.Entry.Label]
structure Qxo where
  Entry:Qxm
  Stale:Bool
deriving DecidableEq
instance:Inhabited Qxo:=⟨⟨default,false⟩⟩
@[reducible] def Qxo.enc (r:Qxo):List D:=[.int .i64 r.Entry.Addr,.int .i64 r.Entry.Len,.int .i64 r.Entry.Cost,.int .i64 r.Entry.Label,.bool r.Stale]
structure Qxp where
  Name:Int
  Peer:Int
  Keys:(List Qxl)
  Boot:Int
  Want:(List Qxm)
  Turn:Int
  PeerBoot:Int
  PeerTurn:Int
  Up:Bool
  Left:Int
  Num:Int
  Under:Qxn
  Told:(List Qxm)
  All:Bool
  Got:Int
  Full:Bool
  Heard:(List Qxo)
  Keep:Int
deriving DecidableEq
instance:Inhabited Qxp:=⟨⟨0,0,[],0,[],0,0,0,false,0,0,default,[],false,0,false,[],0⟩⟩
@[reducible] def Qxp.enc (r:Qxp):List D:=[.int .i64 r.Name,.int .i64 r.Peer,slD Qxl.enc r.Keys,.int .i64 r.Boot,slD Qxm.enc r.Want,.int .i64 r.Turn,.int .i64 r.PeerBoot,.int .i64 r.PeerTurn,.bool r.Up,.int .i64 r.Left,.int .i64 r.Num,.int .i64 r.Under.Kind,.int .i64 r.Under.Entry.Addr,.int .i64 r.Under.Entry.Len,.int .i64 r.Under.Entry.Cost,.int .i64 r.Under.Entry.Label,slD Qxm.enc r.Told,.bool r.All,.int .i64 r.Got,.bool r.Full,slD Qxo.enc r.Heard,.int .i64 r.Keep]
structure Qxq where
  Up:Bool
  End:Qxp
deriving DecidableEq
instance:Inhabited Qxq:=⟨⟨false,default⟩⟩
@[reducible] def Qxq.enc (r:Qxq):List D:=[.bool r.Up,.int .i64 r.End.Name,.int .i64 r.End.Peer,slD Qxl.enc r.End.Keys,.int .i64 r.End.Boot,slD Qxm.enc r.End.Want,.int .i64 r.End.Turn,.int .i64 r.End.PeerBoot,.int .i64 r.End.PeerTurn,.bool r.End.Up,.int .i64 r.End.Left,.int .i64 r.End.Num,.int .i64 r.End.Under.Kind,.int .i64 r.End.Under.Entry.Addr,.int .i64 r.End.Under.Entry.Len,.int .i64 r.End.Under.Entry.Cost,.int .i64 r.End.Under.Entry.Label,slD Qxm.enc r.End.Told,.bool r.End.All,.int .i64 r.End.Got,.bool r.End.Full,slD Qxo.enc r.End.Heard,.int .i64 r.End.Keep]
structure Qxr where
  From:Int
  To:Int
  Key:Int
  Boot:Int
  Yours:Int
  Turn:Int
  Num:Int
  Heard:Int
  Change:Qxn
  Sum:Int
deriving DecidableEq
instance:Inhabited Qxr:=⟨⟨0,0,0,0,0,0,0,0,default,0⟩⟩
@[reducible] def Qxr.enc (r:Qxr):List D:=[.int .i64 r.From,.int .i64 r.To,.int .i64 r.Key,.int .i64 r.Boot,.int .i64 r.Yours,.int .i64 r.Turn,.int .i64 r.Num,.int .i64 r.Heard,.int .i64 r.Change.Kind,.int .i64 r.Change.Entry.Addr,.int .i64 r.Change.Entry.Len,.int .i64 r.Change.Entry.Cost,.int .i64 r.Change.Entry.Label,.int .i64 r.Sum]
structure Qxs where
  Sides:(List Qxq)
  Radio:(List Qxr)
deriving DecidableEq
instance:Inhabited Qxs:=⟨⟨[],[]⟩⟩
@[reducible] def Qxs.enc (r:Qxs):List D:=[slD Qxq.enc r.Sides,slD Qxr.enc r.Radio]
structure Qxt where
  Kind:Int
  At:Int
  Want:(List Qxm)
  Keys:(List Qxl)
  Word:Qxr
deriving DecidableEq
instance:Inhabited Qxt:=⟨⟨0,0,[],[],default⟩⟩
@[reducible] def Qxt.enc (r:Qxt):List D:=[.int .i64 r.Kind,.int .i64 r.At,slD Qxm.enc r.Want,slD Qxl.enc r.Keys,.int .i64 r.Word.From,.int .i64 r.Word.To,.int .i64 r.Word.Key,.int .i64 r.Word.Boot,.int .i64 r.Word.Yours,.int .i64 r.Word.Turn,.int .i64 r.Word.Num,.int .i64 r.Word.Heard,.int .i64 r.Word.Change.Kind,.int .i64 r.Word.Change.Entry.Addr,.int .i64 r.Word.Change.Entry.Len,.int .i64 r.Word.Change.Entry.Cost,.int .i64 r.Word.Change.Entry.Label,.int .i64 r.Word.Sum]
structure Qxu where
  Addr:Int
  Len:Int
deriving DecidableEq
instance:Inhabited Qxu:=⟨⟨0,0⟩⟩
@[reducible] def Qxu.enc (r:Qxu):List D:=[.int .i64 r.Addr,.int .i64 r.Len]
@[reducible] def dI (n:Int):V:=.d (.int .i64 n)
@[reducible] def dB (b:Bool):V:=.d (.bool b)
@[reducible] def heC (e:Qxp) (h:V):List V:=[dI e.Name,dI e.Peer,.d (slD Qxl.enc e.Keys),dI e.Boot,.d (slD Qxm.enc e.Want),dI e.Turn,dI e.PeerBoot,dI e.PeerTurn,dB e.Up,dI e.Left,dI e.Num,dI e.Under.Kind,dI e.Under.Entry.Addr,dI e.Under.Entry.Len,dI e.Under.Entry.Cost,dI e.Under.Entry.Label,.d (slD Qxm.enc e.Told),dB e.All,dI e.Got,dB e.Full,h,dI e.Keep]
@[reducible] def hwC (e:Qxr):List V:=[dI e.From,dI e.To,dI e.Key,dI e.Boot,dI e.Yours,dI e.Turn,dI e.Num,dI e.Heard,dI e.Change.Kind,dI e.Change.Entry.Addr,dI e.Change.Entry.Len,dI e.Change.Entry.Cost,dI e.Change.Entry.Label,dI e.Sum]
@[reducible] def hnC (e:Qxm):List V:=[dI e.Addr,dI e.Len,dI e.Cost,dI e.Label]
@[reducible] def hrC (e:Qxo):List V:=[dI e.Entry.Addr,dI e.Entry.Len,dI e.Entry.Cost,dI e.Entry.Label,dB e.Stale]
theorem sj_ {α:Type} {a b:α} (h:some a=some b):a=b:=Option.some.inj h
end Go.Proofs.YtjgjdobkahdgfaaGreat
