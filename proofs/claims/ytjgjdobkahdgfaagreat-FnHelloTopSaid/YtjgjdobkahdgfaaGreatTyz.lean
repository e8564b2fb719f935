/-
  The structs of the program in Lean.
-/
import Derived.Test.YtjgjdobkahdgfaaGreatAbz6
set_option linter.all false
namespace Go.Proofs.YtjgjdobkahdgfaaGreat
open Go Go.Ab
set_option maxRecDepth 100000
set_option maxHeartbeats 200000
structure Qwe where
  b:(List Int)
  p:Int
deriving DecidableEq
instance:Inhabited Qwe:=⟨⟨[],0⟩⟩
@[reducible] def Qwe.enc (r:Qwe):List D:=[slD QR r.b,.int .i64 r.p]
structure Qwf where
  Id:Int
  Secret:Int
deriving DecidableEq
instance:Inhabited Qwf:=⟨⟨0,0⟩⟩
@[reducible] def Qwf.enc (r:Qwf):List D:=[.int .i64 r.Id,.int .i64 r.Secret]
structure Qwg where
  Addr:Int
  Len:Int
  Cost:Int
  Label:Int
deriving DecidableEq
instance:Inhabited Qwg:=⟨⟨0,0,0,0⟩⟩
@[reducible] def Qwg.enc (r:Qwg):List D:=[.int .i64 r.Addr,.int .i64 r.Len,.int .i64 r.Cost,.int .i64 r.Label]
structure Qwh where
  Kind:Int
  Entry:Qwg
deriving DecidableEq
instance:Inhabited Qwh:=⟨⟨0,default⟩⟩
@[reducible] def Qwh.enc (r:Qwh):List D:=[.int .i64 r.Kind,.int .i64 r.Entry.Addr,.int .i64 r.Entry.Len,.int .i64 r.Entry.Cost,.int .i64 r.Entry.Label]
structure Qwi where
  Entry:Qwg
  Stale:Bool
deriving DecidableEq
instance:Inhabited Qwi:=⟨⟨default,false⟩⟩
@[reducible] def Qwi.enc (r:Qwi):List D:=[.int .i64 r.Entry.Addr,.int .i64 r.Entry.Len,.int .i64 r.Entry.Cost,.int .i64 r.Entry.Label,.bool r.Stale]
structure Qwj where
  Name:Int
  Peer:Int
  Keys:(List Qwf)
  Boot:Int
  Want:(List Qwg)
  Turn:Int
  PeerBoot:Int
  PeerTurn:Int
  Up:Bool
  Left:Int
  Num:Int
  Under:Qwh
  Told:(List Qwg)
  All:Bool
  Got:Int
  Full:Bool
  Heard:(List Qwi)
  Keep:Int
deriving DecidableEq
instance:Inhabited Qwj:=⟨⟨0,0,[],0,[],0,0,0,false,0,0,default,[],false,0,false,[],0⟩⟩
@[reducible] def Qwj.enc (r:Qwj):List D:=[.int .i64 r.Name,.int .i64 r.Peer,slD Qwf.enc r.Keys,.int .i64 r.Boot,slD Qwg.enc r.Want,.int .i64 r.Turn,.int .i64 r.PeerBoot,.int .i64 r.PeerTurn,.bool r.Up,.int .i64 r.Left,.int .i64 r.Num,.int .i64 r.Under.Kind,.int .i64 r.Under.Entry.Addr,.int .i64 r.Under.Entry.Len,.int .i64 r.Under.Entry.Cost,.int .i64 r.Under.Entry.Label,slD Qwg.enc r.Told,.bool r.All,.int .i64 r.Got,.bool r.Full,slD Qwi.enc r.Heard,.int .i64 r.Keep]
structure Qwk where
  Up:Bool
  End:Qwj
deriving DecidableEq
instance:Inhabited Qwk:=⟨⟨false,default⟩⟩
@[reducible] def Qwk.enc (r:Qwk):List D:=[.bool r.Up,.int .i64 r.End.Name,.int .i64 r.End.Peer,slD Qwf.enc r.End.Keys,.int .i64 r.End.Boot,slD Qwg.enc r.End.Want,.int .i64 r.End.Turn,.int .i64 r.End.PeerBoot,.int .i64 r.End.PeerTurn,.bool r.End.Up,.int .i64 r.End.Left,.int .i64 r.End.Num,.int .i64 r.End.Under.Kind,.int .i64 r.End.Under.Entry.Addr,.int .i64 r.End.Under.Entry.Len,.int .i64 r.End.Under.Entry.Cost,.int .i64 r.End.Under.Entry.Label,slD Qwg.enc r.End.Told,.bool r.End.All,.int .i64 r.End.Got,.bool r.End.Full,slD Qwi.enc r.End.Heard,.int .i64 r.End.Keep]
structure Qwl where
  From:Int
  To:Int
  Key:Int
  Boot:Int
  Yours:Int
  Turn:Int
  Num:Int
  Heard:Int
  Change:Qwh
  Sum:Int
deriving DecidableEq
instance:Inhabited Qwl:=⟨⟨0,0,0,0,0,0,0,0,default,0⟩⟩
@[reducible] def Qwl.enc (r:Qwl):List D:=[.int .i64 r.From,.int .i64 r.To,.int .i64 r.Key,.int .i64 r.Boot,.int .i64 r.Yours,.int .i64 r.Turn,.int .i64 r.Num,.int .i64 r.Heard,.int .i64 r.Change.Kind,.int .i64 r.Change.Entry.Addr,.int .i64 r.Change.Entry.Len,.int .i64 r.Change.Entry.Cost,.int .i64 r.Change.Entry.Label,.int .i64 r.Sum]
structure Qwm where
  Sides:(List Qwk)
  Radio:(List Qwl)
deriving DecidableEq
instance:Inhabited Qwm:=⟨⟨[],[]⟩⟩
@[reducible] def Qwm.enc (r:Qwm):List D:=[slD Qwk.enc r.Sides,slD Qwl.enc r.Radio]
structure Qwn where
  Kind:Int
  At:Int
  Want:(List Qwg)
  Keys:(List Qwf)
  Word:Qwl
deriving DecidableEq
instance:Inhabited Qwn:=⟨⟨0,0,[],[],default⟩⟩
@[reducible] def Qwn.enc (r:Qwn):List D:=[.int .i64 r.Kind,.int .i64 r.At,slD Qwg.enc r.Want,slD Qwf.enc r.Keys,.int .i64 r.Word.From,.int .i64 r.Word.To,.int .i64 r.Word.Key,.int .i64 r.Word.Boot,.int .i64 r.Word.Yours,.int .i64 r.Word.Turn,.int .i64 r.Word.Num,.int .i64 r.Word.Heard,.int .i64 r.Word.Change.Kind,.int .i64 r.Word.Change.Entry.Addr,.int .i64 r.Word.Change.Entry.Len,.int .i64 r.Word.Change.Entry.Cost,.int .i64 r.Word.Change.Entry.Label,.int .i64 r.Word.Sum]
structure Qwo where
  Addr:Int
  Len:Int
deriving DecidableEq
instance:Inhabited Qwo:=⟨⟨0,0⟩⟩
@[reducible] def Qwo.enc (r:Qwo):List D:=[.int .i64 r.Addr,.int .i64 r.Len]
@[reducible] def dI (n:Int):V:=.d (.int .i64 n)
@[reducible] def dB (b:Bool):V:=.d (.bool b)
@[reducible] def heC (e:Qwj) (h:V):List V:=[dI e.Name,dI e.Peer,.d (slD Qwf.enc e.Keys),dI e.Boot,.d (slD Qwg.enc e.Want),dI e.Turn,dI e.PeerBoot,dI e.PeerTurn,dB e.Up,dI e.Left,dI e.Num,dI e.Under.Kind,dI e.Under.Entry.Addr,dI e.Under.Entry.Len,dI e.Under.Entry.Cost,dI e.Under.Entry.Label,.d (slD Qwg.enc e.Told),dB e.All,dI e.Got,dB e.Full,h,dI e.Keep]
@[reducible] def hwC (e:Qwl):List V:=[dI e.From,dI e.To,dI e.Key,dI e.Boot,dI e.Yours,dI e.Turn,dI e.Num,dI e.Heard,dI e.Change.Kind,dI e.Change.Entry.Addr,dI e.Change.Entry.Len,dI e.Change.Entry.Cost,dI e.Change.Entry.Label,dI e.Sum]
@[reducible] def hnC (e:Qwg):List V:=[dI e.Addr,dI e.Len,dI e.Cost,dI e.Label]
@[reducible] def hrC (e:Qwi):List V:=[dI e.Entry.Addr,dI e.Entry.Len,dI e.Entry.Cost,dI e.Entry.Label,dB e.Stale]
theorem sj_ {α:Type} {a b:α} (h:some a=some b):a=b:=Option.some.inj h
end Go.Proofs.YtjgjdobkahdgfaaGreat
