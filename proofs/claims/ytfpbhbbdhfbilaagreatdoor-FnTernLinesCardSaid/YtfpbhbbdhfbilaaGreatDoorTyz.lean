/-
  The structs of the program in Lean.
-/
import Derived.Test.YtfpbhbbdhfbilaaGreatDoorAbz6
set_option linter.all false
namespace Go.Proofs.YtfpbhbbdhfbilaaGreatDoor
open Go Go.Ab
abbrev Bt:=ByteArray
set_option maxRecDepth 100000
set_option maxHeartbeats 200000
structure l1Rd where
 b:(List Int)
 p:Int
deriving DecidableEq
instance:Inhabited l1Rd:=⟨⟨[],0⟩⟩
@[reducible] def l1Rd.enc (r:l1Rd):_root_.List D:=[slD QP r.b,.int .i64 r.p]
structure QzS where
 w:(List Bt)
deriving DecidableEq
instance:Inhabited QzS:=⟨⟨[]⟩⟩
@[reducible] def QzS.enc (r:QzS):_root_.List D:=[slD Qi r.w]
structure QzT where
 b:(List Int)
 p:Int
deriving DecidableEq
instance:Inhabited QzT:=⟨⟨[],0⟩⟩
@[reducible] def QzT.enc (r:QzT):_root_.List D:=[slD QP r.b,.int .i64 r.p]
structure form where
 word:Bt
 key:Int
 checks:(List Fnv)
deriving DecidableEq
instance:Inhabited form:=⟨⟨ByteArray.empty,0,[]⟩⟩
@[reducible] def form.enc (r:form):_root_.List D:=[.str r.word,.int .i64 r.key,slD QbV r.checks]
structure QzU where
 Addr:Int
 Len:Int
deriving DecidableEq
instance:Inhabited QzU:=⟨⟨0,0⟩⟩
@[reducible] def QzU.enc (r:QzU):_root_.List D:=[.int .i64 r.Addr,.int .i64 r.Len]
structure QzV where
 Permit:Bool
 From:QzU
 To:QzU
 Kind:Int
deriving DecidableEq
instance:Inhabited QzV:=⟨⟨false,default,default,0⟩⟩
@[reducible] def QzV.enc (r:QzV):_root_.List D:=[.bool r.Permit,.int .i64 r.From.Addr,.int .i64 r.From.Len,.int .i64 r.To.Addr,.int .i64 r.To.Len,.int .i64 r.Kind]
structure QzW where
 Addr:Int
 Len:Int
 Next:Int
deriving DecidableEq
instance:Inhabited QzW:=⟨⟨0,0,0⟩⟩
@[reducible] def QzW.enc (r:QzW):_root_.List D:=[.int .i64 r.Addr,.int .i64 r.Len,.int .i64 r.Next]
structure QzX where
 Addr:Int
 Key:Int
 Secret:Int
deriving DecidableEq
instance:Inhabited QzX:=⟨⟨0,0,0⟩⟩
@[reducible] def QzX.enc (r:QzX):_root_.List D:=[.int .i64 r.Addr,.int .i64 r.Key,.int .i64 r.Secret]
structure QzY where
 Kind:Int
 Outer:Int
 Inner:Int
 InnerPort:Int
deriving DecidableEq
instance:Inhabited QzY:=⟨⟨0,0,0,0⟩⟩
@[reducible] def QzY.enc (r:QzY):_root_.List D:=[.int .i64 r.Kind,.int .i64 r.Outer,.int .i64 r.Inner,.int .i64 r.InnerPort]
structure QzZ where
 Kind:Int
 Peer:Int
 PeerPort:Int
 Outer:Int
 Inner:Int
 InnerPort:Int
 Last:Int
deriving DecidableEq
instance:Inhabited QzZ:=⟨⟨0,0,0,0,0,0,0⟩⟩
@[reducible] def QzZ.enc (r:QzZ):_root_.List D:=[.int .i64 r.Kind,.int .i64 r.Peer,.int .i64 r.PeerPort,.int .i64 r.Outer,.int .i64 r.Inner,.int .i64 r.InnerPort,.int .i64 r.Last]
structure Qz0 where
 Addr:Int
 Len:Int
 Own:Int
 Low:Int
 High:Int
 Doors:(List QzY)
 Now:Int
 Entries:(List QzZ)
deriving DecidableEq
instance:Inhabited Qz0:=⟨⟨0,0,0,0,0,[],0,[]⟩⟩
@[reducible] def Qz0.enc (r:Qz0):_root_.List D:=[.int .i64 r.Addr,.int .i64 r.Len,.int .i64 r.Own,.int .i64 r.Low,.int .i64 r.High,slD QzY.enc r.Doors,.int .i64 r.Now,slD QzZ.enc r.Entries]
structure Qz1 where
 Kind:Int
 From:Int
 FromPort:Int
 To:Int
 ToPort:Int
deriving DecidableEq
instance:Inhabited Qz1:=⟨⟨0,0,0,0,0⟩⟩
@[reducible] def Qz1.enc (r:Qz1):_root_.List D:=[.int .i64 r.Kind,.int .i64 r.From,.int .i64 r.FromPort,.int .i64 r.To,.int .i64 r.ToPort]
structure Qz2 where
 Port:Int
 Addr:Int
 Len:Int
 List:Bt
deriving DecidableEq
instance:Inhabited Qz2:=⟨⟨0,0,0,ByteArray.empty⟩⟩
@[reducible] def Qz2.enc (r:Qz2):_root_.List D:=[.int .i64 r.Port,.int .i64 r.Addr,.int .i64 r.Len,.str r.List]
structure Qz3 where
 Addr:Int
 Len:Int
 Cost:Int
 Label:Int
deriving DecidableEq
instance:Inhabited Qz3:=⟨⟨0,0,0,0⟩⟩
@[reducible] def Qz3.enc (r:Qz3):_root_.List D:=[.int .i64 r.Addr,.int .i64 r.Len,.int .i64 r.Cost,.int .i64 r.Label]
@[reducible] def dI (n:Int):V:=.d (.int .i64 n)
@[reducible] def dB (b:Bool):V:=.d (.bool b)
@[reducible] def hnC (e:Qz3):List V:=[dI e.Addr,dI e.Len,dI e.Cost,dI e.Label]
theorem sj_ {α:Type} {a b:α} (h:some a=some b):a=b:=Option.some.inj h
end Go.Proofs.YtfpbhbbdhfbilaaGreatDoor
