/-
  The structs of the program in Lean.
-/
import Derived.Test.YtjjkhncoafdfmaaGreatDoorAbz6
set_option linter.all false
namespace Go.Proofs.YtjjkhncoafdfmaaGreatDoor
open Go Go.Ab
abbrev Bt:=ByteArray
set_option maxRecDepth 100000
set_option maxHeartbeats 200000
structure l1Rd where
 b:(List Int)
 p:Int
deriving DecidableEq
instance:Inhabited l1Rd:=⟨⟨[],0⟩⟩
@[reducible] def l1Rd.enc (r:l1Rd):_root_.List D:=[slD Qo r.b,.int .i64 r.p]
structure QCe where
 w:(List Bt)
deriving DecidableEq
instance:Inhabited QCe:=⟨⟨[]⟩⟩
@[reducible] def QCe.enc (r:QCe):_root_.List D:=[slD Qi r.w]
structure QCf where
 b:(List Int)
 p:Int
deriving DecidableEq
instance:Inhabited QCf:=⟨⟨[],0⟩⟩
@[reducible] def QCf.enc (r:QCf):_root_.List D:=[slD Qo r.b,.int .i64 r.p]
structure QCg where
 Addr:Int
 Len:Int
 Cost:Int
 Label:Int
deriving DecidableEq
instance:Inhabited QCg:=⟨⟨0,0,0,0⟩⟩
@[reducible] def QCg.enc (r:QCg):_root_.List D:=[.int .i64 r.Addr,.int .i64 r.Len,.int .i64 r.Cost,.int .i64 r.Label]
structure QCh where
 Peer:Int
 Entries:(List QCg)
deriving DecidableEq
instance:Inhabited QCh:=⟨⟨0,[]⟩⟩
@[reducible] def QCh.enc (r:QCh):_root_.List D:=[.int .i64 r.Peer,slD QCg.enc r.Entries]
structure QCi where
 b:(List Int)
 p:Int
deriving DecidableEq
instance:Inhabited QCi:=⟨⟨[],0⟩⟩
@[reducible] def QCi.enc (r:QCi):_root_.List D:=[slD Qo r.b,.int .i64 r.p]
structure form where
 word:Bt
 key:Int
 checks:(List Fnv)
deriving DecidableEq
instance:Inhabited form:=⟨⟨ByteArray.empty,0,[]⟩⟩
@[reducible] def form.enc (r:form):_root_.List D:=[.str r.word,.int .i64 r.key,slD Qby r.checks]
structure QCj where
 Addr:Int
 Len:Int
deriving DecidableEq
instance:Inhabited QCj:=⟨⟨0,0⟩⟩
@[reducible] def QCj.enc (r:QCj):_root_.List D:=[.int .i64 r.Addr,.int .i64 r.Len]
structure QCk where
 Next:Int
 Port:Int
deriving DecidableEq
instance:Inhabited QCk:=⟨⟨0,0⟩⟩
@[reducible] def QCk.enc (r:QCk):_root_.List D:=[.int .i64 r.Next,.int .i64 r.Port]
structure QCl where
 Addr:Int
 Len:Int
 Hops:(List QCk)
deriving DecidableEq
instance:Inhabited QCl:=⟨⟨0,0,[]⟩⟩
@[reducible] def QCl.enc (r:QCl):_root_.List D:=[.int .i64 r.Addr,.int .i64 r.Len,slD QCk.enc r.Hops]
structure QCm where
 Addr:Int
 Key:Int
 Secret:Int
deriving DecidableEq
instance:Inhabited QCm:=⟨⟨0,0,0⟩⟩
@[reducible] def QCm.enc (r:QCm):_root_.List D:=[.int .i64 r.Addr,.int .i64 r.Key,.int .i64 r.Secret]
structure QCn where
 Port:Int
 Addr:Int
 Len:Int
 List:Bt
deriving DecidableEq
instance:Inhabited QCn:=⟨⟨0,0,0,ByteArray.empty⟩⟩
@[reducible] def QCn.enc (r:QCn):_root_.List D:=[.int .i64 r.Port,.int .i64 r.Addr,.int .i64 r.Len,.str r.List]
structure QCo where
 Addr:Int
 Len:Int
 Next:Int
deriving DecidableEq
instance:Inhabited QCo:=⟨⟨0,0,0⟩⟩
@[reducible] def QCo.enc (r:QCo):_root_.List D:=[.int .i64 r.Addr,.int .i64 r.Len,.int .i64 r.Next]
structure QCp where
 ports:(List QCn)
 vias:(List QCo)
 heard:(List QCh)
deriving DecidableEq
instance:Inhabited QCp:=⟨⟨[],[],[]⟩⟩
@[reducible] def QCp.enc (r:QCp):_root_.List D:=[slD QCn.enc r.ports,slD QCo.enc r.vias,slD QCh.enc r.heard]
structure QCq where
 ports:(List QCn)
 vias:(List QCo)
 peers:(List QCm)
 heard:(List QCh)
deriving DecidableEq
instance:Inhabited QCq:=⟨⟨[],[],[],[]⟩⟩
@[reducible] def QCq.enc (r:QCq):_root_.List D:=[slD QCn.enc r.ports,slD QCo.enc r.vias,slD QCm.enc r.peers,slD QCh.enc r.heard]
@[reducible] def dI (n:Int):V:=.d (.int .i64 n)
@[reducible] def dB (b:Bool):V:=.d (.bool b)
@[reducible] def hnC (e:QCg):List V:=[dI e.Addr,dI e.Len,dI e.Cost,dI e.Label]
theorem sj_ {α:Type} {a b:α} (h:some a=some b):a=b:=YC h
end Go.Proofs.YtjjkhncoafdfmaaGreatDoor
