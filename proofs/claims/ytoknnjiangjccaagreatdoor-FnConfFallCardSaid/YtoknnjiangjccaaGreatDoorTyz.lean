/-
  The structs of the program in Lean.
-/
import Derived.Test.YtoknnjiangjccaaGreatDoorAbz6
set_option linter.all false
namespace Go.Proofs.YtoknnjiangjccaaGreatDoor
open Go Go.Ab
abbrev Bt:=ByteArray
set_option maxRecDepth 100000
set_option maxHeartbeats 200000
structure QAe where
 b:(List Int)
 p:Int
deriving DecidableEq
instance:Inhabited QAe:=⟨⟨[],0⟩⟩
@[reducible] def QAe.enc (r:QAe):_root_.List D:=[slD Qq r.b,.int .i64 r.p]
structure QAf where
 w:(List Bt)
deriving DecidableEq
instance:Inhabited QAf:=⟨⟨[]⟩⟩
@[reducible] def QAf.enc (r:QAf):_root_.List D:=[slD encSb r.w]
structure QAg where
 User:Bt
 Base:Int
 From:(List Bt)
 Lines:(List Bt)
deriving DecidableEq
instance:Inhabited QAg:=⟨⟨ByteArray.empty,0,[],[]⟩⟩
@[reducible] def QAg.enc (r:QAg):_root_.List D:=[.str r.User,.int .i64 r.Base,slD encSb r.From,slD encSb r.Lines]
structure QAh where
 Edition:Int
 Lines:(List Bt)
 Trial:Int
 Back:(List Bt)
 Cands:(List QAg)
deriving DecidableEq
instance:Inhabited QAh:=⟨⟨0,[],0,[],[]⟩⟩
@[reducible] def QAh.enc (r:QAh):_root_.List D:=[.int .i64 r.Edition,slD encSb r.Lines,.int .i64 r.Trial,slD encSb r.Back,slD QAg.enc r.Cands]
structure QAi where
 Kind:Int
 Step:Int
 Edition:Int
 Ticks:Int
 Lines:(List Bt)
deriving DecidableEq
instance:Inhabited QAi:=⟨⟨0,0,0,0,[]⟩⟩
@[reducible] def QAi.enc (r:QAi):_root_.List D:=[.int .i64 r.Kind,.int .i64 r.Step,.int .i64 r.Edition,.int .i64 r.Ticks,slD encSb r.Lines]
structure QAj where
 Whole:Bool
 Edition:Int
 Trial:Bool
 Lines:(List Bt)
deriving DecidableEq
instance:Inhabited QAj:=⟨⟨false,0,false,[]⟩⟩
@[reducible] def QAj.enc (r:QAj):_root_.List D:=[.bool r.Whole,.int .i64 r.Edition,.bool r.Trial,slD encSb r.Lines]
structure QAk where
 Up:Bool
 Box:QAh
 Slots:(List QAj)
 Live:Int
 Last:Int
 Job:QAi
deriving DecidableEq
instance:Inhabited QAk:=⟨⟨false,default,[],0,0,default⟩⟩
@[reducible] def QAk.enc (r:QAk):_root_.List D:=[.bool r.Up,.int .i64 r.Box.Edition,slD encSb r.Box.Lines,.int .i64 r.Box.Trial,slD encSb r.Box.Back,slD QAg.enc r.Box.Cands,slD QAj.enc r.Slots,.int .i64 r.Live,.int .i64 r.Last,.int .i64 r.Job.Kind,.int .i64 r.Job.Step,.int .i64 r.Job.Edition,.int .i64 r.Job.Ticks,slD encSb r.Job.Lines]
structure QAl where
 Kind:Int
 User:Bt
 Line:Bt
 N:Int
deriving DecidableEq
instance:Inhabited QAl:=⟨⟨0,ByteArray.empty,ByteArray.empty,0⟩⟩
@[reducible] def QAl.enc (r:QAl):_root_.List D:=[.int .i64 r.Kind,.str r.User,.str r.Line,.int .i64 r.N]
structure form where
 word:Bt
 key:Int
 checks:(List Fnv)
deriving DecidableEq
instance:Inhabited form:=⟨⟨ByteArray.empty,0,[]⟩⟩
@[reducible] def form.enc (r:form):_root_.List D:=[.str r.word,.int .i64 r.key,slD Qbv r.checks]
structure QAm where
 Addr:Int
 Len:Int
deriving DecidableEq
instance:Inhabited QAm:=⟨⟨0,0⟩⟩
@[reducible] def QAm.enc (r:QAm):_root_.List D:=[.int .i64 r.Addr,.int .i64 r.Len]
@[reducible] def dI (n:Int):V:=.d (.int .i64 n)
@[reducible] def dB (b:Bool):V:=.d (.bool b)
theorem sj_ {α:Type} {a b:α} (h:some a=some b):a=b:=Yz h
end Go.Proofs.YtoknnjiangjccaaGreatDoor
