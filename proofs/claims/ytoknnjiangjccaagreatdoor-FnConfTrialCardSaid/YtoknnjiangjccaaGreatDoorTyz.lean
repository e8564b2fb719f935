/-
  The structs of the program in Lean.
-/
import Derived.Test.YtoknnjiangjccaaGreatDoorAbz6
set_option linter.all false
namespace Go.Proofs.YtoknnjiangjccaaGreatDoor
open Go Go.Ab
abbrev Bt:=ByteArray
set_option maxRecDepth 100000
set_option maxHeartbeats 200000
structure QAp where
 b:(List Int)
 p:Int
deriving DecidableEq
instance:Inhabited QAp:=⟨⟨[],0⟩⟩
@[reducible] def QAp.enc (r:QAp):_root_.List D:=[slD Qt r.b,.int .i64 r.p]
structure QAq where
 w:(List Bt)
deriving DecidableEq
instance:Inhabited QAq:=⟨⟨[]⟩⟩
@[reducible] def QAq.enc (r:QAq):_root_.List D:=[slD encSb r.w]
structure QAr where
 User:Bt
 Base:Int
 From:(List Bt)
 Lines:(List Bt)
deriving DecidableEq
instance:Inhabited QAr:=⟨⟨ByteArray.empty,0,[],[]⟩⟩
@[reducible] def QAr.enc (r:QAr):_root_.List D:=[.str r.User,.int .i64 r.Base,slD encSb r.From,slD encSb r.Lines]
structure QAs where
 Edition:Int
 Lines:(List Bt)
 Trial:Int
 Back:(List Bt)
 Cands:(List QAr)
deriving DecidableEq
instance:Inhabited QAs:=⟨⟨0,[],0,[],[]⟩⟩
@[reducible] def QAs.enc (r:QAs):_root_.List D:=[.int .i64 r.Edition,slD encSb r.Lines,.int .i64 r.Trial,slD encSb r.Back,slD QAr.enc r.Cands]
structure QAt where
 Kind:Int
 Step:Int
 Edition:Int
 Ticks:Int
 Lines:(List Bt)
deriving DecidableEq
instance:Inhabited QAt:=⟨⟨0,0,0,0,[]⟩⟩
@[reducible] def QAt.enc (r:QAt):_root_.List D:=[.int .i64 r.Kind,.int .i64 r.Step,.int .i64 r.Edition,.int .i64 r.Ticks,slD encSb r.Lines]
structure QAu where
 Whole:Bool
 Edition:Int
 Trial:Bool
 Lines:(List Bt)
deriving DecidableEq
instance:Inhabited QAu:=⟨⟨false,0,false,[]⟩⟩
@[reducible] def QAu.enc (r:QAu):_root_.List D:=[.bool r.Whole,.int .i64 r.Edition,.bool r.Trial,slD encSb r.Lines]
structure QAv where
 Up:Bool
 Box:QAs
 Slots:(List QAu)
 Live:Int
 Last:Int
 Job:QAt
deriving DecidableEq
instance:Inhabited QAv:=⟨⟨false,default,[],0,0,default⟩⟩
@[reducible] def QAv.enc (r:QAv):_root_.List D:=[.bool r.Up,.int .i64 r.Box.Edition,slD encSb r.Box.Lines,.int .i64 r.Box.Trial,slD encSb r.Box.Back,slD QAr.enc r.Box.Cands,slD QAu.enc r.Slots,.int .i64 r.Live,.int .i64 r.Last,.int .i64 r.Job.Kind,.int .i64 r.Job.Step,.int .i64 r.Job.Edition,.int .i64 r.Job.Ticks,slD encSb r.Job.Lines]
structure QAw where
 Kind:Int
 User:Bt
 Line:Bt
 N:Int
deriving DecidableEq
instance:Inhabited QAw:=⟨⟨0,ByteArray.empty,ByteArray.empty,0⟩⟩
@[reducible] def QAw.enc (r:QAw):_root_.List D:=[.int .i64 r.Kind,.str r.User,.str r.Line,.int .i64 r.N]
structure form where
 word:Bt
 key:Int
 checks:(List Fnv)
deriving DecidableEq
instance:Inhabited form:=⟨⟨ByteArray.empty,0,[]⟩⟩
@[reducible] def form.enc (r:form):_root_.List D:=[.str r.word,.int .i64 r.key,slD QbA r.checks]
structure QAx where
 Addr:Int
 Len:Int
deriving DecidableEq
instance:Inhabited QAx:=⟨⟨0,0⟩⟩
@[reducible] def QAx.enc (r:QAx):_root_.List D:=[.int .i64 r.Addr,.int .i64 r.Len]
@[reducible] def dI (n:Int):V:=.d (.int .i64 n)
@[reducible] def dB (b:Bool):V:=.d (.bool b)
theorem sj_ {α:Type} {a b:α} (h:some a=some b):a=b:=Yw h
end Go.Proofs.YtoknnjiangjccaaGreatDoor
