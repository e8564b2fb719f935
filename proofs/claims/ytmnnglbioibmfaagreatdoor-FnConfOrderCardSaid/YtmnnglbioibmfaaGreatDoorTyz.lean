/-
  The structs of the program in Lean.
-/
import Derived.Test.YtmnnglbioibmfaaGreatDoorAbz6
set_option linter.all false
namespace Go.Proofs.YtmnnglbioibmfaaGreatDoor
open Go Go.Ab
abbrev Bt:=ByteArray
set_option maxRecDepth 100000
set_option maxHeartbeats 200000
structure Qx7 where
 b:(List Int)
 p:Int
deriving DecidableEq
instance:Inhabited Qx7:=⟨⟨[],0⟩⟩
@[reducible] def Qx7.enc (r:Qx7):_root_.List D:=[slD Q3 r.b,.int .i64 r.p]
structure Qx8 where
 w:(List Bt)
deriving DecidableEq
instance:Inhabited Qx8:=⟨⟨[]⟩⟩
@[reducible] def Qx8.enc (r:Qx8):_root_.List D:=[slD encSb r.w]
structure form where
 word:Bt
 key:Int
 checks:(List Fnv)
deriving DecidableEq
instance:Inhabited form:=⟨⟨ByteArray.empty,0,[]⟩⟩
@[reducible] def form.enc (r:form):_root_.List D:=[.str r.word,.int .i64 r.key,slD Qbc r.checks]
structure Qx9 where
 Addr:Int
 Len:Int
deriving DecidableEq
instance:Inhabited Qx9:=⟨⟨0,0⟩⟩
@[reducible] def Qx9.enc (r:Qx9):_root_.List D:=[.int .i64 r.Addr,.int .i64 r.Len]
structure Qya where
 User:Bt
 Base:Int
 From:(List Bt)
 Lines:(List Bt)
deriving DecidableEq
instance:Inhabited Qya:=⟨⟨ByteArray.empty,0,[],[]⟩⟩
@[reducible] def Qya.enc (r:Qya):_root_.List D:=[.str r.User,.int .i64 r.Base,slD encSb r.From,slD encSb r.Lines]
structure Qyb where
 Edition:Int
 Lines:(List Bt)
 Trial:Int
 Back:(List Bt)
 Cands:(List Qya)
deriving DecidableEq
instance:Inhabited Qyb:=⟨⟨0,[],0,[],[]⟩⟩
@[reducible] def Qyb.enc (r:Qyb):_root_.List D:=[.int .i64 r.Edition,slD encSb r.Lines,.int .i64 r.Trial,slD encSb r.Back,slD Qya.enc r.Cands]
structure Qyc where
 Kind:Int
 Step:Int
 Edition:Int
 Ticks:Int
 Lines:(List Bt)
deriving DecidableEq
instance:Inhabited Qyc:=⟨⟨0,0,0,0,[]⟩⟩
@[reducible] def Qyc.enc (r:Qyc):_root_.List D:=[.int .i64 r.Kind,.int .i64 r.Step,.int .i64 r.Edition,.int .i64 r.Ticks,slD encSb r.Lines]
structure Qyd where
 Whole:Bool
 Edition:Int
 Trial:Bool
 Lines:(List Bt)
deriving DecidableEq
instance:Inhabited Qyd:=⟨⟨false,0,false,[]⟩⟩
@[reducible] def Qyd.enc (r:Qyd):_root_.List D:=[.bool r.Whole,.int .i64 r.Edition,.bool r.Trial,slD encSb r.Lines]
structure Qye where
 Up:Bool
 Box:Qyb
 Slots:(List Qyd)
 Live:Int
 Last:Int
 Job:Qyc
deriving DecidableEq
instance:Inhabited Qye:=⟨⟨false,default,[],0,0,default⟩⟩
@[reducible] def Qye.enc (r:Qye):_root_.List D:=[.bool r.Up,.int .i64 r.Box.Edition,slD encSb r.Box.Lines,.int .i64 r.Box.Trial,slD encSb r.Box.Back,slD Qya.enc r.Box.Cands,slD Qyd.enc r.Slots,.int .i64 r.Live,.int .i64 r.Last,.int .i64 r.Job.Kind,.int .i64 r.Job.Step,.int .i64 r.Job.Edition,.int .i64 r.Job.Ticks,slD encSb r.Job.Lines]
structure Qyf where
 Kind:Int
 User:Bt
 Line:Bt
 N:Int
deriving DecidableEq
instance:Inhabited Qyf:=⟨⟨0,ByteArray.empty,ByteArray.empty,0⟩⟩
@[reducible] def Qyf.enc (r:Qyf):_root_.List D:=[.int .i64 r.Kind,.str r.User,.str r.Line,.int .i64 r.N]
@[reducible] def dI (n:Int):V:=.d (.int .i64 n)
@[reducible] def dB (b:Bool):V:=.d (.bool b)
theorem sj_ {α:Type} {a b:α} (h:some a=some b):a=b:=Option.some.inj h
end Go.Proofs.YtmnnglbioibmfaaGreatDoor
