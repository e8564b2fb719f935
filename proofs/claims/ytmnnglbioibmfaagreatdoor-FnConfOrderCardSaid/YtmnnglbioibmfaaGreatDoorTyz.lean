/-
  The structs of the program in Lean.
-/
import Derived.Test.YtmnnglbioibmfaaGreatDoorAbz6
set_option linter.all false
namespace Go.Proofs.YtmnnglbioibmfaaGreatDoor
open Go Go.Ab
abbrev Bt:=ByteArray
set_option maxRecDepth 100000
set_option maxHeartbeats 200000
structure Qyc where
 b:(List Int)
 p:Int
deriving DecidableEq
instance:Inhabited Qyc:=⟨⟨[],0⟩⟩
@[reducible] def Qyc.enc (r:Qyc):_root_.List D:=[slD Q3 r.b,.int .i64 r.p]
structure Qyd where
 w:(List Bt)
deriving DecidableEq
instance:Inhabited Qyd:=⟨⟨[]⟩⟩
@[reducible] def Qyd.enc (r:Qyd):_root_.List D:=[slD encSb r.w]
structure form where
 word:Bt
 key:Int
 checks:(List Fnv)
deriving DecidableEq
instance:Inhabited form:=⟨⟨ByteArray.empty,0,[]⟩⟩
@[reducible] def form.enc (r:form):_root_.List D:=[.str r.word,.int .i64 r.key,slD Qbe r.checks]
structure Qye where
 Addr:Int
 Len:Int
deriving DecidableEq
instance:Inhabited Qye:=⟨⟨0,0⟩⟩
@[reducible] def Qye.enc (r:Qye):_root_.List D:=[.int .i64 r.Addr,.int .i64 r.Len]
structure Qyf where
 User:Bt
 Base:Int
 From:(List Bt)
 Lines:(List Bt)
deriving DecidableEq
instance:Inhabited Qyf:=⟨⟨ByteArray.empty,0,[],[]⟩⟩
@[reducible] def Qyf.enc (r:Qyf):_root_.List D:=[.str r.User,.int .i64 r.Base,slD encSb r.From,slD encSb r.Lines]
structure Qyg where
 Edition:Int
 Lines:(List Bt)
 Trial:Int
 Back:(List Bt)
 Cands:(List Qyf)
deriving DecidableEq
instance:Inhabited Qyg:=⟨⟨0,[],0,[],[]⟩⟩
@[reducible] def Qyg.enc (r:Qyg):_root_.List D:=[.int .i64 r.Edition,slD encSb r.Lines,.int .i64 r.Trial,slD encSb r.Back,slD Qyf.enc r.Cands]
structure Qyh where
 Kind:Int
 Step:Int
 Edition:Int
 Ticks:Int
 Lines:(List Bt)
deriving DecidableEq
instance:Inhabited Qyh:=⟨⟨0,0,0,0,[]⟩⟩
@[reducible] def Qyh.enc (r:Qyh):_root_.List D:=[.int .i64 r.Kind,.int .i64 r.Step,.int .i64 r.Edition,.int .i64 r.Ticks,slD encSb r.Lines]
structure Qyi where
 Whole:Bool
 Edition:Int
 Trial:Bool
 Lines:(List Bt)
deriving DecidableEq
instance:Inhabited Qyi:=⟨⟨false,0,false,[]⟩⟩
@[reducible] def Qyi.enc (r:Qyi):_root_.List D:=[.bool r.Whole,.int .i64 r.Edition,.bool r.Trial,slD encSb r.Lines]
structure Qyj where
 Up:Bool
 Box:Qyg
 Slots:(List Qyi)
 Live:Int
 Last:Int
 Job:Qyh
deriving DecidableEq
instance:Inhabited Qyj:=⟨⟨false,default,[],0,0,default⟩⟩
@[reducible] def Qyj.enc (r:Qyj):_root_.List D:=[.bool r.Up,.int .i64 r.Box.Edition,slD encSb r.Box.Lines,.int .i64 r.Box.Trial,slD encSb r.Box.Back,slD Qyf.enc r.Box.Cands,slD Qyi.enc r.Slots,.int .i64 r.Live,.int .i64 r.Last,.int .i64 r.Job.Kind,.int .i64 r.Job.Step,.int .i64 r.Job.Edition,.int .i64 r.Job.Ticks,slD encSb r.Job.Lines]
structure Qyk where
 Kind:Int
 User:Bt
 Line:Bt
 N:Int
deriving DecidableEq
instance:Inhabited Qyk:=⟨⟨0,ByteArray.empty,ByteArray.empty,0⟩⟩
@[reducible] def Qyk.enc (r:Qyk):_root_.List D:=[.int .i64 r.Kind,.str r.User,.str r.Line,.int .i64 r.N]
@[reducible] def dI (n:Int):V:=.d (.int .i64 n)
@[reducible] def dB (b:Bool):V:=.d (.bool b)
theorem sj_ {α:Type} {a b:α} (h:some a=some b):a=b:=Option.some.inj h
end Go.Proofs.YtmnnglbioibmfaaGreatDoor
