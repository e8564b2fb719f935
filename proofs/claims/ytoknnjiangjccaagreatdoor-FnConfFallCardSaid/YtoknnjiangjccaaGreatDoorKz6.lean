/-
  What some of the program's functions compute: their models, and that the functions compute these; no condition.
-/
import Derived.Test.YtoknnjiangjccaaGreatDoorTyz
import Derived.Test.YtoknnjiangjccaaGreatDoorTbz
import Derived.Test.YtoknnjiangjccaaGreatDoorLayz
import Derived.Test.YtoknnjiangjccaaGreatDoorLay4z
import Derived.Test.YtoknnjiangjccaaGreatDoorAbz8
import Derived.BigCall
import Derived.BigGuard
import Derived.BigQuiet
import Derived.Deep.QuietTactic
import Derived.Laws.OwnMore
import Derived.Maps.AppendAt
import Derived.Maps.OwnSet
import Derived.Maps.RangeWalk
import Derived.OwnWalk
import Derived.Sort.OwnSorted
import Derived.StringKeys
import Derived.WalkKit
import Derived.Test.YtoknnjiangjccaaGreatDoorKz5
set_option linter.all false
namespace Go.Proofs.YtoknnjiangjccaaGreatDoor
open Go Go.Ab Tryz
set_option maxRecDepth 100000
set_option maxHeartbeats 40000000
noncomputable section
def QdA (a0:QAk):Option (Int×QAk):=
(if(a0.Box.Trial==0)=true then
 some (0,a0)
else
(if((IntKind.i64.wrap (a0.Box.Trial-1))==0)=true then
 some (0,{a0 with Box:=(⟨IntKind.i64.wrap (a0.Box.Edition+1),a0.Box.Back,IntKind.i64.wrap (a0.Box.Trial-1),[],a0.Box.Cands⟩:QAh),Job:=(⟨3,0,0,0,[]⟩:QAi)})
else
 some (0,{a0 with Box:={a0.Box with Trial:=IntKind.i64.wrap (a0.Box.Trial-1)}})))
theorem Qgc {a0:QAk} {r:Int×QAk} (h:QdA a0=some r):EffC prog 64 [.ref 9000 0 0] [(9000,.box 34 [dB a0.Up,dI a0.Box.Edition,.d (slD encSb a0.Box.Lines),dI a0.Box.Trial,.d (slD encSb a0.Box.Back),.d (slD QAg.enc a0.Box.Cands),.d (slD QAj.enc a0.Slots),dI a0.Live,dI a0.Last,dI a0.Job.Kind,dI a0.Job.Step,dI a0.Job.Edition,dI a0.Job.Ticks,.d (slD encSb a0.Job.Lines)])] (dI r.1) [(9000,.box 34 [dB a0.Up,dI r.2.Box.Edition,.d (slD encSb r.2.Box.Lines),dI r.2.Box.Trial,.d (slD encSb r.2.Box.Back),.d (slD QAg.enc a0.Box.Cands),.d (slD QAj.enc a0.Slots),dI a0.Live,dI a0.Last,dI r.2.Job.Kind,dI r.2.Job.Step,dI r.2.Job.Edition,dI r.2.Job.Ticks,.d (slD encSb r.2.Job.Lines)])]:=by
 refine eY tOk f64 rfl (Qc tOk ?_);apply Qm h<;>intro _ h
 ·cases h
  exact lfE []
 ·refine Qc tOk ?_;apply Qm h<;>intro _ h
  ·cases h
   exact lfE []
  ·cases h
   exact lfE []
def Qbe (a0:QAk):Option (QAk):=
 gd ((0:Int)<=IntKind.i64.wrap (1-a0.Live)∧IntKind.i64.wrap (1-a0.Live)<((a0.Slots.length:Nat):Int))<|
(if(a0.Job.Step==0)=true then
 some ({a0 with Slots:=a0.Slots.set ((IntKind.i64.wrap (1-a0.Live)).toNat) (⟨false,0,false,[]⟩:QAj),Last:=a0.Job.Edition,Job:={a0.Job with Step:=IntKind.i64.wrap (a0.Job.Step+1)}})
else
(if(decide (a0.Job.Step<=((a0.Job.Lines.length:Nat):Int)))=true then
 none
else
(if(a0.Job.Step==(IntKind.i64.wrap (((a0.Job.Lines.length:Nat):Int)+1)))=true then
 bd (some (a0.Slots.set ((IntKind.i64.wrap (1-a0.Live)).toNat) ({(a0.Slots.getD ((IntKind.i64.wrap (1-a0.Live)).toNat) default) with Whole:=true}))) fun J=>
 bd (some (J.set ((IntKind.i64.wrap (1-a0.Live)).toNat) ({(J.getD ((IntKind.i64.wrap (1-a0.Live)).toNat) default) with Edition:=a0.Job.Edition}))) fun I=>
 bd (some (I.set ((IntKind.i64.wrap (1-a0.Live)).toNat) ({(I.getD ((IntKind.i64.wrap (1-a0.Live)).toNat) default) with Trial:=(decide (a0.Job.Ticks>0))}))) fun O=>
 some ({a0 with Slots:=O,Job:={a0.Job with Step:=IntKind.i64.wrap (a0.Job.Step+1)}})
else
 bd (α:=Int×List Bt) ((if(decide (a0.Job.Ticks>0))=true then
 some (a0.Job.Ticks,a0.Box.Lines)
else
 some (a0.Box.Trial,a0.Box.Back))) fun G=>
 some ({a0 with Box:=(⟨a0.Job.Edition,a0.Job.Lines,G.1,G.2,a0.Box.Cands⟩:QAh),Live:=IntKind.i64.wrap (1-a0.Live),Job:=(⟨0,0,0,0,[]⟩:QAi)}))))
theorem Qd2 {a0:QAk} {r:QAk} (h:Qbe a0=some r):EffC prog 135 [.ref 9000 0 0] [(9000,.box 34 [dB a0.Up,dI a0.Box.Edition,.d (slD encSb a0.Box.Lines),dI a0.Box.Trial,.d (slD encSb a0.Box.Back),.d (slD QAg.enc a0.Box.Cands),.osl 9001 0 a0.Slots.length,dI a0.Live,dI a0.Last,dI a0.Job.Kind,dI a0.Job.Step,dI a0.Job.Edition,dI a0.Job.Ticks,.d (slD encSb a0.Job.Lines)]),(9001,.arr 61 4 a0.Slots.length (rows QAj.enc a0.Slots))] (.tup []) [(9000,.box 34 [dB a0.Up,dI r.Box.Edition,.d (slD encSb r.Box.Lines),dI r.Box.Trial,.d (slD encSb r.Box.Back),.d (slD QAg.enc a0.Box.Cands),.osl 5001 0 r.Slots.length,dI r.Live,dI r.Last,dI r.Job.Kind,dI r.Job.Step,dI r.Job.Edition,dI r.Job.Ticks,.d (slD encSb r.Job.Lines)]),(5001,.arr 61 4 r.Slots.length (rows QAj.enc r.Slots))]:=by
 refine eY tOk f135 rfl ?_;obtain⟨g1,h⟩:=Qf h;refine Qaj tOk [.r 1 [(9000,.box 34 [dB a0.Up,dI a0.Box.Edition,.d (slD encSb a0.Box.Lines),dI a0.Box.Trial,.d (slD encSb a0.Box.Back),.d (slD QAg.enc a0.Box.Cands),.osl 9001 0 a0.Slots.length,dI a0.Live,dI a0.Last,dI a0.Job.Kind,dI a0.Job.Step,dI a0.Job.Edition,dI a0.Job.Ticks,.d (slD encSb a0.Job.Lines)]),(9001,.arr 61 4 a0.Slots.length (rows QAj.enc a0.Slots))] (.ref 9001 ((IntKind.i64.wrap (1-a0.Live)).toNat) 0) [],.l 6 [(9000,.box 34 [dB a0.Up,dI a0.Box.Edition,.d (slD encSb a0.Box.Lines),dI a0.Box.Trial,.d (slD encSb a0.Box.Back),.d (slD QAg.enc a0.Box.Cands),.osl 9001 0 a0.Slots.length,dI a0.Live,dI a0.Last,dI a0.Job.Kind,dI a0.Job.Step,dI a0.Job.Edition,dI a0.Job.Ticks,.d (slD encSb a0.Job.Lines)])] (.d (slD encSb a0.Job.Lines))] 10 [] [0,1,0,4,12,28,60,124,3,511] [] [9000,9001] (aI (eD [(9000,9000),(9001,9001)] 0 (QdO tOk (fn:=f81) (c:=Jw f81) (args:=[.ref 9000 0 0]) (bs:=[(9000,.box 34 [dB a0.Up,dI a0.Box.Edition,.d (slD encSb a0.Box.Lines),dI a0.Box.Trial,.d (slD encSb a0.Box.Back),.d (slD QAg.enc a0.Box.Cands),.osl 9001 0 a0.Slots.length,dI a0.Live,dI a0.Last,dI a0.Job.Kind,dI a0.Job.Step,dI a0.Job.Edition,dI a0.Job.Ticks,.d (slD encSb a0.Job.Lines)]),(9001,.arr 61 4 a0.Slots.length (rows QAj.enc a0.Slots))]) (res:=.ref 9001 ((IntKind.i64.wrap (1-a0.Live)).toNat) 0) (M:=[(9000,.box 34 [dB a0.Up,dI a0.Box.Edition,.d (slD encSb a0.Box.Lines),dI a0.Box.Trial,.d (slD encSb a0.Box.Back),.d (slD QAg.enc a0.Box.Cands),.osl 9001 0 a0.Slots.length,dI a0.Live,dI a0.Last,dI a0.Job.Kind,dI a0.Job.Step,dI a0.Job.Edition,dI a0.Job.Ticks,.d (slD encSb a0.Job.Lines)]),(9001,.arr 61 4 a0.Slots.length (rows QAj.enc a0.Slots))]) rfl rfl (by((conv=>whnf);(refine QP tOk [] 11 [] [0,1,3,7,0,16,48,112,240,511,1023] [] ?_);(conv=>whnf);(refine aI g1 ?_);(clear g1);(conv=>whnf);(refine aI (by kernel_rfl) ?_);(conv=>whnf);(exact lfE []))))) ?_);refine aI (by(conv=>whnf);exact⟨rfl,rfl⟩) (aK ?_);apply Qm h<;>intro _ h
 ·refine⟨(fun i=>if i=((IntKind.i64.wrap (1-a0.Live)).toNat) then [(.bool false:D),(.int .i64 0:D),(.bool false:D),(.nil:D)] else rows QAj.enc a0.Slots i),fun _ _=>rfl,?_⟩;cases h;exact lfE [.w 9001 a0.Slots.length (fun i=>if i=((IntKind.i64.wrap (1-a0.Live)).toNat) then [(.bool false:D),(.int .i64 0:D),(.bool false:D),(.nil:D)] else rows QAj.enc a0.Slots i) (rows QAj.enc (a0.Slots.set ((IntKind.i64.wrap (1-a0.Live)).toNat) (⟨false,0,false,[]⟩:QAj))) (rowsW (.same (.same (.same (.zero rfl .nilL))))),.s [(5001,9001),(9001,5001)]]
 ·apply Qm h<;>intro _ h
  ·cases h
  ·apply Qm h<;>intro _ h
   ·obtain⟨x2,Y,hlx2,h⟩:=Qee h;obtain⟨x3,U,hlx3,h⟩:=Qee h;obtain⟨x4,O,hlx4,h⟩:=Qee h;refine Qaj tOk [.a 16 [(9001,.arr 61 4 a0.Slots.length (rows QAj.enc a0.Slots))] (.any) [(9001,.arr 61 4 a0.Slots.length (rows QAj.enc x2))],.a 19 [(9001,.arr 61 4 a0.Slots.length (rows QAj.enc x2))] (.any) [(9001,.arr 61 4 a0.Slots.length (rows QAj.enc x3))],.a 22 [(9001,.arr 61 4 a0.Slots.length (rows QAj.enc x3))] (.any) [(9001,.arr 61 4 a0.Slots.length (rows QAj.enc x4))]] 23 [] [0,0,0,0,8,24,56,120,0,256,768,1792,3840,7936,8185,24569,57337,122875,253947,516091,1048575,2097151,4194303] [] [9001] (aI (by(conv=>whnf);exact Qpo (enc:=QAj.enc) Y ⟨rfl,rfl⟩) (aI (by(conv=>whnf);exact Qpo (enc:=QAj.enc) U ⟨rfl,rfl⟩) (aI (by(conv=>whnf);exact Qpo (enc:=QAj.enc) O ⟨rfl,rfl⟩) (aK ?_))));cases h;exact lfE [.s [(5001,9001),(9001,5001)]]
   ·obtain⟨G,I,h⟩:=Qb h;refine Zo tOk (fun J=>⟨0,142,[(0,.ref 9000 0 0)],[],[(9000,.box 34 [dB a0.Up,dI a0.Box.Edition,.d (slD encSb a0.Box.Lines),dI J.1,.d (slD encSb J.2),.d (slD QAg.enc a0.Box.Cands),.osl 9001 0 a0.Slots.length,dI (IntKind.i64.wrap (1-a0.Live)),dI a0.Last,dI a0.Job.Kind,dI (IntKind.i64.wrap (a0.Job.Step+1)),dI a0.Job.Edition,dI a0.Job.Ticks,.d (slD encSb a0.Job.Lines)]),(9001,.arr 61 4 a0.Slots.length (rows QAj.enc a0.Slots))],[⟨[(0,.ref 9000 0 0)],[]⟩]⟩) (fun J=>G=J) ?_ ?_
    ·apply Qm I<;>intro _ I
     ·refine Qaj tOk [.l 6 [(9000,.box 34 [dB a0.Up,dI a0.Box.Edition,.d (slD encSb a0.Box.Lines),dI a0.Box.Trial,.d (slD encSb a0.Box.Back),.d (slD QAg.enc a0.Box.Cands),.osl 9001 0 a0.Slots.length,dI (IntKind.i64.wrap (1-a0.Live)),dI a0.Last,dI a0.Job.Kind,dI (IntKind.i64.wrap (a0.Job.Step+1)),dI a0.Job.Edition,dI a0.Job.Ticks,.d (slD encSb a0.Job.Lines)])] (dI a0.Job.Ticks),.l 11 [(9000,.box 34 [dB a0.Up,dI a0.Box.Edition,.d (slD encSb a0.Box.Lines),dI a0.Box.Trial,.d (slD encSb a0.Box.Back),.d (slD QAg.enc a0.Box.Cands),.osl 9001 0 a0.Slots.length,dI (IntKind.i64.wrap (1-a0.Live)),dI a0.Last,dI a0.Job.Kind,dI (IntKind.i64.wrap (a0.Job.Step+1)),dI a0.Job.Edition,dI a0.Job.Ticks,.d (slD encSb a0.Job.Lines)])] (.d (slD encSb a0.Box.Lines)),.a 15 [(9000,.box 34 [dB a0.Up,dI a0.Box.Edition,.d (slD encSb a0.Box.Lines),dI a0.Box.Trial,.d (slD encSb a0.Box.Back),.d (slD QAg.enc a0.Box.Cands),.osl 9001 0 a0.Slots.length,dI (IntKind.i64.wrap (1-a0.Live)),dI a0.Last,dI a0.Job.Kind,dI (IntKind.i64.wrap (a0.Job.Step+1)),dI a0.Job.Edition,dI a0.Job.Ticks,.d (slD encSb a0.Job.Lines)])] (.any) [(9000,.box 34 [dB a0.Up,dI a0.Box.Edition,.d (slD encSb a0.Box.Lines),dI a0.Job.Ticks,.d (slD encSb a0.Box.Back),.d (slD QAg.enc a0.Box.Cands),.osl 9001 0 a0.Slots.length,dI (IntKind.i64.wrap (1-a0.Live)),dI a0.Last,dI a0.Job.Kind,dI (IntKind.i64.wrap (a0.Job.Step+1)),dI a0.Job.Edition,dI a0.Job.Ticks,.d (slD encSb a0.Job.Lines)])],.a 19 [(9000,.box 34 [dB a0.Up,dI a0.Box.Edition,.d (slD encSb a0.Box.Lines),dI a0.Job.Ticks,.d (slD encSb a0.Box.Back),.d (slD QAg.enc a0.Box.Cands),.osl 9001 0 a0.Slots.length,dI (IntKind.i64.wrap (1-a0.Live)),dI a0.Last,dI a0.Job.Kind,dI (IntKind.i64.wrap (a0.Job.Step+1)),dI a0.Job.Edition,dI a0.Job.Ticks,.d (slD encSb a0.Job.Lines)])] (.any) [(9000,.box 34 [dB a0.Up,dI a0.Box.Edition,.d (slD encSb a0.Box.Lines),dI a0.Job.Ticks,.d (slD encSb a0.Box.Lines),.d (slD QAg.enc a0.Box.Cands),.osl 9001 0 a0.Slots.length,dI (IntKind.i64.wrap (1-a0.Live)),dI a0.Last,dI a0.Job.Kind,dI (IntKind.i64.wrap (a0.Job.Step+1)),dI a0.Job.Edition,dI a0.Job.Ticks,.d (slD encSb a0.Job.Lines)])]] 20 [] [0,0,0,4,12,28,60,0,128,384,896,1920,4093,8189,16381,32765,65535,131071,262143,524287] [] [9000] (aI (by(conv=>whnf);exact⟨rfl,rfl⟩) (aI (by(conv=>whnf);exact⟨rfl,rfl⟩) (aI (by(conv=>whnf);exact⟨rfl,rfl⟩) (aI (by(conv=>whnf);exact⟨rfl,rfl⟩) (aK ?_)))));exact eZ I []
     ·exact eZ I []
    ·rintro _ rfl;refine Qaj tOk [.l 6 [(9000,.box 34 [dB a0.Up,dI a0.Box.Edition,.d (slD encSb a0.Box.Lines),dI G.1,.d (slD encSb G.2),.d (slD QAg.enc a0.Box.Cands),.osl 9001 0 a0.Slots.length,dI (IntKind.i64.wrap (1-a0.Live)),dI a0.Last,dI a0.Job.Kind,dI (IntKind.i64.wrap (a0.Job.Step+1)),dI a0.Job.Edition,dI a0.Job.Ticks,.d (slD encSb a0.Job.Lines)])] (.d (slD encSb a0.Job.Lines)),.l 11 [(9000,.box 34 [dB a0.Up,dI a0.Box.Edition,.d (slD encSb a0.Box.Lines),dI G.1,.d (slD encSb G.2),.d (slD QAg.enc a0.Box.Cands),.osl 9001 0 a0.Slots.length,dI (IntKind.i64.wrap (1-a0.Live)),dI a0.Last,dI a0.Job.Kind,dI (IntKind.i64.wrap (a0.Job.Step+1)),dI a0.Job.Edition,dI a0.Job.Ticks,.d (slD encSb a0.Job.Lines)])] (dI a0.Job.Edition),.a 15 [(9000,.box 34 [dB a0.Up,dI a0.Box.Edition,.d (slD encSb a0.Box.Lines),dI G.1,.d (slD encSb G.2),.d (slD QAg.enc a0.Box.Cands),.osl 9001 0 a0.Slots.length,dI (IntKind.i64.wrap (1-a0.Live)),dI a0.Last,dI a0.Job.Kind,dI (IntKind.i64.wrap (a0.Job.Step+1)),dI a0.Job.Edition,dI a0.Job.Ticks,.d (slD encSb a0.Job.Lines)])] (.any) [(9000,.box 34 [dB a0.Up,dI a0.Box.Edition,.d (slD encSb a0.Job.Lines),dI G.1,.d (slD encSb G.2),.d (slD QAg.enc a0.Box.Cands),.osl 9001 0 a0.Slots.length,dI (IntKind.i64.wrap (1-a0.Live)),dI a0.Last,dI a0.Job.Kind,dI (IntKind.i64.wrap (a0.Job.Step+1)),dI a0.Job.Edition,dI a0.Job.Ticks,.d (slD encSb a0.Job.Lines)])],.a 19 [(9000,.box 34 [dB a0.Up,dI a0.Box.Edition,.d (slD encSb a0.Job.Lines),dI G.1,.d (slD encSb G.2),.d (slD QAg.enc a0.Box.Cands),.osl 9001 0 a0.Slots.length,dI (IntKind.i64.wrap (1-a0.Live)),dI a0.Last,dI a0.Job.Kind,dI (IntKind.i64.wrap (a0.Job.Step+1)),dI a0.Job.Edition,dI a0.Job.Ticks,.d (slD encSb a0.Job.Lines)])] (.any) [(9000,.box 34 [dB a0.Up,dI a0.Job.Edition,.d (slD encSb a0.Job.Lines),dI G.1,.d (slD encSb G.2),.d (slD QAg.enc a0.Box.Cands),.osl 9001 0 a0.Slots.length,dI (IntKind.i64.wrap (1-a0.Live)),dI a0.Last,dI a0.Job.Kind,dI (IntKind.i64.wrap (a0.Job.Step+1)),dI a0.Job.Edition,dI a0.Job.Ticks,.d (slD encSb a0.Job.Lines)])]] 20 [] [0,0,0,4,12,28,60,0,128,384,896,1920,4093,8189,16381,32765,65535,131071,262143,524287] [] [9000] (aI (by(conv=>whnf);exact⟨rfl,rfl⟩) (aI (by(conv=>whnf);exact⟨rfl,rfl⟩) (aI (by(conv=>whnf);exact⟨rfl,rfl⟩) (aI (by(conv=>whnf);exact⟨rfl,rfl⟩) (aK ?_)))));cases h;exact lfE [.s [(5001,9001),(9001,5001)]]
def J3 (a0:QAk):Option (Int×QAk):=
(if(a0.Job.Kind==1)=true then
 bd (Qbe a0) fun G=>
 some (0,{G with Up:=a0.Up,Box:={G.Box with Cands:=a0.Box.Cands}})
else
(if(a0.Job.Kind==2)=true then
 gd ((0:Int)<=a0.Live∧a0.Live<((a0.Slots.length:Nat):Int))<|
 some (0,{a0 with Box:={a0.Box with Trial:=0,Back:=[]},Slots:=a0.Slots.set a0.Live.toNat ({(a0.Slots.getD a0.Live.toNat default) with Trial:=false}),Job:=(⟨0,0,0,0,[]⟩:QAi)})
else
(if(a0.Job.Kind==3)=true then
 some (0,{a0 with Live:=IntKind.i64.wrap (1-a0.Live),Job:=(⟨0,0,0,0,[]⟩:QAi)})
else
 some (11,a0))))
theorem QfW {a0:QAk} {r:Int×QAk} (h:J3 a0=some r):EffC prog 65 [.ref 9000 0 0] [(9000,.box 34 [dB a0.Up,dI a0.Box.Edition,.d (slD encSb a0.Box.Lines),dI a0.Box.Trial,.d (slD encSb a0.Box.Back),.d (slD QAg.enc a0.Box.Cands),.osl 9001 0 a0.Slots.length,dI a0.Live,dI a0.Last,dI a0.Job.Kind,dI a0.Job.Step,dI a0.Job.Edition,dI a0.Job.Ticks,.d (slD encSb a0.Job.Lines)]),(9001,.arr 61 4 a0.Slots.length (rows QAj.enc a0.Slots))] (dI r.1) [(9000,.box 34 [dB a0.Up,dI r.2.Box.Edition,.d (slD encSb r.2.Box.Lines),dI r.2.Box.Trial,.d (slD encSb r.2.Box.Back),.d (slD QAg.enc a0.Box.Cands),.osl 5001 0 r.2.Slots.length,dI r.2.Live,dI r.2.Last,dI r.2.Job.Kind,dI r.2.Job.Step,dI r.2.Job.Edition,dI r.2.Job.Ticks,.d (slD encSb r.2.Job.Lines)]),(5001,.arr 61 4 r.2.Slots.length (rows QAj.enc r.2.Slots))]:=by
 refine eY tOk f65 rfl (Qc tOk ?_);apply Qm h<;>intro _ h
 ·refine bE h [(9000,9000),(9001,9001)] 1000 (fun _=>Qd2) fun x1 h=>?_;cases h;exact lfE [.s [(5001,6001),(6001,5001)]]
 ·apply Qm h<;>intro _ h
  ·refine Qh6 tOk 20000 (fn:=f80) (c:=Jw f80) rfl rfl (by kernel_rfl) rfl ?_;obtain⟨G,h⟩:=Qf h;refine QP tOk [] 10 [] [0,1,3,7,0,16,48,112,255,511] [] (aI G (aK (⟨rows QAj.enc (a0.Slots.set a0.Live.toNat ({(a0.Slots.getD a0.Live.toNat default) with Trial:=false})),Qap Qrr rfl,?_⟩)));cases h;exact lfE [.s [(5001,9001),(9001,5001)]]
  ·apply Qm h<;>intro _ h
   ·cases h
    exact lfE [.s [(5001,9001),(9001,5001)]]
   ·cases h
    exact lfE [.s [(5001,9001),(9001,5001)]]
def Qbp (a0:QAk):Option (QAk):=
 gd ((0:Int)<=a0.Live∧a0.Live<((a0.Slots.length:Nat):Int))<|
(if(a0.Slots.getD a0.Live.toNat default).Trial=true then
 gd ((0:Int)<=IntKind.i64.wrap (1-a0.Live)∧IntKind.i64.wrap (1-a0.Live)<((a0.Slots.length:Nat):Int))<|
 bd (Qy ((a0.Slots.getD ((IntKind.i64.wrap (1-a0.Live)).toNat) default).Lines)) fun I=>
 some ({a0 with Up:=true,Box:=(⟨IntKind.i64.wrap (a0.Last+1),I,0,[],[]⟩:QAh),Job:=(⟨3,0,0,0,[]⟩:QAi)})
else
 gd ((0:Int)<=a0.Live∧a0.Live<((a0.Slots.length:Nat):Int))<|
 bd (Qy ((a0.Slots.getD a0.Live.toNat default).Lines)) fun G=>
 gd ((0:Int)<=a0.Live∧a0.Live<((a0.Slots.length:Nat):Int))<|
(if(((a0.Slots.getD a0.Live.toNat default).Edition) !=a0.Last)=true then
 some ({a0 with Up:=true,Box:=(⟨IntKind.i64.wrap (a0.Last+1),G,0,[],[]⟩:QAh)})
else
 some ({a0 with Up:=true,Box:=(⟨a0.Last,G,0,[],[]⟩:QAh)})))
theorem Qgd {a0:QAk} {r:QAk} (h:Qbp a0=some r):EffC prog 66 [.ref 9000 0 0] [(9000,.box 34 [dB a0.Up,dI a0.Box.Edition,.d (slD encSb a0.Box.Lines),dI a0.Box.Trial,.d (slD encSb a0.Box.Back),.d (slD QAg.enc a0.Box.Cands),.d (slD QAj.enc a0.Slots),dI a0.Live,dI a0.Last,dI a0.Job.Kind,dI a0.Job.Step,dI a0.Job.Edition,dI a0.Job.Ticks,.d (slD encSb a0.Job.Lines)])] (.tup []) [(9000,.box 34 [dB r.Up,dI r.Box.Edition,.d (slD encSb r.Box.Lines),dI r.Box.Trial,.d (slD encSb r.Box.Back),.d (slD QAg.enc r.Box.Cands),.d (slD QAj.enc a0.Slots),dI a0.Live,dI a0.Last,dI r.Job.Kind,dI r.Job.Step,dI r.Job.Edition,dI r.Job.Ticks,.d (slD encSb r.Job.Lines)])]:=by
 refine eY tOk f66 rfl (Qc tOk (Qh6 tOk 20000 (fn:=f80) (c:=Jw f80) rfl rfl (by kernel_rfl) rfl ?_));obtain⟨g1,h⟩:=Qf h;refine QP tOk [] 10 [] [0,1,3,7,0,16,48,112,255,511] [] (aI g1 (aK ?_));apply Qm h<;>intro _ h
 ·obtain⟨U,h⟩:=Qf h;obtain⟨I,O,h⟩:=Qb h;refine Qaj tOk [.r 3 [(9000,.box 34 [dB true,dI a0.Box.Edition,.d (slD encSb a0.Box.Lines),dI a0.Box.Trial,.d (slD encSb a0.Box.Back),.d (slD QAg.enc a0.Box.Cands),.d (slD QAj.enc a0.Slots),dI a0.Live,dI a0.Last,dI a0.Job.Kind,dI a0.Job.Step,dI a0.Job.Edition,dI a0.Job.Ticks,.d (slD encSb a0.Job.Lines)])] (.rp [.bool ((a0.Slots.getD ((IntKind.i64.wrap (1-a0.Live)).toNat) default).Whole),.int .i64 ((a0.Slots.getD ((IntKind.i64.wrap (1-a0.Live)).toNat) default).Edition),.bool ((a0.Slots.getD ((IntKind.i64.wrap (1-a0.Live)).toNat) default).Trial),slD encSb ((a0.Slots.getD ((IntKind.i64.wrap (1-a0.Live)).toNat) default).Lines)]) [],.e 7 [] (.osl 6001 0 I.length) [] [(6001,.arr 9 1 I.length (rows encSb I))],.l 11 [(9000,.box 34 [dB true,dI a0.Box.Edition,.d (slD encSb a0.Box.Lines),dI a0.Box.Trial,.d (slD encSb a0.Box.Back),.d (slD QAg.enc a0.Box.Cands),.d (slD QAj.enc a0.Slots),dI a0.Live,dI a0.Last,dI a0.Job.Kind,dI a0.Job.Step,dI a0.Job.Edition,dI a0.Job.Ticks,.d (slD encSb a0.Job.Lines)])] (dI a0.Last),.a 17 [(9000,.box 34 [dB true,dI a0.Box.Edition,.d (slD encSb a0.Box.Lines),dI a0.Box.Trial,.d (slD encSb a0.Box.Back),.d (slD QAg.enc a0.Box.Cands),.d (slD QAj.enc a0.Slots),dI a0.Live,dI a0.Last,dI a0.Job.Kind,dI a0.Job.Step,dI a0.Job.Edition,dI a0.Job.Ticks,.d (slD encSb a0.Job.Lines)])] (.any) [(9000,.box 34 [dB true,dI (IntKind.i64.wrap (a0.Last+1)),.osl 6001 0 I.length,dI 0,.d (.nil),.d (.nil),.d (slD QAj.enc a0.Slots),dI a0.Live,dI a0.Last,dI a0.Job.Kind,dI a0.Job.Step,dI a0.Job.Edition,dI a0.Job.Ticks,.d (slD encSb a0.Job.Lines)])],.a 20 [(9000,.box 34 [dB true,dI (IntKind.i64.wrap (a0.Last+1)),.osl 6001 0 I.length,dI 0,.d (.nil),.d (.nil),.d (slD QAj.enc a0.Slots),dI a0.Live,dI a0.Last,dI a0.Job.Kind,dI a0.Job.Step,dI a0.Job.Edition,dI a0.Job.Ticks,.d (slD encSb a0.Job.Lines)])] (.any) [(9000,.box 34 [dB true,dI (IntKind.i64.wrap (a0.Last+1)),.osl 6001 0 I.length,dI 0,.d (.nil),.d (.nil),.d (slD QAj.enc a0.Slots),dI a0.Live,dI a0.Last,dI 3,dI 0,dI 0,dI 0,.d (.nil)])]] 21 [] [0,0,0,4,12,28,60,124,0,256,768,1792,3840,8188,0,16381,49149,114685,262143,524287,1048575] [] [9000] (aI (eD [(9000,9000)] 0 (QdO tOk (fn:=f81) (c:=Jw f81) (args:=[.ref 9000 0 0]) (bs:=[(9000,.box 34 [dB true,dI a0.Box.Edition,.d (slD encSb a0.Box.Lines),dI a0.Box.Trial,.d (slD encSb a0.Box.Back),.d (slD QAg.enc a0.Box.Cands),.d (slD QAj.enc a0.Slots),dI a0.Live,dI a0.Last,dI a0.Job.Kind,dI a0.Job.Step,dI a0.Job.Edition,dI a0.Job.Ticks,.d (slD encSb a0.Job.Lines)])]) (res:=.rp [.bool ((a0.Slots.getD ((IntKind.i64.wrap (1-a0.Live)).toNat) default).Whole),.int .i64 ((a0.Slots.getD ((IntKind.i64.wrap (1-a0.Live)).toNat) default).Edition),.bool ((a0.Slots.getD ((IntKind.i64.wrap (1-a0.Live)).toNat) default).Trial),slD encSb ((a0.Slots.getD ((IntKind.i64.wrap (1-a0.Live)).toNat) default).Lines)]) (M:=[(9000,.box 34 [dB true,dI a0.Box.Edition,.d (slD encSb a0.Box.Lines),dI a0.Box.Trial,.d (slD encSb a0.Box.Back),.d (slD QAg.enc a0.Box.Cands),.d (slD QAj.enc a0.Slots),dI a0.Live,dI a0.Last,dI a0.Job.Kind,dI a0.Job.Step,dI a0.Job.Edition,dI a0.Job.Ticks,.d (slD encSb a0.Job.Lines)])]) rfl rfl (by((conv=>whnf);(refine QP tOk [] 11 [] [0,1,3,7,0,16,48,112,240,511,1023] [] ?_);(conv=>whnf);(refine aI U ?_);(clear U);(conv=>whnf);(refine aI (by kernel_rfl) ?_);(conv=>whnf);(exact lfE []))))) ?_);refine aI (eH [] 1000 ((QS O).eff rfl rfl)) (aI (by(conv=>whnf);exact⟨rfl,rfl⟩) (aI (by(conv=>whnf);exact⟨rfl,rfl⟩) (aI (by(conv=>whnf);exact⟨rfl,rfl⟩) (aK ?_))));cases h;exact lfE [.f [6001]]
 ·obtain⟨Y,h⟩:=Qf h;obtain⟨G,J,h⟩:=Qb h;refine Qaj tOk [.r 2 [(9000,.box 34 [dB true,dI a0.Box.Edition,.d (slD encSb a0.Box.Lines),dI a0.Box.Trial,.d (slD encSb a0.Box.Back),.d (slD QAg.enc a0.Box.Cands),.d (slD QAj.enc a0.Slots),dI a0.Live,dI a0.Last,dI a0.Job.Kind,dI a0.Job.Step,dI a0.Job.Edition,dI a0.Job.Ticks,.d (slD encSb a0.Job.Lines)])] (.rp [.bool ((a0.Slots.getD a0.Live.toNat default).Whole),.int .i64 ((a0.Slots.getD a0.Live.toNat default).Edition),.bool ((a0.Slots.getD a0.Live.toNat default).Trial),slD encSb ((a0.Slots.getD a0.Live.toNat default).Lines)]) [],.u 6 1000 (.osl 5001 0 G.length) [⟨5001,9,1,G.length,rows encSb G⟩],.l 10 [(9000,.box 34 [dB true,dI a0.Box.Edition,.d (slD encSb a0.Box.Lines),dI a0.Box.Trial,.d (slD encSb a0.Box.Back),.d (slD QAg.enc a0.Box.Cands),.d (slD QAj.enc a0.Slots),dI a0.Live,dI a0.Last,dI a0.Job.Kind,dI a0.Job.Step,dI a0.Job.Edition,dI a0.Job.Ticks,.d (slD encSb a0.Job.Lines)])] (dI a0.Last)] 14 [] [0,0,2,6,14,30,62,0,128,384,896,2046,4095,8191] [16383] [9000] (aI (eD [(9000,9000)] 0 (QdO tOk (fn:=f80) (c:=Jw f80) (args:=[.ref 9000 0 0]) (bs:=[(9000,.box 34 [dB true,dI a0.Box.Edition,.d (slD encSb a0.Box.Lines),dI a0.Box.Trial,.d (slD encSb a0.Box.Back),.d (slD QAg.enc a0.Box.Cands),.d (slD QAj.enc a0.Slots),dI a0.Live,dI a0.Last,dI a0.Job.Kind,dI a0.Job.Step,dI a0.Job.Edition,dI a0.Job.Ticks,.d (slD encSb a0.Job.Lines)])]) (res:=.rp [.bool ((a0.Slots.getD a0.Live.toNat default).Whole),.int .i64 ((a0.Slots.getD a0.Live.toNat default).Edition),.bool ((a0.Slots.getD a0.Live.toNat default).Trial),slD encSb ((a0.Slots.getD a0.Live.toNat default).Lines)]) (M:=[(9000,.box 34 [dB true,dI a0.Box.Edition,.d (slD encSb a0.Box.Lines),dI a0.Box.Trial,.d (slD encSb a0.Box.Back),.d (slD QAg.enc a0.Box.Cands),.d (slD QAj.enc a0.Slots),dI a0.Live,dI a0.Last,dI a0.Job.Kind,dI a0.Job.Step,dI a0.Job.Edition,dI a0.Job.Ticks,.d (slD encSb a0.Job.Lines)])]) rfl rfl (by((conv=>whnf);(refine QP tOk [] 10 [] [0,1,3,7,0,16,48,112,255,511] [] ?_);(conv=>whnf);(refine aI Y ?_);(clear Y);(conv=>whnf);(refine aI (by kernel_rfl) ?_);(conv=>whnf);(exact lfE []))))) ?_);refine aI (QB (QS J) (by kernel_rfl)) (aI (by(conv=>whnf);exact⟨rfl,rfl⟩) (aK ?_));obtain⟨g6,h⟩:=Qf h;refine Qaj tOk [.r 1 [(6001,.arr 9 1 G.length (rows encSb G)),(9000,.box 34 [dB true,dI a0.Last,.osl 6001 0 G.length,dI 0,.d (.nil),.d (.nil),.d (slD QAj.enc a0.Slots),dI a0.Live,dI a0.Last,dI a0.Job.Kind,dI a0.Job.Step,dI a0.Job.Edition,dI a0.Job.Ticks,.d (slD encSb a0.Job.Lines)])] (.rp [.bool ((a0.Slots.getD a0.Live.toNat default).Whole),.int .i64 ((a0.Slots.getD a0.Live.toNat default).Edition),.bool ((a0.Slots.getD a0.Live.toNat default).Trial),slD encSb ((a0.Slots.getD a0.Live.toNat default).Lines)]) [],.l 8 [(9000,.box 34 [dB true,dI a0.Last,.osl 6001 0 G.length,dI 0,.d (.nil),.d (.nil),.d (slD QAj.enc a0.Slots),dI a0.Live,dI a0.Last,dI a0.Job.Kind,dI a0.Job.Step,dI a0.Job.Edition,dI a0.Job.Ticks,.d (slD encSb a0.Job.Lines)])] (dI a0.Last)] 10 [] [0,1,3,7,15,0,32,96,224,511] [] [6001,9000] (aI (eD [(6001,6001),(9000,9000)] 0 (QdO tOk (fn:=f80) (c:=Jw f80) (args:=[.ref 9000 0 0]) (bs:=[(6001,.arr 9 1 G.length (rows encSb G)),(9000,.box 34 [dB true,dI a0.Last,.osl 6001 0 G.length,dI 0,.d (.nil),.d (.nil),.d (slD QAj.enc a0.Slots),dI a0.Live,dI a0.Last,dI a0.Job.Kind,dI a0.Job.Step,dI a0.Job.Edition,dI a0.Job.Ticks,.d (slD encSb a0.Job.Lines)])]) (res:=.rp [.bool ((a0.Slots.getD a0.Live.toNat default).Whole),.int .i64 ((a0.Slots.getD a0.Live.toNat default).Edition),.bool ((a0.Slots.getD a0.Live.toNat default).Trial),slD encSb ((a0.Slots.getD a0.Live.toNat default).Lines)]) (M:=[(6001,.arr 9 1 G.length (rows encSb G)),(9000,.box 34 [dB true,dI a0.Last,.osl 6001 0 G.length,dI 0,.d (.nil),.d (.nil),.d (slD QAj.enc a0.Slots),dI a0.Live,dI a0.Last,dI a0.Job.Kind,dI a0.Job.Step,dI a0.Job.Edition,dI a0.Job.Ticks,.d (slD encSb a0.Job.Lines)])]) rfl rfl (by((conv=>whnf);(refine QP tOk [] 10 [] [0,1,3,7,0,16,48,112,255,511] [] ?_);(conv=>whnf);(refine aI g6 ?_);(clear g6);(conv=>whnf);(refine aI (by kernel_rfl) ?_);(conv=>whnf);(exact lfE []))))) ?_);refine aI (by(conv=>whnf);exact⟨rfl,rfl⟩) (aK ?_);apply Qm h<;>intro _ h
  ·cases h
   exact lfE [.f [6001]]
  ·cases h
   exact lfE [.f [6001]]
def Q4 (a0:QAk) (G:QAl):Option (Int×QAk):=
(if(G.Kind==1)=true then
 bd (QcY a0 G.User) fun x1=>
 some (x1.1,{a0 with Box:={a0.Box with Cands:=x1.2.Box.Cands}})
else
 bd (α:=Bool) ((if(G.Kind==2)=true then
 some (G.Kind==2)
else
 some (G.Kind==3))) fun x2=>
(if x2=true then
 bd (Qdz a0 G) fun x5=>
 some (x5.1,{a0 with Box:={a0.Box with Cands:=x5.2.Box.Cands}})
else
(if(G.Kind==4)=true then
 bd (QcH a0 G.User) fun Y=>
 some (Y.1,{a0 with Box:={a0.Box with Cands:=Y.2.Box.Cands}})
else
(if(G.Kind==5)=true then
 bd (QcI a0 G.User G.N) fun O=>
 some (O.1,{a0 with Box:={a0.Box with Cands:=O.2.Box.Cands},Job:=O.2.Job})
else
(if(G.Kind==6)=true then
 bd (Qcf a0 G.User G.N) fun x8=>
 some (x8.1,{a0 with Job:=x8.2.Job})
else
(if(G.Kind==7)=true then
 bd (QdA a0) fun J=>
 some (J.1,{a0 with Box:={J.2.Box with Cands:=a0.Box.Cands},Job:=J.2.Job})
else
(if(G.Kind==8)=true then
 bd (J3 a0) fun I=>
 some (I.1,{I.2 with Up:=a0.Up,Box:={I.2.Box with Cands:=a0.Box.Cands}})
else
(if(G.Kind==9)=true then
 some (0,{a0 with Up:=false,Box:=(⟨0,[],0,[],[]⟩:QAh),Job:=(⟨0,0,0,0,[]⟩:QAi)})
else
(if(G.Kind==10)=true then
 bd (Qbp a0) fun U=>
 some (0,{U with Slots:=a0.Slots,Live:=a0.Live,Last:=a0.Last})
else
 some (0,a0))))))))))
theorem Qho {a0:QAk} {G:QAl} {r:Int×QAk} (h:Q4 a0 G=some r):EffC prog 28 [.ref 9000 0 0,.agg [dI G.Kind,.d (.str G.User),.d (.str G.Line),dI G.N]] [(9000,.box 34 [dB a0.Up,dI a0.Box.Edition,.d (slD encSb a0.Box.Lines),dI a0.Box.Trial,.d (slD encSb a0.Box.Back),.osl 9001 0 a0.Box.Cands.length,.osl 9002 0 a0.Slots.length,dI a0.Live,dI a0.Last,dI a0.Job.Kind,dI a0.Job.Step,dI a0.Job.Edition,dI a0.Job.Ticks,.d (slD encSb a0.Job.Lines)]),(9001,.arr 93 4 a0.Box.Cands.length (rows QAg.enc a0.Box.Cands)),(9002,.arr 61 4 a0.Slots.length (rows QAj.enc a0.Slots))] (dI r.1) [(9000,.box 34 [dB r.2.Up,dI r.2.Box.Edition,.d (slD encSb r.2.Box.Lines),dI r.2.Box.Trial,.d (slD encSb r.2.Box.Back),.d (slD QAg.enc r.2.Box.Cands),.d (slD QAj.enc r.2.Slots),dI r.2.Live,dI r.2.Last,dI r.2.Job.Kind,dI r.2.Job.Step,dI r.2.Job.Edition,dI r.2.Job.Ticks,.d (slD encSb r.2.Job.Lines)])]:=by
 refine eY tOk f28 rfl (Qc tOk ?_);apply Qm h<;>intro _ h
 ·obtain⟨x1,U,h⟩:=Qb h;refine Zl [9002] (cE [(9000,9000),(9001,9001)] 1000 (QfV U) ?_);cases h;exact lfE [.f [6001]]
 ·obtain⟨x2,I,h⟩:=Qb h;refine Zo tOk (fun s3=>⟨0,66,[(0,.ref 9000 0 0),(3,.ref 3 0 0),(6,dI G.Kind),(13,dB s3)],[],[(3,.box 41 [dI G.Kind,.d (.str G.User),.d (.str G.Line),dI G.N]),(9000,.box 34 [dB a0.Up,dI a0.Box.Edition,.d (slD encSb a0.Box.Lines),dI a0.Box.Trial,.d (slD encSb a0.Box.Back),.osl 9001 0 a0.Box.Cands.length,.osl 9002 0 a0.Slots.length,dI a0.Live,dI a0.Last,dI a0.Job.Kind,dI a0.Job.Step,dI a0.Job.Edition,dI a0.Job.Ticks,.d (slD encSb a0.Job.Lines)]),(9001,.arr 93 4 a0.Box.Cands.length (rows QAg.enc a0.Box.Cands)),(9002,.arr 61 4 a0.Slots.length (rows QAj.enc a0.Slots))],[⟨[(0,.ref 9000 0 0)],[]⟩]⟩) (fun s3=>x2=s3) ?_ ?_
  ·apply Qm I<;>intro _ I
   ·exact eZ I []
   ·exact eZ I []
  ·rintro _ rfl;apply Qm h<;>intro _ h
   ·obtain⟨x5,Y,h⟩:=Qb h;refine Zl [9002] (cE [(9000,9000),(9001,9001)] 0 (Qgb Y) ?_);cases h;exact lfE []
   ·apply Qm h<;>intro _ h
    ·obtain⟨x6,a3,h⟩:=Qb h;refine Zl [9002] (cE [(9000,9000),(9001,9001)] 1000 (Qfm a3) ?_);cases h;exact lfE [.f [6001]]
    ·apply Qm h<;>intro _ h
     ·obtain⟨x7,a5,h⟩:=Qb h;refine Zl [9002] (cE [(9000,9000),(9001,9001)] 1000 (Qfn a5) ?_);cases h;exact lfE [.f [6001]]
     ·apply Qm h<;>intro _ h
      ·obtain⟨x8,a2,h⟩:=Qb h;refine Zl [9001,9002] (cE [(9000,9000)] 0 (QeV a2) ?_);cases h;exact lfE []
      ·apply Qm h<;>intro _ h
       ·obtain⟨x9,a4,h⟩:=Qb h;refine Zl [9001,9002] (cE [(9000,9000)] 0 (Qgc a4) ?_);cases h;exact lfE []
       ·apply Qm h<;>intro _ h
        ·obtain⟨x10,J,h⟩:=Qb h;refine Zl [9001] (cE [(9000,9000),(9001,9002)] 1000 (QfW J) ?_);cases h;exact lfE [.f [6001]]
        ·apply Qm h<;>intro _ h
         ·cases h
          exact lfE [.f [9002]]
         ·apply Qm h<;>intro _ h
          ·obtain⟨x11,O,h⟩:=Qb h;refine Zl [9001,9002] (cE [(9000,9000)] 0 (Qgd O) ?_);cases h;exact lfE []
          ·cases h
           exact lfE [.f [9001,9002]]
def Qaz (a0:QAk) (I:QAl):Option (QAk×Int):=
 bd (QR a0) fun U=>
(if(!U)=true then
 some ((⟨false,(⟨0,[],0,[],[]⟩:QAh),[],0,0,(⟨0,0,0,0,[]⟩:QAi)⟩:QAk),1)
else
 bd (Qbn a0) fun J=>
 bd (Qv I.Kind 1 10) fun Y=>
(if(!Y)=true then
 some (J,2)
else
(if(a0.Up==(I.Kind==10))=true then
 some (J,12)
else
 bd (Q4 J I) fun G=>
(if(G.1 !=0)=true then
 bd (Qbn a0) fun O=>
 some (O,G.1)
else
 some (G.2,0)))))
theorem QkP {a0:QAk} {G:QAl} {r:QAk×Int} (h:Qaz a0 G=some r):EffC prog 8 [.agg [dB a0.Up,dI a0.Box.Edition,.d (slD encSb a0.Box.Lines),dI a0.Box.Trial,.d (slD encSb a0.Box.Back),.d (slD QAg.enc a0.Box.Cands),.d (slD QAj.enc a0.Slots),dI a0.Live,dI a0.Last,dI a0.Job.Kind,dI a0.Job.Step,dI a0.Job.Edition,dI a0.Job.Ticks,.d (slD encSb a0.Job.Lines)],.agg [dI G.Kind,.d (.str G.User),.d (.str G.Line),dI G.N]] [] (.tup [.agg [dB r.1.Up,dI r.1.Box.Edition,.d (slD encSb r.1.Box.Lines),dI r.1.Box.Trial,.d (slD encSb r.1.Box.Back),.d (slD QAg.enc r.1.Box.Cands),.d (slD QAj.enc r.1.Slots),dI r.1.Live,dI r.1.Last,dI r.1.Job.Kind,dI r.1.Job.Step,dI r.1.Job.Edition,dI r.1.Job.Ticks,.d (slD encSb r.1.Job.Lines)],dI r.2]) []:=by
 refine eY tOk f8 rfl (Qc tOk (bC h 0 (fun _=>Jy) fun x1 h=>?_));apply Qm h<;>intro _ h
 ·cases h
  exact lfE []
 ·refine bE h [] 1000 (fun _=>Qf9) fun x2 h=>Qc tOk (bC h 0 (fun _=>QQ) fun x3 h=>?_);apply Qm h<;>intro _ h
  ·cases h
   exact lfE [.f [6001,6002,6003,6004,6005]]
  ·apply Qm h<;>intro _ h
   ·cases h
    exact lfE [.f [6001,6002,6003,6004,6005]]
   ·refine Qc tOk ?_;obtain⟨x4,I,h⟩:=Qb h;refine Zl [6001,6002,6005] (cE [(9000,6),(9001,6003),(9002,6004)] 0 (Qho I) ?_);apply Qm h<;>intro _ h
    ·refine bE h [] 2000 (fun _=>Qf9) fun x5 h=>?_;cases h;exact lfE [.f [7001,7002,7003,7004,7005]]
    ·cases h
     exact lfE []
@[reducible] def csC (a:QAk) (ed:Int) (ln:V) (tr:Int) (bk cd sl:V) (lv:Int) (jl:V):List V:=[dB a.Up,dI ed,ln,dI tr,bk,cd,sl,dI lv,dI a.Last,dI a.Job.Kind,dI a.Job.Step,dI a.Job.Edition,dI a.Job.Ticks,jl]
@[reducible] def csD (a:QAk) (ss:List QAj) (lv:Int):List V:=csC a a.Box.Edition (.d (slD encSb a.Box.Lines)) a.Box.Trial (.d (slD encSb a.Box.Back)) (.d (slD QAg.enc a.Box.Cands)) (.d (slD QAj.enc ss)) lv (.d (slD encSb a.Job.Lines))
@[reducible] def sl2 (s0 s1:QAj) (l0 l1:V):List V:=[dB s0.Whole,dI s0.Edition,dB s0.Trial,l0,dB s1.Whole,dI s1.Edition,dB s1.Trial,l1]
@[reducible] def stA (xs:List Bt):Blk:=.arr 9 1 xs.length (rows encSb xs)
def QeW (a0:QAk) (s0 s1:QAj):Option (QAh×List Bt×List Bt×List Bt):=
 bd (QbP a0.Box) fun G=>
 bd (Qy a0.Job.Lines) fun U=>
 bd (Jr [s0,s1]) fun O=>
 gd (O=[s0,s1])<|
 bd (Qy s0.Lines) fun J=>
 bd (Qy s1.Lines) fun I=>
 some (G,U,J,I)
theorem Qog {a0:QAk} {s0 s1:QAj} {lv:Int} {r:QAh×List Bt×List Bt×List Bt} (h:QeW a0 s0 s1=some r):EffC prog 26 [.agg (csD a0 [s0,s1] lv)] [] (.agg (csC a0 r.1.Edition (.osl 5001 0 r.1.Lines.length) r.1.Trial (.osl 5002 0 r.1.Back.length) (.osl 5003 0 r.1.Cands.length) (.osl 5004 0 2) lv (.osl 5005 0 r.2.1.length))) [(5001,stA r.1.Lines),(5002,stA r.1.Back),(5003,.arr 93 4 r.1.Cands.length (rows QAg.enc r.1.Cands)),(5004,.box 2000061 (sl2 s0 s1 (.osl 5006 0 r.2.2.1.length) (.osl 5007 0 r.2.2.2.length))),(5005,stA r.2.1),(5006,stA r.2.2.1),(5007,stA r.2.2.2)]:=by
 refine QdO tOk (fn:=f26) (c:=Jw f26) rfl rfl ?_;unfold QeW at h;(conv=>whnf);obtain⟨G,Y,h⟩:=Qb h;obtain⟨x2,a1,h⟩:=Qb h;obtain⟨x3,J,h⟩:=Qb h;obtain⟨hx,h⟩:=Qf h;rw[hx] at J;clear hx;obtain⟨y0,O,h⟩:=Qb h;obtain⟨y1,U,h⟩:=Qb h;refine Qaj tOk [.e 2 [] (.agg [dI G.Edition,.osl 6001 0 G.Lines.length,dI G.Trial,.osl 6002 0 G.Back.length,.osl 6003 0 G.Cands.length]) [(6001,stA G.Lines),(6002,stA G.Back),(6003,.arr 93 4 G.Cands.length (rows QAg.enc G.Cands))] [],.u 6 2000 (.osl 5001 0 x2.length) [⟨5001,9,1,x2.length,rows encSb x2⟩],.e 9 [] (.osl 8001 0 [s0,s1].length) [(8001,.arr 61 4 [s0,s1].length (rows QAj.enc [s0,s1]))] []] 11 [] [0,1,3,0,8,24,63,0,128,511,7] [2047,4095,8191,16383,32767,65535] [] ?_;(conv=>whnf);refine YD (eD [] 1000 (Qg2 Y)) ?_;(conv=>whnf);refine YD (QB (QS a1) (by kernel_rfl)) ?_;(conv=>whnf);refine YD (eD [] 3000 (Qdy J)) ?_;(conv=>whnf);refine YD (by kernel_rfl) ?_;(conv=>whnf);refine QwZ [1,2,3,22,23] 8001 ?_;(conv=>whnf);refine⟨2,_,rfl,BoxOk.rows (enc:=QAj.enc) (ys:=[s0,s1]) (fun _=>rfl) (by simp) (by decide),?_⟩;(conv=>whnf);refine Qc tOk ?_;(conv=>whnf);refine QyL tOk 3 ?_;(conv=>whnf);refine Qc tOk ?_;(conv=>whnf);refine⟨fun _=>?_,fun I=>absurd I (by simp<;>decide)⟩;(conv=>whnf);refine Qc tOk ?_;(conv=>whnf);refine QP tOk [.u 9 4000 (.osl 5001 0 y0.length) [⟨5001,9,1,y0.length,rows encSb y0⟩]] 12 [] [0,1,0,0,8,0,56,120,248,504,1023,2047] [4095] ?_;(conv=>whnf);refine YD (by constructor<;>simp<;>decide) ?_;(conv=>whnf);refine YD (QB (QS O) (by kernel_rfl)) ?_;(conv=>whnf);refine YD (by constructor<;>simp<;>decide) ?_;(conv=>whnf);refine YD (by kernel_rfl) ?_;(conv=>whnf);refine QyM [1,2,3,22,23,24] [.s [(9001,7101),(7101,9001)]] ?_;(conv=>whnf);refine⟨⟨by kernel_rfl⟩,?_⟩;(conv=>whnf);refine Qc tOk ?_;(conv=>whnf);refine⟨fun _=>?_,fun I=>absurd I (by simp<;>decide)⟩;(conv=>whnf);refine Qc tOk ?_;(conv=>whnf);refine QP tOk [.u 9 4000 (.osl 5001 0 y1.length) [⟨5001,9,1,y1.length,rows encSb y1⟩]] 12 [] [0,1,0,0,8,0,56,120,248,504,1023,2047] [4095] ?_;(conv=>whnf);refine YD (by constructor<;>simp<;>decide) ?_;(conv=>whnf);refine YD (QB (QS U) (by kernel_rfl)) ?_;(conv=>whnf);refine YD (by constructor<;>simp<;>decide) ?_;(conv=>whnf);refine YD (by kernel_rfl) ?_;(conv=>whnf);refine Qc tOk ?_;(conv=>whnf);refine⟨fun I=>absurd I (by simp<;>decide),fun _=>?_⟩;(conv=>whnf);obtain rfl:=sj_ h;exact lfE [.s [(5001,6001),(5002,6002),(5003,6003),(5004,8001),(5005,7001),(6001,5001),(6002,5002),(6003,5003),(7001,5005),(8001,5004),(7101,5006),(5006,7101),(9001,5007),(5007,9001)]]
@[reducible] def csE (a:QAk) (st:Int) (sl:V) (lv:Int):List V:=[dB a.Up,dI a.Box.Edition,.d (slD encSb a.Box.Lines),dI a.Box.Trial,.d (slD encSb a.Box.Back),.d (slD QAg.enc a.Box.Cands),sl,dI lv,dI a.Last,dI a.Job.Kind,dI st,dI a.Job.Edition,dI a.Job.Ticks,.d (slD encSb a.Job.Lines)]
def Qb4 (G:Int) (js l:List Bt):Option (List Bt):=
(if(G==0)=true then
 none
else
(if(decide (G<=((js.length:Nat):Int)))=true then
 gd ((0:Int)<=IntKind.i64.wrap (G-1)∧IntKind.i64.wrap (G-1)<((js.length:Nat):Int))<|
 gd (((l.length)+(([js.getD (IntKind.i64.wrap (G-1)).toNat default]:List Bt).length))*(16+1)<=70368744177664)<|
 some (l++([js.getD (IntKind.i64.wrap (G-1)).toNat default]:List Bt))
else
 none))
theorem QsM {a0:QAk} {s0 s1:QAj} {l:List Bt}:EffC prog 81 [.ref 9000 0 0] [(9000,.box 34 (csE a0 a0.Job.Step (.osl 9001 0 2) 0)),(9001,.box 2000061 (sl2 s0 s1 (.d (slD encSb s0.Lines)) (.osl 9002 0 l.length))),(9002,stA l)] (.ref 9001 0 4) [(9000,.box 34 (csE a0 a0.Job.Step (.osl 9001 0 2) 0)),(9001,.box 2000061 (sl2 s0 s1 (.d (slD encSb s0.Lines)) (.osl 9002 0 l.length))),(9002,stA l)]:=by
 refine QdO tOk (fn:=f81) (c:=Jw f81) rfl rfl ?_;(conv=>whnf);refine QP tOk [] 11 [] [0,1,3,7,0,16,48,112,240,511,1023] [] ?_;(conv=>whnf);refine YD (by constructor<;>decide) ?_;(conv=>whnf);refine YD (by kernel_rfl) ?_;(conv=>whnf);exact lfE []
theorem QsN {a0:QAk} {s0 s1:QAj} {l r:List Bt} (h:Qb4 a0.Job.Step a0.Job.Lines l=some r):EffC prog 135 [.ref 9000 0 0] [(9000,.box 34 (csE a0 a0.Job.Step (.osl 9001 0 2) 0)),(9001,.box 2000061 (sl2 s0 s1 (.d (slD encSb s0.Lines)) (.osl 9002 0 l.length))),(9002,stA l)] (.tup []) [(9000,.box 34 (csE a0 (IntKind.i64.wrap (a0.Job.Step+1)) (.osl 5001 0 2) 0)),(5001,.box 2000061 (sl2 s0 s1 (.d (slD encSb s0.Lines)) (.osl 5002 0 r.length))),(5002,stA r)]:=by
 refine QdO tOk (fn:=f135) (c:=Jw f135) rfl rfl ?_;unfold Qb4 at h;(conv=>whnf);refine Qaj tOk [.r 1 [(9000,.box 34 (csE a0 a0.Job.Step (.osl 9001 0 2) 0)),(9001,.box 2000061 (sl2 s0 s1 (.d (slD encSb s0.Lines)) (.osl 9002 0 l.length))),(9002,stA l)] (.ref 9001 0 4) [],.l 6 [(9000,.box 34 (csE a0 a0.Job.Step (.osl 9001 0 2) 0)),(9001,.box 2000061 (sl2 s0 s1 (.d (slD encSb s0.Lines)) (.osl 9002 0 l.length))),(9002,stA l)] (.d (slD encSb a0.Job.Lines))] 10 [] [0,1,0,4,12,28,60,124,3,511] [] [9000,9001,9002] ?_;(conv=>whnf);refine YD (eD [(9000,9000),(9001,9001),(9002,9002)] 0 QsM) ?_;(conv=>whnf);refine YD (by(conv=>whnf);exact⟨rfl,rfl⟩) ?_;(conv=>whnf);refine YD (by kernel_rfl) ?_;(conv=>whnf);refine Qm h (fun _ h=>?_) (fun _ h=>?_)
 ·cases h
 ·(conv=>whnf);refine Qm h (fun _ h=>?_) (fun _ h=>?_)
  ·(conv=>whnf);obtain⟨I,h⟩:=Qf h;obtain⟨G,h⟩:=Qf h;refine Qaj tOk [.a 15 [(9002,stA l)] (.osl 114 0 ((l++([a0.Job.Lines.getD (IntKind.i64.wrap (a0.Job.Step-1)).toNat default]:List Bt)).length)) [(114,stA (l++([a0.Job.Lines.getD (IntKind.i64.wrap (a0.Job.Step-1)).toNat default]:List Bt)))]] 16 [] [0,0,2,6,14,0,32,96,224,480,0,1024,4064,8160,16352,32766] [65535,131071,262143] [9002] ?_;(conv=>whnf);refine YD I ?_;(conv=>whnf);refine Qbh (enc:=encSb) ([a0.Job.Lines.getD (IntKind.i64.wrap (a0.Job.Step-1)).toNat default]:List Bt) ?_;(conv=>whnf);refine YD (by(conv=>whnf);exact⟨G,QfK (enc:=encSb) (xs:=l) (ys:=([a0.Job.Lines.getD (IntKind.i64.wrap (a0.Job.Step-1)).toNat default]:List Bt)) ⟨rfl,rfl⟩⟩) ?_;(conv=>whnf);refine YD (by kernel_rfl) ?_;(conv=>whnf);obtain rfl:=sj_ h;exact lfE [.s [(9001,5001),(5001,9001),(114,5002),(5002,114)]]
  ·cases h
theorem QsO {a0:QAk} {s0 s1:QAj} {l:List Bt}:EffC prog 81 [.ref 9000 0 0] [(9000,.box 34 (csE a0 a0.Job.Step (.osl 9001 0 2) 1)),(9001,.box 2000061 (sl2 s0 s1 (.osl 9002 0 l.length) (.d (slD encSb s1.Lines)))),(9002,stA l)] (.ref 9001 0 0) [(9000,.box 34 (csE a0 a0.Job.Step (.osl 9001 0 2) 1)),(9001,.box 2000061 (sl2 s0 s1 (.osl 9002 0 l.length) (.d (slD encSb s1.Lines)))),(9002,stA l)]:=by
 refine QdO tOk (fn:=f81) (c:=Jw f81) rfl rfl ?_;(conv=>whnf);refine QP tOk [] 11 [] [0,1,3,7,0,16,48,112,240,511,1023] [] ?_;(conv=>whnf);refine YD (by constructor<;>decide) ?_;(conv=>whnf);refine YD (by kernel_rfl) ?_;(conv=>whnf);exact lfE []
theorem QsP {a0:QAk} {s0 s1:QAj} {l r:List Bt} (h:Qb4 a0.Job.Step a0.Job.Lines l=some r):EffC prog 135 [.ref 9000 0 0] [(9000,.box 34 (csE a0 a0.Job.Step (.osl 9001 0 2) 1)),(9001,.box 2000061 (sl2 s0 s1 (.osl 9002 0 l.length) (.d (slD encSb s1.Lines)))),(9002,stA l)] (.tup []) [(9000,.box 34 (csE a0 (IntKind.i64.wrap (a0.Job.Step+1)) (.osl 5001 0 2) 1)),(5001,.box 2000061 (sl2 s0 s1 (.osl 5002 0 r.length) (.d (slD encSb s1.Lines)))),(5002,stA r)]:=by
 refine QdO tOk (fn:=f135) (c:=Jw f135) rfl rfl ?_;unfold Qb4 at h;(conv=>whnf);refine Qaj tOk [.r 1 [(9000,.box 34 (csE a0 a0.Job.Step (.osl 9001 0 2) 1)),(9001,.box 2000061 (sl2 s0 s1 (.osl 9002 0 l.length) (.d (slD encSb s1.Lines)))),(9002,stA l)] (.ref 9001 0 0) [],.l 6 [(9000,.box 34 (csE a0 a0.Job.Step (.osl 9001 0 2) 1)),(9001,.box 2000061 (sl2 s0 s1 (.osl 9002 0 l.length) (.d (slD encSb s1.Lines)))),(9002,stA l)] (.d (slD encSb a0.Job.Lines))] 10 [] [0,1,0,4,12,28,60,124,3,511] [] [9000,9001,9002] ?_;(conv=>whnf);refine YD (eD [(9000,9000),(9001,9001),(9002,9002)] 0 QsO) ?_;(conv=>whnf);refine YD (by(conv=>whnf);exact⟨rfl,rfl⟩) ?_;(conv=>whnf);refine YD (by kernel_rfl) ?_;(conv=>whnf);refine Qm h (fun _ h=>?_) (fun _ h=>?_)
 ·cases h
 ·(conv=>whnf);refine Qm h (fun _ h=>?_) (fun _ h=>?_)
  ·(conv=>whnf);obtain⟨I,h⟩:=Qf h;obtain⟨G,h⟩:=Qf h;refine Qaj tOk [.a 15 [(9002,stA l)] (.osl 114 0 ((l++([a0.Job.Lines.getD (IntKind.i64.wrap (a0.Job.Step-1)).toNat default]:List Bt)).length)) [(114,stA (l++([a0.Job.Lines.getD (IntKind.i64.wrap (a0.Job.Step-1)).toNat default]:List Bt)))]] 16 [] [0,0,2,6,14,0,32,96,224,480,0,1024,4064,8160,16352,32766] [65535,131071,262143] [9002] ?_;(conv=>whnf);refine YD I ?_;(conv=>whnf);refine Qbh (enc:=encSb) ([a0.Job.Lines.getD (IntKind.i64.wrap (a0.Job.Step-1)).toNat default]:List Bt) ?_;(conv=>whnf);refine YD (by(conv=>whnf);exact⟨G,QfK (enc:=encSb) (xs:=l) (ys:=([a0.Job.Lines.getD (IntKind.i64.wrap (a0.Job.Step-1)).toNat default]:List Bt)) ⟨rfl,rfl⟩⟩) ?_;(conv=>whnf);refine YD (by kernel_rfl) ?_;(conv=>whnf);obtain rfl:=sj_ h;exact lfE [.s [(9001,5001),(5001,9001),(114,5002),(5002,114)]]
  ·cases h
theorem Qpu {a0:QAk} {s0 s1:QAj} {l r:List Bt} (hk:(a0.Job.Kind==1)=true) (h:Qb4 a0.Job.Step a0.Job.Lines l=some r):EffC prog 65 [.ref 9000 0 0] [(9000,.box 34 (csE a0 a0.Job.Step (.osl 9001 0 2) 0)),(9001,.box 2000061 (sl2 s0 s1 (.d (slD encSb s0.Lines)) (.osl 9002 0 l.length))),(9002,stA l)] (dI 0) [(9000,.box 34 (csE a0 (IntKind.i64.wrap (a0.Job.Step+1)) (.osl 5001 0 2) 0)),(5001,.box 2000061 (sl2 s0 s1 (.d (slD encSb s0.Lines)) (.osl 5002 0 r.length))),(5002,stA r)]:=by
 refine QdO tOk (fn:=f65) (c:=Jw f65) rfl rfl ?_;(conv=>whnf);refine Qc tOk ?_;(conv=>whnf);refine⟨fun _=>?_,fun G=>by rw[hk] at G;cases G⟩;(conv=>whnf);refine cE [(9000,9000),(9001,9001),(9002,9002)] 1000 (QsN h) ?_;(conv=>whnf);exact lfE [.s [(5001,6001),(6001,5001),(5002,6002),(6002,5002)]]
theorem QuL {a0:QAk} {s0 s1:QAj} {l r:List Bt} (hk:(a0.Job.Kind==1)=true) (h:Qb4 a0.Job.Step a0.Job.Lines l=some r) (u I:Bt) (n:Int):EffC prog 28 [.ref 9000 0 0,.agg [dI 8,.d (.str u),.d (.str I),dI n]] [(9000,.box 34 (csE a0 a0.Job.Step (.osl 9001 0 2) 0)),(9001,.box 2000061 (sl2 s0 s1 (.d (slD encSb s0.Lines)) (.osl 9002 0 l.length))),(9002,stA l)] (dI 0) [(9000,.box 34 (csE a0 (IntKind.i64.wrap (a0.Job.Step+1)) (.osl 5001 0 2) 0)),(5001,.box 2000061 (sl2 s0 s1 (.d (slD encSb s0.Lines)) (.osl 5002 0 r.length))),(5002,stA r)]:=by
 refine QdO tOk (fn:=f28) (c:=Jw f28) rfl rfl ?_;(conv=>whnf);refine Qc tOk ?_;(conv=>whnf);refine⟨fun G=>absurd G (by decide),fun _=>?_⟩;(conv=>whnf);refine Qc tOk ?_;(conv=>whnf);refine⟨fun G=>absurd G (by decide),fun _=>?_⟩;(conv=>whnf);refine⟨fun G=>absurd G (by decide),fun _=>?_⟩;(conv=>whnf);refine⟨fun G=>absurd G (by decide),fun _=>?_⟩;(conv=>whnf);refine⟨fun G=>absurd G (by decide),fun _=>?_⟩;(conv=>whnf);refine⟨fun G=>absurd G (by decide),fun _=>?_⟩;(conv=>whnf);refine⟨fun G=>absurd G (by decide),fun _=>?_⟩;(conv=>whnf);refine⟨fun _=>?_,fun G=>absurd G (by decide)⟩;(conv=>whnf);refine cE [(9000,9000),(9001,9001),(9002,9002)] 1000 (Qpu hk h) ?_;(conv=>whnf);exact lfE [.s [(5001,6001),(6001,5001),(5002,6002),(6002,5002)]]
theorem Qpv {a0:QAk} {s0 s1:QAj} {l r:List Bt} (hk:(a0.Job.Kind==1)=true) (h:Qb4 a0.Job.Step a0.Job.Lines l=some r):EffC prog 65 [.ref 9000 0 0] [(9000,.box 34 (csE a0 a0.Job.Step (.osl 9001 0 2) 1)),(9001,.box 2000061 (sl2 s0 s1 (.osl 9002 0 l.length) (.d (slD encSb s1.Lines)))),(9002,stA l)] (dI 0) [(9000,.box 34 (csE a0 (IntKind.i64.wrap (a0.Job.Step+1)) (.osl 5001 0 2) 1)),(5001,.box 2000061 (sl2 s0 s1 (.osl 5002 0 r.length) (.d (slD encSb s1.Lines)))),(5002,stA r)]:=by
 refine QdO tOk (fn:=f65) (c:=Jw f65) rfl rfl ?_;(conv=>whnf);refine Qc tOk ?_;(conv=>whnf);refine⟨fun _=>?_,fun G=>by rw[hk] at G;cases G⟩;(conv=>whnf);refine cE [(9000,9000),(9001,9001),(9002,9002)] 1000 (QsP h) ?_;(conv=>whnf);exact lfE [.s [(5001,6001),(6001,5001),(5002,6002),(6002,5002)]]
theorem QuM {a0:QAk} {s0 s1:QAj} {l r:List Bt} (hk:(a0.Job.Kind==1)=true) (h:Qb4 a0.Job.Step a0.Job.Lines l=some r) (u I:Bt) (n:Int):EffC prog 28 [.ref 9000 0 0,.agg [dI 8,.d (.str u),.d (.str I),dI n]] [(9000,.box 34 (csE a0 a0.Job.Step (.osl 9001 0 2) 1)),(9001,.box 2000061 (sl2 s0 s1 (.osl 9002 0 l.length) (.d (slD encSb s1.Lines)))),(9002,stA l)] (dI 0) [(9000,.box 34 (csE a0 (IntKind.i64.wrap (a0.Job.Step+1)) (.osl 5001 0 2) 1)),(5001,.box 2000061 (sl2 s0 s1 (.osl 5002 0 r.length) (.d (slD encSb s1.Lines)))),(5002,stA r)]:=by
 refine QdO tOk (fn:=f28) (c:=Jw f28) rfl rfl ?_;(conv=>whnf);refine Qc tOk ?_;(conv=>whnf);refine⟨fun G=>absurd G (by decide),fun _=>?_⟩;(conv=>whnf);refine Qc tOk ?_;(conv=>whnf);refine⟨fun G=>absurd G (by decide),fun _=>?_⟩;(conv=>whnf);refine⟨fun G=>absurd G (by decide),fun _=>?_⟩;(conv=>whnf);refine⟨fun G=>absurd G (by decide),fun _=>?_⟩;(conv=>whnf);refine⟨fun G=>absurd G (by decide),fun _=>?_⟩;(conv=>whnf);refine⟨fun G=>absurd G (by decide),fun _=>?_⟩;(conv=>whnf);refine⟨fun G=>absurd G (by decide),fun _=>?_⟩;(conv=>whnf);refine⟨fun _=>?_,fun G=>absurd G (by decide)⟩;(conv=>whnf);refine cE [(9000,9000),(9001,9001),(9002,9002)] 1000 (Qpv hk h) ?_;(conv=>whnf);exact lfE [.s [(5001,6001),(6001,5001),(5002,6002),(6002,5002)]]
def Qpw (a0:QAk):Option QAk:=
 bd (QR a0) fun I=>gd (I=true∧a0.Up=true∧(a0.Job.Kind==1)=true)<|
 bd (Qv 8 1 10) fun G=>gd (G=true)<|
(match a0.Slots with
|[s0,s1]=>
 bd (QeW a0 s0 s1) fun x=>
(if a0.Live=0 then
 bd (Qb4 a0.Job.Step x.2.1 x.2.2.2) fun z=>some ({a0 with Box:=x.1,Slots:=[{s0 with Lines:=x.2.2.1},{s1 with Lines:=z}],Job:={a0.Job with Step:=IntKind.i64.wrap (a0.Job.Step+1),Lines:=x.2.1}})
else
 gd (a0.Live=1)<|
 bd (Qb4 a0.Job.Step x.2.1 x.2.2.1) fun z=>some ({a0 with Box:=x.1,Slots:=[{s0 with Lines:=z},{s1 with Lines:=x.2.2.2}],Job:={a0.Job with Step:=IntKind.i64.wrap (a0.Job.Step+1),Lines:=x.2.1}}))
|_=>none)
theorem QuN {a0:QAk} {s0 s1:QAj} {x:QAh×List Bt×List Bt×List Bt} {z:List Bt} (J:QR ({a0 with Slots:=[s0,s1],Live:=0}:QAk)=some true) (I:a0.Up=true) (hk:(a0.Job.Kind==1)=true) (U:Qv 8 1 10=some true)
  (hc:QeW a0 s0 s1=some x) (hm:Qb4 a0.Job.Step x.2.1 x.2.2.2=some z) (u O:Bt) (n:Int):EffC prog 8 [.agg (csD a0 [s0,s1] 0),.agg [dI 8,.d (.str u),.d (.str O),dI n]] [] (.tup [.agg (csD ({a0 with Box:=x.1,Job:={a0.Job with Step:=IntKind.i64.wrap (a0.Job.Step+1),Lines:=x.2.1}}:QAk) [({s0 with Lines:=x.2.2.1}:QAj),({s1 with Lines:=z}:QAj)] 0),dI 0]) []:=by
 refine QdO tOk (fn:=f8) (c:=Jw f8) rfl rfl ?_;(conv=>whnf);refine Qc tOk ?_;(conv=>whnf);refine cC 0 (Jy J) ?_;(conv=>whnf);refine⟨fun G=>absurd G (by decide),fun _=>?_⟩;(conv=>whnf);refine cE [] 1000 (Qog (lv:=0) hc) ?_;(conv=>whnf);refine Qc tOk ?_;(conv=>whnf);refine cC 0 (QQ U) ?_;(conv=>whnf);refine⟨fun G=>absurd G (by decide),fun _=>?_⟩;(conv=>whnf);refine⟨fun G=>by rw[I] at G;exact absurd G (by decide),fun _=>?_⟩;(conv=>whnf);refine Qc tOk ?_;(conv=>whnf);refine Zl [6001,6002,6003,6005,6006] ?_;(conv=>whnf);refine cE [(9000,6),(9001,6004),(9002,6007)] 0 (QuL (a0:={a0 with Box:=x.1,Job:={a0.Job with Lines:=x.2.1}}) (s0:={s0 with Lines:=x.2.2.1}) (s1:=s1) hk hm u O n) ?_;(conv=>whnf);refine⟨fun G=>absurd G (by decide),fun _=>?_⟩;(conv=>whnf);exact lfE [.f [5002,5001]]
theorem QuO {a0:QAk} {s0 s1:QAj} {x:QAh×List Bt×List Bt×List Bt} {z:List Bt} (J:QR ({a0 with Slots:=[s0,s1],Live:=1}:QAk)=some true) (I:a0.Up=true) (hk:(a0.Job.Kind==1)=true) (U:Qv 8 1 10=some true)
  (hc:QeW a0 s0 s1=some x) (hm:Qb4 a0.Job.Step x.2.1 x.2.2.1=some z) (u O:Bt) (n:Int):EffC prog 8 [.agg (csD a0 [s0,s1] 1),.agg [dI 8,.d (.str u),.d (.str O),dI n]] [] (.tup [.agg (csD ({a0 with Box:=x.1,Job:={a0.Job with Step:=IntKind.i64.wrap (a0.Job.Step+1),Lines:=x.2.1}}:QAk) [({s0 with Lines:=z}:QAj),({s1 with Lines:=x.2.2.2}:QAj)] 1),dI 0]) []:=by
 refine QdO tOk (fn:=f8) (c:=Jw f8) rfl rfl ?_;(conv=>whnf);refine Qc tOk ?_;(conv=>whnf);refine cC 0 (Jy J) ?_;(conv=>whnf);refine⟨fun G=>absurd G (by decide),fun _=>?_⟩;(conv=>whnf);refine cE [] 1000 (Qog (lv:=1) hc) ?_;(conv=>whnf);refine Qc tOk ?_;(conv=>whnf);refine cC 0 (QQ U) ?_;(conv=>whnf);refine⟨fun G=>absurd G (by decide),fun _=>?_⟩;(conv=>whnf);refine⟨fun G=>by rw[I] at G;exact absurd G (by decide),fun _=>?_⟩;(conv=>whnf);refine Qc tOk ?_;(conv=>whnf);refine Zl [6001,6002,6003,6005,6007] ?_;(conv=>whnf);refine cE [(9000,6),(9001,6004),(9002,6006)] 0 (QuM (a0:={a0 with Box:=x.1,Job:={a0.Job with Lines:=x.2.1}}) (s0:=s0) (s1:={s1 with Lines:=x.2.2.2}) hk hm u O n) ?_;(conv=>whnf);refine⟨fun G=>absurd G (by decide),fun _=>?_⟩;(conv=>whnf);exact lfE [.f [5002,5001]]
theorem Qw0 {a0 r:QAk} (h:Qpw a0=some r) (u O:Bt) (n:Int):EffC prog 8 [.agg (csD a0 a0.Slots a0.Live),.agg [dI 8,.d (.str u),.d (.str O),dI n]] [] (.tup [.agg (csD r r.Slots r.Live),dI 0]) []:=by
 unfold Qpw at h;obtain⟨x1,G,h⟩:=Qb h;obtain⟨⟨e1,I,hk⟩,h⟩:=Qf h;rw[e1] at G;obtain⟨x3,J,h⟩:=Qb h;obtain⟨e3,h⟩:=Qf h;rw[e3] at J;obtain⟨up,bx,sl,lv,la,jb⟩:=a0;rcases sl with _|⟨s0,_|⟨s1,_|⟨_,_⟩⟩⟩
 ·cases h
 ·cases h
 ·obtain⟨x,hc,h⟩:=Qb (show bd (QeW ⟨up,bx,[s0,s1],lv,la,jb⟩ s0 s1) _=some r from h);by_cases Y:lv=0
  ·subst Y;rw[Y2 rfl] at h;obtain⟨z,U,h⟩:=Qb h;obtain rfl:=sj_ h;exact QuN G I hk J hc U u O n
  ·rw[Y1 Y] at h;obtain⟨h1,h⟩:=Qf h;obtain⟨z,U,h⟩:=Qb h;obtain rfl:=sj_ h;have h1:lv=1:=h1;subst h1;exact QuO G I hk J hc U u O n
 ·cases h
def Qb7 (a0:QAk) (G:QAl):Option (QAk×Int):=match Qaz a0 G with
|some r=>some r
|none=>gd (G.Kind=8)<|bd (Qpw a0) fun r=>some (r,0)
theorem Qpx {a0:QAk} {G:QAl} {r:QAk×Int} (h:Qb7 a0 G=some r):EffC prog 8 [.agg (csD a0 a0.Slots a0.Live),.agg [dI G.Kind,.d (.str G.User),.d (.str G.Line),dI G.N]] [] (.tup [.agg (csD r.1 r.1.Slots r.1.Live),dI r.2]) []:=by
 unfold Qb7 at h;split at h
 ·rename_i r' J;obtain rfl:=sj_ h;exact QkP J
 ·obtain⟨e,h⟩:=Qf h;obtain⟨x,I,h⟩:=Qb h;obtain rfl:=sj_ h;rw[e];exact Qw0 I G.User G.Line G.N
def Z6 (a0:QAk) (G:QAl):Option (QAk×Int):=
 Qb7 a0 G
theorem Qnh {a0:QAk} {G:QAl} {r:QAk×Int} (h:Z6 a0 G=some r):EffC prog 8 [.agg [dB a0.Up,dI a0.Box.Edition,.d (slD encSb a0.Box.Lines),dI a0.Box.Trial,.d (slD encSb a0.Box.Back),.d (slD QAg.enc a0.Box.Cands),.d (slD QAj.enc a0.Slots),dI a0.Live,dI a0.Last,dI a0.Job.Kind,dI a0.Job.Step,dI a0.Job.Edition,dI a0.Job.Ticks,.d (slD encSb a0.Job.Lines)],.agg [dI G.Kind,.d (.str G.User),.d (.str G.Line),dI G.N]] [] (.tup [.agg [dB r.1.Up,dI r.1.Box.Edition,.d (slD encSb r.1.Box.Lines),dI r.1.Box.Trial,.d (slD encSb r.1.Box.Back),.d (slD QAg.enc r.1.Box.Cands),.d (slD QAj.enc r.1.Slots),dI r.1.Live,dI r.1.Last,dI r.1.Job.Kind,dI r.1.Job.Step,dI r.1.Job.Edition,dI r.1.Job.Ticks,.d (slD encSb r.1.Job.Lines)],dI r.2]) []:=by
 unfold Z6 at h;exact Qpx h
def QM (a0:QAk) (J:QAl) (O:Int):Option (QAk):=
 bd (lp (σ:=Bool×Int×Int×Int×Int×List Bt×List Bt×Int×List Bt×List QAg×List QAj×Int×Int×Int×Int) (β:=(Bool×Int×(List Bt)×Int×(List Bt)×(List QAg)×(List QAj)×Int×Int×Int×Int×Int×Int×(List Bt))) (fun s1=>
(if(decide (s1.2.2.2.2.2.2.2.2.2.2.2.2.2.2>0))=true then
 bd (Z6 (⟨s1.1,(⟨s1.2.1,s1.2.2.2.2.2.2.1,s1.2.2.2.2.2.2.2.1,s1.2.2.2.2.2.2.2.2.1,s1.2.2.2.2.2.2.2.2.2.1⟩:QAh),s1.2.2.2.2.2.2.2.2.2.2.1,s1.2.2.2.2.2.2.2.2.2.2.2.1,s1.2.2.2.2.2.2.2.2.2.2.2.2.1,(⟨s1.2.2.2.2.2.2.2.2.2.2.2.2.2.1,s1.2.2.1,s1.2.2.2.1,s1.2.2.2.2.1,s1.2.2.2.2.2.1⟩:QAi)⟩:QAk) J) fun G=>
 some (.inl (G.1.Up,G.1.Box.Edition,G.1.Job.Step,G.1.Job.Edition,G.1.Job.Ticks,G.1.Job.Lines,G.1.Box.Lines,G.1.Box.Trial,G.1.Box.Back,G.1.Box.Cands,G.1.Slots,G.1.Live,G.1.Last,G.1.Job.Kind,IntKind.i64.wrap (s1.2.2.2.2.2.2.2.2.2.2.2.2.2.2-1)))
else
 some (.inr (s1.1,s1.2.1,s1.2.2.2.2.2.2.1,s1.2.2.2.2.2.2.2.1,s1.2.2.2.2.2.2.2.2.1,s1.2.2.2.2.2.2.2.2.2.1,s1.2.2.2.2.2.2.2.2.2.2.1,s1.2.2.2.2.2.2.2.2.2.2.2.1,s1.2.2.2.2.2.2.2.2.2.2.2.2.1,s1.2.2.2.2.2.2.2.2.2.2.2.2.2.1,s1.2.2.1,s1.2.2.2.1,s1.2.2.2.2.1,s1.2.2.2.2.2.1)))) (a0.Up,a0.Box.Edition,a0.Job.Step,a0.Job.Edition,a0.Job.Ticks,a0.Job.Lines,a0.Box.Lines,a0.Box.Trial,a0.Box.Back,a0.Box.Cands,a0.Slots,a0.Live,a0.Last,a0.Job.Kind,O)) fun I=>
 some (⟨I.1,(⟨I.2.1,I.2.2.1,I.2.2.2.1,I.2.2.2.2.1,I.2.2.2.2.2.1⟩:QAh),I.2.2.2.2.2.2.1,I.2.2.2.2.2.2.2.1,I.2.2.2.2.2.2.2.2.1,(⟨I.2.2.2.2.2.2.2.2.2.1,I.2.2.2.2.2.2.2.2.2.2.1,I.2.2.2.2.2.2.2.2.2.2.2.1,I.2.2.2.2.2.2.2.2.2.2.2.2.1,I.2.2.2.2.2.2.2.2.2.2.2.2.2⟩:QAi)⟩:QAk)
theorem QcJ {a0:QAk} {G:QAl} {U:Int} {r:QAk} (h:QM a0 G U=some r):EffC prog 16 [.agg [dB a0.Up,dI a0.Box.Edition,.d (slD encSb a0.Box.Lines),dI a0.Box.Trial,.d (slD encSb a0.Box.Back),.d (slD QAg.enc a0.Box.Cands),.d (slD QAj.enc a0.Slots),dI a0.Live,dI a0.Last,dI a0.Job.Kind,dI a0.Job.Step,dI a0.Job.Edition,dI a0.Job.Ticks,.d (slD encSb a0.Job.Lines)],.agg [dI G.Kind,.d (.str G.User),.d (.str G.Line),dI G.N],dI U] [] (.agg [dB r.Up,dI r.Box.Edition,.d (slD encSb r.Box.Lines),dI r.Box.Trial,.d (slD encSb r.Box.Back),.d (slD QAg.enc r.Box.Cands),.d (slD QAj.enc r.Slots),dI r.Live,dI r.Last,dI r.Job.Kind,dI r.Job.Step,dI r.Job.Edition,dI r.Job.Ticks,.d (slD encSb r.Job.Lines)]) []:=by
 refine eY tOk f16 rfl (Qc tOk ?_);obtain⟨x4,J,h⟩:=Qb h;refine QA tOk J (fun s1=>⟨0,18,[(2,dI s1.2.2.2.2.2.2.2.2.2.2.2.2.2.2),(3,.ref 3 0 0),(4,.ref 4 0 0),(6,.ref 6 0 0)],[],[(6,.box 34 [dB false,dI 0,.d (.nil),dI 0,.d (.nil),.d (.nil),.d (.nil),dI 0,dI 0,dI 0,dI 0,dI 0,dI 0,.d (.nil)]),(4,.box 41 [dI G.Kind,.d (.str G.User),.d (.str G.Line),dI G.N]),(3,.box 34 [dB s1.1,dI s1.2.1,.d (slD encSb s1.2.2.2.2.2.2.1),dI s1.2.2.2.2.2.2.2.1,.d (slD encSb s1.2.2.2.2.2.2.2.2.1),.d (slD QAg.enc s1.2.2.2.2.2.2.2.2.2.1),.d (slD QAj.enc s1.2.2.2.2.2.2.2.2.2.2.1),dI s1.2.2.2.2.2.2.2.2.2.2.2.1,dI s1.2.2.2.2.2.2.2.2.2.2.2.2.1,dI s1.2.2.2.2.2.2.2.2.2.2.2.2.2.1,dI s1.2.2.1,dI s1.2.2.2.1,dI s1.2.2.2.2.1,.d (slD encSb s1.2.2.2.2.2.1)])],[⟨[],[]⟩]⟩) ?_ ?_
 ·exact leX []
 ·clear J;intro s1 y2 I O;refine Qc tOk ?_;apply Qm I<;>intro _ I
  ·refine Qc tOk (bE I [] 0 (fun _=>Qnh) fun x5 I=>?_);exact eX I []
  ·cases I
   cases O _ rfl
   cases h
   exact lfE []
def QcK (a0:(List Bt)) (G:(List Bt)):Option (Bool):=
(if(((a0.length:Nat):Int) !=((G.length:Nat):Int))=true then
 some false
else
 bd (lp (σ:=Int) (β:=(Unit⊕Unit)) (fun s1=>
(if(decide (s1<((a0.length:Nat):Int)))=true then
 gd ((0:Int)<=s1∧s1<((a0.length:Nat):Int))<|
 gd ((0:Int)<=s1∧s1<((G.length:Nat):Int))<|
(if(!((a0.getD s1.toNat default)==(G.getD s1.toNat default)))=true then
 some (.inr (.inl ()))
else
 some (.inl (IntKind.i64.wrap (s1+1))))
else
 some (.inr (.inr ())))) 0) fun I=>
(match I with
| .inl d7=>
 some false
| .inr d8=>
 some true))
theorem Qni {a0:(List Bt)} {O:(List Bt)} {r:Bool} (h:QcK a0 O=some r):PureC prog 17 [.d (slD encSb a0),.d (slD encSb O)] (dB r) []:=by
 refine pY tOk f17 rfl (Qc tOk ?_);apply Qm h<;>intro _ h
 ·cases h
  exact lfP []
 ·refine Qc tOk ?_;obtain⟨x4,I,h⟩:=Qb h;refine QA tOk I (fun s1=>⟨0,26,[(0,.d (slD encSb a0)),(1,.d (slD encSb O)),(5,dI s1)],[],[],[]⟩) ?_ ?_
  ·exact leX []
  ·clear I;intro s1 y2 G J;refine Qc tOk ?_;apply Qm G<;>intro _ G
   ·refine Qc tOk ?_;obtain⟨U,G⟩:=Qf G;obtain⟨Y,G⟩:=Qf G;refine QP tOk [] 9 [] [0,0,3,7,0,0,48,112,255] [] (aI U (aI Y (aK ?_)));apply Qm G<;>intro _ G
    ·cases G
     cases J _ rfl
     cases h
     exact lfP []
    ·exact eX G []
   ·cases G
    cases J _ rfl
    cases h
    exact lfP []
def Qc1 (a0:(List Int)) (a1:(List Int)):Option (Bool):=
(if((decide (((a0.length:Nat):Int)>1048576))||(decide (((a1.length:Nat):Int)>1048576)))=true then
 some true
else
 bd (J1 a0) fun U=>
 bd (α:=Bool×Int×Int×Int×Int×List Bt×List Bt×Int×List Bt×List QAg×List QAj×Int×Int×Int) ((if(!U.Up)=true then
 bd (QM U (⟨10,ByteArray.empty,ByteArray.empty,0⟩:QAl) 1) fun x5=>
 some (x5.Up,x5.Box.Edition,x5.Job.Step,x5.Job.Edition,x5.Job.Ticks,x5.Job.Lines,x5.Box.Lines,x5.Box.Trial,x5.Box.Back,x5.Box.Cands,x5.Slots,x5.Live,x5.Last,x5.Job.Kind)
else
 some (U.Up,U.Box.Edition,U.Job.Step,U.Job.Edition,U.Job.Ticks,U.Job.Lines,U.Box.Lines,U.Box.Trial,U.Box.Back,U.Box.Cands,U.Slots,U.Live,U.Last,U.Job.Kind))) fun J=>
 bd (α:=List Bt) ((if(decide (J.2.2.2.2.2.2.2.1>0))=true then
 some J.2.2.2.2.2.2.2.2.1
else
 some J.2.2.2.2.2.2.1)) fun x6=>
 bd (QM (⟨J.1,(⟨J.2.1,J.2.2.2.2.2.2.1,J.2.2.2.2.2.2.2.1,J.2.2.2.2.2.2.2.2.1,J.2.2.2.2.2.2.2.2.2.1⟩:QAh),J.2.2.2.2.2.2.2.2.2.2.1,J.2.2.2.2.2.2.2.2.2.2.2.1,J.2.2.2.2.2.2.2.2.2.2.2.2.1,(⟨J.2.2.2.2.2.2.2.2.2.2.2.2.2,J.2.2.1,J.2.2.2.1,J.2.2.2.2.1,J.2.2.2.2.2.1⟩:QAi)⟩:QAk) (⟨9,ByteArray.empty,ByteArray.empty,0⟩:QAl) 1) fun Y=>
 bd (QR (⟨J.1,(⟨J.2.1,J.2.2.2.2.2.2.1,J.2.2.2.2.2.2.2.1,J.2.2.2.2.2.2.2.2.1,J.2.2.2.2.2.2.2.2.2.1⟩:QAh),J.2.2.2.2.2.2.2.2.2.2.1,J.2.2.2.2.2.2.2.2.2.2.2.1,J.2.2.2.2.2.2.2.2.2.2.2.2.1,(⟨J.2.2.2.2.2.2.2.2.2.2.2.2.2,J.2.2.1,J.2.2.2.1,J.2.2.2.2.1,J.2.2.2.2.2.1⟩:QAi)⟩:QAk)) fun a2=>
 bd (gcall ((!a2)=false) (QR Y)) fun a7=>
(if(((!a2)||(!a7))||Y.Up)=true then
 some false
else
 gd ((3:Int)≠0)<|
 bd (lp (σ:=Bool×Int×Int×Int×Int×List Bt×List Bt×Int×List Bt×List QAg×List QAj×Int×Int×Int×Int) (β:=(Bool×Int×(List Bt)×Int×(List Bt)×(List QAg)×(List QAj)×Int×Int×Int×Int×Int×Int×(List Bt))) (fun G=>
(if(decide (G.2.2.2.2.2.2.2.2.2.2.2.2.2.2>0))=true then
 bd (QM (⟨G.1,(⟨G.2.1,G.2.2.2.2.2.2.1,G.2.2.2.2.2.2.2.1,G.2.2.2.2.2.2.2.2.1,G.2.2.2.2.2.2.2.2.2.1⟩:QAh),G.2.2.2.2.2.2.2.2.2.2.1,G.2.2.2.2.2.2.2.2.2.2.2.1,G.2.2.2.2.2.2.2.2.2.2.2.2.1,(⟨G.2.2.2.2.2.2.2.2.2.2.2.2.2.1,G.2.2.1,G.2.2.2.1,G.2.2.2.2.1,G.2.2.2.2.2.1⟩:QAi)⟩:QAk) (⟨9,ByteArray.empty,ByteArray.empty,0⟩:QAl) 1) fun a4=>
 bd (QM a4 (⟨10,ByteArray.empty,ByteArray.empty,0⟩:QAl) 1) fun a5=>
 gd ((2:Int)≠0)<|
 bd (QM a5 (⟨8,ByteArray.empty,ByteArray.empty,0⟩:QAl) ((((a1.length:Nat):Int):Int).tmod 2)) fun O=>
 some (.inl (O.Up,O.Box.Edition,O.Job.Step,O.Job.Edition,O.Job.Ticks,O.Job.Lines,O.Box.Lines,O.Box.Trial,O.Box.Back,O.Box.Cands,O.Slots,O.Live,O.Last,O.Job.Kind,IntKind.i64.wrap (G.2.2.2.2.2.2.2.2.2.2.2.2.2.2-1)))
else
 some (.inr (G.1,G.2.1,G.2.2.2.2.2.2.1,G.2.2.2.2.2.2.2.1,G.2.2.2.2.2.2.2.2.1,G.2.2.2.2.2.2.2.2.2.1,G.2.2.2.2.2.2.2.2.2.2.1,G.2.2.2.2.2.2.2.2.2.2.2.1,G.2.2.2.2.2.2.2.2.2.2.2.2.1,G.2.2.2.2.2.2.2.2.2.2.2.2.2.1,G.2.2.1,G.2.2.2.1,G.2.2.2.2.1,G.2.2.2.2.2.1)))) (Y.Up,Y.Box.Edition,Y.Job.Step,Y.Job.Edition,Y.Job.Ticks,Y.Job.Lines,Y.Box.Lines,Y.Box.Trial,Y.Box.Back,Y.Box.Cands,Y.Slots,Y.Live,Y.Last,Y.Job.Kind,IntKind.i64.wrap (1+((((a1.length:Nat):Int):Int).tmod 3)))) fun I=>
 bd (gcall (I.1=true) (QcK I.2.2.1 x6)) fun a3=>
 bd (gcall (((((I.1&&a3)&&(I.2.2.2.1==0))&&(((I.2.2.2.2.2.1.length:Nat):Int)==0))&&(decide (I.2.1>=J.2.1)))=true) (QR (⟨I.1,(⟨I.2.1,I.2.2.1,I.2.2.2.1,I.2.2.2.2.1,I.2.2.2.2.2.1⟩:QAh),I.2.2.2.2.2.2.1,I.2.2.2.2.2.2.2.1,I.2.2.2.2.2.2.2.2.1,(⟨I.2.2.2.2.2.2.2.2.2.1,I.2.2.2.2.2.2.2.2.2.2.1,I.2.2.2.2.2.2.2.2.2.2.2.1,I.2.2.2.2.2.2.2.2.2.2.2.2.1,I.2.2.2.2.2.2.2.2.2.2.2.2.2⟩:QAi)⟩:QAk))) fun a6=>
 some (((((I.1&&a3)&&(I.2.2.2.1==0))&&(((I.2.2.2.2.2.1.length:Nat):Int)==0))&&(decide (I.2.1>=J.2.1)))&&a6)))
theorem QiW {a0:(List Int)} {a1:(List Int)} {r:Bool} (h:Qc1 a0 a1=some r):PureC prog 4 [.d (slD Qq a0),.d (slD Qq a1)] (dB r) []:=by
 refine pY tOk f4 rfl (Qc tOk ?_);apply Qm h<;>intro _ h
 ·cases h
  exact lfP []
 ·refine bE h [] 0 (fun _=>QfS) fun x1 h=>?_;obtain⟨I,U,h⟩:=Qb h;refine Zo tOk (fun O=>⟨0,105,[(1,.d (slD Qq a1)),(5,.ref 5 0 0)],[],[(5,.box 34 [dB O.1,dI O.2.1,.d (slD encSb O.2.2.2.2.2.2.1),dI O.2.2.2.2.2.2.2.1,.d (slD encSb O.2.2.2.2.2.2.2.2.1),.d (slD QAg.enc O.2.2.2.2.2.2.2.2.2.1),.d (slD QAj.enc O.2.2.2.2.2.2.2.2.2.2.1),dI O.2.2.2.2.2.2.2.2.2.2.2.1,dI O.2.2.2.2.2.2.2.2.2.2.2.2.1,dI O.2.2.2.2.2.2.2.2.2.2.2.2.2,dI O.2.2.1,dI O.2.2.2.1,dI O.2.2.2.2.1,.d (slD encSb O.2.2.2.2.2.1)])],[]⟩) (fun O=>I=O) ?_ ?_
  ·apply Qm U<;>intro _ U
   ·refine bE U [] 0 (fun _=>QcJ) fun x5 U=>?_;exact eZ U []
   ·exact eZ U []
  ·rintro _ rfl;obtain⟨x6,Y,h⟩:=Qb h;refine Zo tOk (fun s7=>⟨0,105,[(1,.d (slD Qq a1)),(5,.ref 5 0 0),(6,.d (slD encSb s7))],[],[(5,.box 34 [dB I.1,dI I.2.1,.d (slD encSb I.2.2.2.2.2.2.1),dI I.2.2.2.2.2.2.2.1,.d (slD encSb I.2.2.2.2.2.2.2.2.1),.d (slD QAg.enc I.2.2.2.2.2.2.2.2.2.1),.d (slD QAj.enc I.2.2.2.2.2.2.2.2.2.2.1),dI I.2.2.2.2.2.2.2.2.2.2.2.1,dI I.2.2.2.2.2.2.2.2.2.2.2.2.1,dI I.2.2.2.2.2.2.2.2.2.2.2.2.2,dI I.2.2.1,dI I.2.2.2.1,dI I.2.2.2.2.1,.d (slD encSb I.2.2.2.2.2.1)])],[]⟩) (fun s7=>x6=s7) ?_ ?_
   ·apply Qm Y<;>intro _ Y
    ·exact eZ Y []
    ·exact eZ Y []
   ·rintro _ rfl;refine bE h [] 0 (fun _=>QcJ) fun x9 h=>Qc tOk (bC h 0 (fun _=>Jy) fun x10 h=>bG h (fun _=>Jy) fun x11 h=>?_);apply Qm h<;>intro _ h
    ·cases h
     exact lfP []
    ·refine Qc tOk (gdI h fun h=>?_);obtain⟨x16,a2,h⟩:=Qb h;refine QA tOk a2 (fun G=>⟨0,105,[(1,.d (slD Qq a1)),(5,.ref 5 0 0),(6,.d (slD encSb x6)),(7,.ref 7 0 0),(8,dI G.2.2.2.2.2.2.2.2.2.2.2.2.2.2)],[],[(7,.box 34 [dB G.1,dI G.2.1,.d (slD encSb G.2.2.2.2.2.2.1),dI G.2.2.2.2.2.2.2.1,.d (slD encSb G.2.2.2.2.2.2.2.2.1),.d (slD QAg.enc G.2.2.2.2.2.2.2.2.2.1),.d (slD QAj.enc G.2.2.2.2.2.2.2.2.2.2.1),dI G.2.2.2.2.2.2.2.2.2.2.2.1,dI G.2.2.2.2.2.2.2.2.2.2.2.2.1,dI G.2.2.2.2.2.2.2.2.2.2.2.2.2.1,dI G.2.2.1,dI G.2.2.2.1,dI G.2.2.2.2.1,.d (slD encSb G.2.2.2.2.2.1)]),(5,.box 34 [dB I.1,dI I.2.1,.d (slD encSb I.2.2.2.2.2.2.1),dI I.2.2.2.2.2.2.2.1,.d (slD encSb I.2.2.2.2.2.2.2.2.1),.d (slD QAg.enc I.2.2.2.2.2.2.2.2.2.1),.d (slD QAj.enc I.2.2.2.2.2.2.2.2.2.2.1),dI I.2.2.2.2.2.2.2.2.2.2.2.1,dI I.2.2.2.2.2.2.2.2.2.2.2.2.1,dI I.2.2.2.2.2.2.2.2.2.2.2.2.2,dI I.2.2.1,dI I.2.2.2.1,dI I.2.2.2.2.1,.d (slD encSb I.2.2.2.2.2.1)])],[]⟩) ?_ ?_
     ·exact leX []
     ·clear a2;intro G y14 J a3;refine Qc tOk ?_;apply Qm J<;>intro _ J
      ·refine Qc tOk (bE J [] 0 (fun _=>QcJ) fun x17 J=>bE J [] 0 (fun _=>QcJ) fun x18 J=>gdI J fun J=>bE J [] 0 (fun _=>QcJ) fun x20 J=>?_);exact eX J []
      ·cases J
       cases a3 _ rfl
       refine bG h (fun _=>Qni) fun x22 h=>bG h (fun _=>Jy) fun x23 h=>?_;cases h;exact lfP []
end
end Go.Proofs.YtoknnjiangjccaaGreatDoor
