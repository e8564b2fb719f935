/-
  What some of the program's functions compute: their models, and that the functions compute these; no condition.
-/
import Derived.Test.YtmnnglbioibmfaaGreatDoorTyz
import Derived.Test.YtmnnglbioibmfaaGreatDoorTbz
import Derived.Test.YtmnnglbioibmfaaGreatDoorLayz
import Derived.Test.YtmnnglbioibmfaaGreatDoorLay4z
import Derived.Test.YtmnnglbioibmfaaGreatDoorAbz8
import Derived.BigCall
import Derived.BigGuard
import Derived.BigQuiet
import Derived.Deep.QuietTactic
import Derived.Laws.OwnMore
import Derived.Maps.AppendAt
import Derived.Maps.OwnSet
import Derived.Maps.RangeWalk
import Derived.OwnWalk
import Derived.Sort.OwnSorted
import Derived.StringKeys
import Derived.WalkKit
import Derived.Test.YtmnnglbioibmfaaGreatDoorKz4
set_option linter.all false
namespace Go.Proofs.YtmnnglbioibmfaaGreatDoor
open Go Go.Ab Tryz
set_option maxRecDepth 100000
set_option maxHeartbeats 40000000
noncomputable section
def QU (a0:Qyj):Option (Qyj):=
 gd ((0:Int)≤IntKind.i64.wrap (1-a0.Live)∧IntKind.i64.wrap (1-a0.Live)<((a0.Slots.length:Nat):Int))<|
(if(a0.Job.Step==0)=true then
 some ({a0 with Slots:=a0.Slots.set ((IntKind.i64.wrap (1-a0.Live)).toNat) (⟨false,0,false,[]⟩:Qyi),Last:=a0.Job.Edition,Job:={a0.Job with Step:=IntKind.i64.wrap (a0.Job.Step+1)}})
else
(if(decide (a0.Job.Step≤((a0.Job.Lines.length:Nat):Int)))=true then
 none
else
(if(a0.Job.Step==(IntKind.i64.wrap (((a0.Job.Lines.length:Nat):Int)+1)))=true then
 bd (some (a0.Slots.set ((IntKind.i64.wrap (1-a0.Live)).toNat) ({(a0.Slots.getD ((IntKind.i64.wrap (1-a0.Live)).toNat) default) with Whole:=true}))) fun x2=>
 bd (some (x2.set ((IntKind.i64.wrap (1-a0.Live)).toNat) ({(x2.getD ((IntKind.i64.wrap (1-a0.Live)).toNat) default) with Edition:=a0.Job.Edition}))) fun x3=>
 bd (some (x3.set ((IntKind.i64.wrap (1-a0.Live)).toNat) ({(x3.getD ((IntKind.i64.wrap (1-a0.Live)).toNat) default) with Trial:=(decide (a0.Job.Ticks>0))}))) fun x4=>
 some ({a0 with Slots:=x4,Job:={a0.Job with Step:=IntKind.i64.wrap (a0.Job.Step+1)}})
else
 bd (α:=Int×List Bt) ((if(decide (a0.Job.Ticks>0))=true then
 some (a0.Job.Ticks,a0.Box.Lines)
else
 some (a0.Box.Trial,a0.Box.Back))) fun x5=>
 some ({a0 with Box:=(⟨a0.Job.Edition,a0.Job.Lines,x5.1,x5.2,a0.Box.Cands⟩:Qyg),Live:=IntKind.i64.wrap (1-a0.Live),Job:=(⟨0,0,0,0,[]⟩:Qyh)}))))
theorem Qdp {a0:Qyj} {r:Qyj} (h:QU a0=some r):EffC prog 114 [.ref 9000 0 0] [(9000,.box 33 [dB a0.Up,dI a0.Box.Edition,.d (slD encSb a0.Box.Lines),dI a0.Box.Trial,.d (slD encSb a0.Box.Back),.d (slD Qyf.enc a0.Box.Cands),.osl 9001 0 a0.Slots.length,dI a0.Live,dI a0.Last,dI a0.Job.Kind,dI a0.Job.Step,dI a0.Job.Edition,dI a0.Job.Ticks,.d (slD encSb a0.Job.Lines)]),(9001,.arr 55 4 a0.Slots.length (rows Qyi.enc a0.Slots))] (.tup []) [(9000,.box 33 [dB a0.Up,dI r.Box.Edition,.d (slD encSb r.Box.Lines),dI r.Box.Trial,.d (slD encSb r.Box.Back),.d (slD Qyf.enc a0.Box.Cands),.osl 5001 0 r.Slots.length,dI r.Live,dI r.Last,dI r.Job.Kind,dI r.Job.Step,dI r.Job.Edition,dI r.Job.Ticks,.d (slD encSb r.Job.Lines)]),(5001,.arr 55 4 r.Slots.length (rows Qyi.enc r.Slots))]:=by
 refine eY tOk f114 rfl ?_;obtain⟨g1,h⟩:=Qe h;refine QbY tOk [.r 1 [(9000,.box 33 [dB a0.Up,dI a0.Box.Edition,.d (slD encSb a0.Box.Lines),dI a0.Box.Trial,.d (slD encSb a0.Box.Back),.d (slD Qyf.enc a0.Box.Cands),.osl 9001 0 a0.Slots.length,dI a0.Live,dI a0.Last,dI a0.Job.Kind,dI a0.Job.Step,dI a0.Job.Edition,dI a0.Job.Ticks,.d (slD encSb a0.Job.Lines)]),(9001,.arr 55 4 a0.Slots.length (rows Qyi.enc a0.Slots))] (.ref 9001 ((IntKind.i64.wrap (1-a0.Live)).toNat) 0) [],.l 6 [(9000,.box 33 [dB a0.Up,dI a0.Box.Edition,.d (slD encSb a0.Box.Lines),dI a0.Box.Trial,.d (slD encSb a0.Box.Back),.d (slD Qyf.enc a0.Box.Cands),.osl 9001 0 a0.Slots.length,dI a0.Live,dI a0.Last,dI a0.Job.Kind,dI a0.Job.Step,dI a0.Job.Edition,dI a0.Job.Ticks,.d (slD encSb a0.Job.Lines)])] (.d (slD encSb a0.Job.Lines))] 10 [] [0,1,0,4,12,28,60,124,3,511] [] [9000,9001] (aI (eD [(9000,9000),(9001,9001)] 0 (Qdg tOk (fn:=f96) (c:=Jw f96) (args:=[.ref 9000 0 0]) (bs:=[(9000,.box 33 [dB a0.Up,dI a0.Box.Edition,.d (slD encSb a0.Box.Lines),dI a0.Box.Trial,.d (slD encSb a0.Box.Back),.d (slD Qyf.enc a0.Box.Cands),.osl 9001 0 a0.Slots.length,dI a0.Live,dI a0.Last,dI a0.Job.Kind,dI a0.Job.Step,dI a0.Job.Edition,dI a0.Job.Ticks,.d (slD encSb a0.Job.Lines)]),(9001,.arr 55 4 a0.Slots.length (rows Qyi.enc a0.Slots))]) (res:=.ref 9001 ((IntKind.i64.wrap (1-a0.Live)).toNat) 0) (M:=[(9000,.box 33 [dB a0.Up,dI a0.Box.Edition,.d (slD encSb a0.Box.Lines),dI a0.Box.Trial,.d (slD encSb a0.Box.Back),.d (slD Qyf.enc a0.Box.Cands),.osl 9001 0 a0.Slots.length,dI a0.Live,dI a0.Last,dI a0.Job.Kind,dI a0.Job.Step,dI a0.Job.Edition,dI a0.Job.Ticks,.d (slD encSb a0.Job.Lines)]),(9001,.arr 55 4 a0.Slots.length (rows Qyi.enc a0.Slots))]) rfl rfl (by((conv=>whnf);(refine Q0 tOk [] 11 [] [0,1,3,7,0,16,48,112,240,511,1023] [] ?_);(conv=>whnf);(refine aI g1 ?_);(clear g1);(conv=>whnf);(refine aI (by kernel_rfl) ?_);(conv=>whnf);(exact lfE []))))) ?_);refine aI (by(conv=>whnf);exact⟨rfl,rfl⟩) (aK ?_);apply Qr h<;>intro _ h
 ·refine⟨(fun i=>if i=((IntKind.i64.wrap (1-a0.Live)).toNat) then [(.bool false:D),(.int .i64 0:D),(.bool false:D),(.nil:D)] else rows Qyi.enc a0.Slots i),fun _ _=>rfl,?_⟩;cases h;exact lfE [.w 9001 a0.Slots.length (fun i=>if i=((IntKind.i64.wrap (1-a0.Live)).toNat) then [(.bool false:D),(.int .i64 0:D),(.bool false:D),(.nil:D)] else rows Qyi.enc a0.Slots i) (rows Qyi.enc (a0.Slots.set ((IntKind.i64.wrap (1-a0.Live)).toNat) (⟨false,0,false,[]⟩:Qyi))) (rowsW (.same (.same (.same (.zero rfl .nilL))))),.s [(5001,9001),(9001,5001)]]
 ·apply Qr h<;>intro _ h
  ·cases h
  ·apply Qr h<;>intro _ h
   ·obtain⟨x2,hx2,hlx2,h⟩:=Qiw h;obtain⟨x3,hx3,hlx3,h⟩:=Qiw h;obtain⟨x4,hx4,hlx4,h⟩:=Qiw h;refine QbY tOk [.a 16 [(9001,.arr 55 4 a0.Slots.length (rows Qyi.enc a0.Slots))] (.any) [(9001,.arr 55 4 a0.Slots.length (rows Qyi.enc x2))],.a 19 [(9001,.arr 55 4 a0.Slots.length (rows Qyi.enc x2))] (.any) [(9001,.arr 55 4 a0.Slots.length (rows Qyi.enc x3))],.a 22 [(9001,.arr 55 4 a0.Slots.length (rows Qyi.enc x3))] (.any) [(9001,.arr 55 4 a0.Slots.length (rows Qyi.enc x4))]] 23 [] [0,0,0,0,8,24,56,120,0,256,768,1792,3840,7936,8185,24569,57337,122875,253947,516091,1048575,2097151,4194303] [] [9001] (aI (by(conv=>whnf);exact Quu (enc:=Qyi.enc) hx2 ⟨rfl,rfl⟩) (aI (by(conv=>whnf);exact Quu (enc:=Qyi.enc) hx3 ⟨rfl,rfl⟩) (aI (by(conv=>whnf);exact Quu (enc:=Qyi.enc) hx4 ⟨rfl,rfl⟩) (aK ?_))));cases h;exact lfE [.s [(5001,9001),(9001,5001)]]
   ·obtain⟨x5,hx5,h⟩:=Qc h;refine J6 tOk (fun s6=>⟨0,142,[(0,.ref 9000 0 0)],[],[(9000,.box 33 [dB a0.Up,dI a0.Box.Edition,.d (slD encSb a0.Box.Lines),dI s6.1,.d (slD encSb s6.2),.d (slD Qyf.enc a0.Box.Cands),.osl 9001 0 a0.Slots.length,dI (IntKind.i64.wrap (1-a0.Live)),dI a0.Last,dI a0.Job.Kind,dI (IntKind.i64.wrap (a0.Job.Step+1)),dI a0.Job.Edition,dI a0.Job.Ticks,.d (slD encSb a0.Job.Lines)]),(9001,.arr 55 4 a0.Slots.length (rows Qyi.enc a0.Slots))],[⟨[(0,.ref 9000 0 0)],[]⟩]⟩) (fun s6=>x5=s6) ?_ ?_
    ·apply Qr hx5<;>intro _ hx5
     ·refine QbY tOk [.l 6 [(9000,.box 33 [dB a0.Up,dI a0.Box.Edition,.d (slD encSb a0.Box.Lines),dI a0.Box.Trial,.d (slD encSb a0.Box.Back),.d (slD Qyf.enc a0.Box.Cands),.osl 9001 0 a0.Slots.length,dI (IntKind.i64.wrap (1-a0.Live)),dI a0.Last,dI a0.Job.Kind,dI (IntKind.i64.wrap (a0.Job.Step+1)),dI a0.Job.Edition,dI a0.Job.Ticks,.d (slD encSb a0.Job.Lines)])] (dI a0.Job.Ticks),.l 11 [(9000,.box 33 [dB a0.Up,dI a0.Box.Edition,.d (slD encSb a0.Box.Lines),dI a0.Box.Trial,.d (slD encSb a0.Box.Back),.d (slD Qyf.enc a0.Box.Cands),.osl 9001 0 a0.Slots.length,dI (IntKind.i64.wrap (1-a0.Live)),dI a0.Last,dI a0.Job.Kind,dI (IntKind.i64.wrap (a0.Job.Step+1)),dI a0.Job.Edition,dI a0.Job.Ticks,.d (slD encSb a0.Job.Lines)])] (.d (slD encSb a0.Box.Lines)),.a 15 [(9000,.box 33 [dB a0.Up,dI a0.Box.Edition,.d (slD encSb a0.Box.Lines),dI a0.Box.Trial,.d (slD encSb a0.Box.Back),.d (slD Qyf.enc a0.Box.Cands),.osl 9001 0 a0.Slots.length,dI (IntKind.i64.wrap (1-a0.Live)),dI a0.Last,dI a0.Job.Kind,dI (IntKind.i64.wrap (a0.Job.Step+1)),dI a0.Job.Edition,dI a0.Job.Ticks,.d (slD encSb a0.Job.Lines)])] (.any) [(9000,.box 33 [dB a0.Up,dI a0.Box.Edition,.d (slD encSb a0.Box.Lines),dI a0.Job.Ticks,.d (slD encSb a0.Box.Back),.d (slD Qyf.enc a0.Box.Cands),.osl 9001 0 a0.Slots.length,dI (IntKind.i64.wrap (1-a0.Live)),dI a0.Last,dI a0.Job.Kind,dI (IntKind.i64.wrap (a0.Job.Step+1)),dI a0.Job.Edition,dI a0.Job.Ticks,.d (slD encSb a0.Job.Lines)])],.a 19 [(9000,.box 33 [dB a0.Up,dI a0.Box.Edition,.d (slD encSb a0.Box.Lines),dI a0.Job.Ticks,.d (slD encSb a0.Box.Back),.d (slD Qyf.enc a0.Box.Cands),.osl 9001 0 a0.Slots.length,dI (IntKind.i64.wrap (1-a0.Live)),dI a0.Last,dI a0.Job.Kind,dI (IntKind.i64.wrap (a0.Job.Step+1)),dI a0.Job.Edition,dI a0.Job.Ticks,.d (slD encSb a0.Job.Lines)])] (.any) [(9000,.box 33 [dB a0.Up,dI a0.Box.Edition,.d (slD encSb a0.Box.Lines),dI a0.Job.Ticks,.d (slD encSb a0.Box.Lines),.d (slD Qyf.enc a0.Box.Cands),.osl 9001 0 a0.Slots.length,dI (IntKind.i64.wrap (1-a0.Live)),dI a0.Last,dI a0.Job.Kind,dI (IntKind.i64.wrap (a0.Job.Step+1)),dI a0.Job.Edition,dI a0.Job.Ticks,.d (slD encSb a0.Job.Lines)])]] 20 [] [0,0,0,4,12,28,60,0,128,384,896,1920,4093,8189,16381,32765,65535,131071,262143,524287] [] [9000] (aI (by(conv=>whnf);exact⟨rfl,rfl⟩) (aI (by(conv=>whnf);exact⟨rfl,rfl⟩) (aI (by(conv=>whnf);exact⟨rfl,rfl⟩) (aI (by(conv=>whnf);exact⟨rfl,rfl⟩) (aK ?_)))));exact eZ hx5 []
     ·exact eZ hx5 []
    ·rintro _ rfl;refine QbY tOk [.l 6 [(9000,.box 33 [dB a0.Up,dI a0.Box.Edition,.d (slD encSb a0.Box.Lines),dI x5.1,.d (slD encSb x5.2),.d (slD Qyf.enc a0.Box.Cands),.osl 9001 0 a0.Slots.length,dI (IntKind.i64.wrap (1-a0.Live)),dI a0.Last,dI a0.Job.Kind,dI (IntKind.i64.wrap (a0.Job.Step+1)),dI a0.Job.Edition,dI a0.Job.Ticks,.d (slD encSb a0.Job.Lines)])] (.d (slD encSb a0.Job.Lines)),.l 11 [(9000,.box 33 [dB a0.Up,dI a0.Box.Edition,.d (slD encSb a0.Box.Lines),dI x5.1,.d (slD encSb x5.2),.d (slD Qyf.enc a0.Box.Cands),.osl 9001 0 a0.Slots.length,dI (IntKind.i64.wrap (1-a0.Live)),dI a0.Last,dI a0.Job.Kind,dI (IntKind.i64.wrap (a0.Job.Step+1)),dI a0.Job.Edition,dI a0.Job.Ticks,.d (slD encSb a0.Job.Lines)])] (dI a0.Job.Edition),.a 15 [(9000,.box 33 [dB a0.Up,dI a0.Box.Edition,.d (slD encSb a0.Box.Lines),dI x5.1,.d (slD encSb x5.2),.d (slD Qyf.enc a0.Box.Cands),.osl 9001 0 a0.Slots.length,dI (IntKind.i64.wrap (1-a0.Live)),dI a0.Last,dI a0.Job.Kind,dI (IntKind.i64.wrap (a0.Job.Step+1)),dI a0.Job.Edition,dI a0.Job.Ticks,.d (slD encSb a0.Job.Lines)])] (.any) [(9000,.box 33 [dB a0.Up,dI a0.Box.Edition,.d (slD encSb a0.Job.Lines),dI x5.1,.d (slD encSb x5.2),.d (slD Qyf.enc a0.Box.Cands),.osl 9001 0 a0.Slots.length,dI (IntKind.i64.wrap (1-a0.Live)),dI a0.Last,dI a0.Job.Kind,dI (IntKind.i64.wrap (a0.Job.Step+1)),dI a0.Job.Edition,dI a0.Job.Ticks,.d (slD encSb a0.Job.Lines)])],.a 19 [(9000,.box 33 [dB a0.Up,dI a0.Box.Edition,.d (slD encSb a0.Job.Lines),dI x5.1,.d (slD encSb x5.2),.d (slD Qyf.enc a0.Box.Cands),.osl 9001 0 a0.Slots.length,dI (IntKind.i64.wrap (1-a0.Live)),dI a0.Last,dI a0.Job.Kind,dI (IntKind.i64.wrap (a0.Job.Step+1)),dI a0.Job.Edition,dI a0.Job.Ticks,.d (slD encSb a0.Job.Lines)])] (.any) [(9000,.box 33 [dB a0.Up,dI a0.Job.Edition,.d (slD encSb a0.Job.Lines),dI x5.1,.d (slD encSb x5.2),.d (slD Qyf.enc a0.Box.Cands),.osl 9001 0 a0.Slots.length,dI (IntKind.i64.wrap (1-a0.Live)),dI a0.Last,dI a0.Job.Kind,dI (IntKind.i64.wrap (a0.Job.Step+1)),dI a0.Job.Edition,dI a0.Job.Ticks,.d (slD encSb a0.Job.Lines)])]] 20 [] [0,0,0,4,12,28,60,0,128,384,896,1920,4093,8189,16381,32765,65535,131071,262143,524287] [] [9000] (aI (by(conv=>whnf);exact⟨rfl,rfl⟩) (aI (by(conv=>whnf);exact⟨rfl,rfl⟩) (aI (by(conv=>whnf);exact⟨rfl,rfl⟩) (aI (by(conv=>whnf);exact⟨rfl,rfl⟩) (aK ?_)))));cases h;exact lfE [.s [(5001,9001),(9001,5001)]]
def Zp (a0:Qyj):Option (Int×Qyj):=
(if(a0.Job.Kind==1)=true then
 bd (QU a0) fun x1=>
 some (0,{x1 with Up:=a0.Up,Box:={x1.Box with Cands:=a0.Box.Cands}})
else
(if(a0.Job.Kind==2)=true then
 gd ((0:Int)≤a0.Live∧a0.Live<((a0.Slots.length:Nat):Int))<|
 some (0,{a0 with Box:={a0.Box with Trial:=0,Back:=[]},Slots:=a0.Slots.set a0.Live.toNat ({(a0.Slots.getD a0.Live.toNat default) with Trial:=false}),Job:=(⟨0,0,0,0,[]⟩:Qyh)})
else
(if(a0.Job.Kind==3)=true then
 some (0,{a0 with Live:=IntKind.i64.wrap (1-a0.Live),Job:=(⟨0,0,0,0,[]⟩:Qyh)})
else
 some (11,a0))))
theorem Qfc {a0:Qyj} {r:Int×Qyj} (h:Zp a0=some r):EffC prog 62 [.ref 9000 0 0] [(9000,.box 33 [dB a0.Up,dI a0.Box.Edition,.d (slD encSb a0.Box.Lines),dI a0.Box.Trial,.d (slD encSb a0.Box.Back),.d (slD Qyf.enc a0.Box.Cands),.osl 9001 0 a0.Slots.length,dI a0.Live,dI a0.Last,dI a0.Job.Kind,dI a0.Job.Step,dI a0.Job.Edition,dI a0.Job.Ticks,.d (slD encSb a0.Job.Lines)]),(9001,.arr 55 4 a0.Slots.length (rows Qyi.enc a0.Slots))] (dI r.1) [(9000,.box 33 [dB a0.Up,dI r.2.Box.Edition,.d (slD encSb r.2.Box.Lines),dI r.2.Box.Trial,.d (slD encSb r.2.Box.Back),.d (slD Qyf.enc a0.Box.Cands),.osl 5001 0 r.2.Slots.length,dI r.2.Live,dI r.2.Last,dI r.2.Job.Kind,dI r.2.Job.Step,dI r.2.Job.Edition,dI r.2.Job.Ticks,.d (slD encSb r.2.Job.Lines)]),(5001,.arr 55 4 r.2.Slots.length (rows Qyi.enc r.2.Slots))]:=by
 refine eY tOk f62 rfl (Qb tOk ?_);apply Qr h<;>intro _ h
 ·refine bE h [(9000,9000),(9001,9001)] 1000 (fun _=>Qdp) fun x1 h=>?_;cases h;exact lfE [.s [(5001,6001),(6001,5001)]]
 ·apply Qr h<;>intro _ h
  ·refine Qg7 tOk 20000 (fn:=f95) (c:=Jw f95) rfl rfl (by kernel_rfl) rfl ?_;obtain⟨g2,h⟩:=Qe h;refine Q0 tOk [] 10 [] [0,1,3,7,0,16,48,112,255,511] [] (aI g2 (aK (⟨rows Qyi.enc (a0.Slots.set a0.Live.toNat ({(a0.Slots.getD a0.Live.toNat default) with Trial:=false})),QbH Qs7 rfl,?_⟩)));cases h;exact lfE [.s [(5001,9001),(9001,5001)]]
  ·apply Qr h<;>intro _ h
   ·cases h
    exact lfE [.s [(5001,9001),(9001,5001)]]
   ·cases h
    exact lfE [.s [(5001,9001),(9001,5001)]]
def Qc1 (a0:Qyj):Option (Qyj):=
 gd ((0:Int)≤a0.Live∧a0.Live<((a0.Slots.length:Nat):Int))<|
(if(a0.Slots.getD a0.Live.toNat default).Trial=true then
 gd ((0:Int)≤IntKind.i64.wrap (1-a0.Live)∧IntKind.i64.wrap (1-a0.Live)<((a0.Slots.length:Nat):Int))<|
 bd (Qs ((a0.Slots.getD ((IntKind.i64.wrap (1-a0.Live)).toNat) default).Lines)) fun x3=>
 some ({a0 with Up:=true,Box:=(⟨IntKind.i64.wrap (a0.Last+1),x3,0,[],[]⟩:Qyg),Job:=(⟨3,0,0,0,[]⟩:Qyh)})
else
 gd ((0:Int)≤a0.Live∧a0.Live<((a0.Slots.length:Nat):Int))<|
 bd (Qs ((a0.Slots.getD a0.Live.toNat default).Lines)) fun x5=>
 gd ((0:Int)≤a0.Live∧a0.Live<((a0.Slots.length:Nat):Int))<|
(if(((a0.Slots.getD a0.Live.toNat default).Edition) !=a0.Last)=true then
 some ({a0 with Up:=true,Box:=(⟨IntKind.i64.wrap (a0.Last+1),x5,0,[],[]⟩:Qyg)})
else
 some ({a0 with Up:=true,Box:=(⟨a0.Last,x5,0,[],[]⟩:Qyg)})))
theorem Qfq {a0:Qyj} {r:Qyj} (h:Qc1 a0=some r):EffC prog 63 [.ref 9000 0 0] [(9000,.box 33 [dB a0.Up,dI a0.Box.Edition,.d (slD encSb a0.Box.Lines),dI a0.Box.Trial,.d (slD encSb a0.Box.Back),.d (slD Qyf.enc a0.Box.Cands),.d (slD Qyi.enc a0.Slots),dI a0.Live,dI a0.Last,dI a0.Job.Kind,dI a0.Job.Step,dI a0.Job.Edition,dI a0.Job.Ticks,.d (slD encSb a0.Job.Lines)])] (.tup []) [(9000,.box 33 [dB r.Up,dI r.Box.Edition,.d (slD encSb r.Box.Lines),dI r.Box.Trial,.d (slD encSb r.Box.Back),.d (slD Qyf.enc r.Box.Cands),.d (slD Qyi.enc a0.Slots),dI a0.Live,dI a0.Last,dI r.Job.Kind,dI r.Job.Step,dI r.Job.Edition,dI r.Job.Ticks,.d (slD encSb r.Job.Lines)])]:=by
 refine eY tOk f63 rfl (Qb tOk (Qg7 tOk 20000 (fn:=f95) (c:=Jw f95) rfl rfl (by kernel_rfl) rfl ?_));obtain⟨g1,h⟩:=Qe h;refine Q0 tOk [] 10 [] [0,1,3,7,0,16,48,112,255,511] [] (aI g1 (aK ?_));apply Qr h<;>intro _ h
 ·obtain⟨g2,h⟩:=Qe h;obtain⟨x3,hx3,h⟩:=Qc h;refine QbY tOk [.r 3 [(9000,.box 33 [dB true,dI a0.Box.Edition,.d (slD encSb a0.Box.Lines),dI a0.Box.Trial,.d (slD encSb a0.Box.Back),.d (slD Qyf.enc a0.Box.Cands),.d (slD Qyi.enc a0.Slots),dI a0.Live,dI a0.Last,dI a0.Job.Kind,dI a0.Job.Step,dI a0.Job.Edition,dI a0.Job.Ticks,.d (slD encSb a0.Job.Lines)])] (.rp [.bool ((a0.Slots.getD ((IntKind.i64.wrap (1-a0.Live)).toNat) default).Whole),.int .i64 ((a0.Slots.getD ((IntKind.i64.wrap (1-a0.Live)).toNat) default).Edition),.bool ((a0.Slots.getD ((IntKind.i64.wrap (1-a0.Live)).toNat) default).Trial),slD encSb ((a0.Slots.getD ((IntKind.i64.wrap (1-a0.Live)).toNat) default).Lines)]) [],.e 7 [] (.osl 6001 0 x3.length) [] [(6001,.arr 9 1 x3.length (rows encSb x3))],.l 11 [(9000,.box 33 [dB true,dI a0.Box.Edition,.d (slD encSb a0.Box.Lines),dI a0.Box.Trial,.d (slD encSb a0.Box.Back),.d (slD Qyf.enc a0.Box.Cands),.d (slD Qyi.enc a0.Slots),dI a0.Live,dI a0.Last,dI a0.Job.Kind,dI a0.Job.Step,dI a0.Job.Edition,dI a0.Job.Ticks,.d (slD encSb a0.Job.Lines)])] (dI a0.Last),.a 17 [(9000,.box 33 [dB true,dI a0.Box.Edition,.d (slD encSb a0.Box.Lines),dI a0.Box.Trial,.d (slD encSb a0.Box.Back),.d (slD Qyf.enc a0.Box.Cands),.d (slD Qyi.enc a0.Slots),dI a0.Live,dI a0.Last,dI a0.Job.Kind,dI a0.Job.Step,dI a0.Job.Edition,dI a0.Job.Ticks,.d (slD encSb a0.Job.Lines)])] (.any) [(9000,.box 33 [dB true,dI (IntKind.i64.wrap (a0.Last+1)),.osl 6001 0 x3.length,dI 0,.d (.nil),.d (.nil),.d (slD Qyi.enc a0.Slots),dI a0.Live,dI a0.Last,dI a0.Job.Kind,dI a0.Job.Step,dI a0.Job.Edition,dI a0.Job.Ticks,.d (slD encSb a0.Job.Lines)])],.a 20 [(9000,.box 33 [dB true,dI (IntKind.i64.wrap (a0.Last+1)),.osl 6001 0 x3.length,dI 0,.d (.nil),.d (.nil),.d (slD Qyi.enc a0.Slots),dI a0.Live,dI a0.Last,dI a0.Job.Kind,dI a0.Job.Step,dI a0.Job.Edition,dI a0.Job.Ticks,.d (slD encSb a0.Job.Lines)])] (.any) [(9000,.box 33 [dB true,dI (IntKind.i64.wrap (a0.Last+1)),.osl 6001 0 x3.length,dI 0,.d (.nil),.d (.nil),.d (slD Qyi.enc a0.Slots),dI a0.Live,dI a0.Last,dI 3,dI 0,dI 0,dI 0,.d (.nil)])]] 21 [] [0,0,0,4,12,28,60,124,0,256,768,1792,3840,8188,0,16381,49149,114685,262143,524287,1048575] [] [9000] (aI (eD [(9000,9000)] 0 (Qdg tOk (fn:=f96) (c:=Jw f96) (args:=[.ref 9000 0 0]) (bs:=[(9000,.box 33 [dB true,dI a0.Box.Edition,.d (slD encSb a0.Box.Lines),dI a0.Box.Trial,.d (slD encSb a0.Box.Back),.d (slD Qyf.enc a0.Box.Cands),.d (slD Qyi.enc a0.Slots),dI a0.Live,dI a0.Last,dI a0.Job.Kind,dI a0.Job.Step,dI a0.Job.Edition,dI a0.Job.Ticks,.d (slD encSb a0.Job.Lines)])]) (res:=.rp [.bool ((a0.Slots.getD ((IntKind.i64.wrap (1-a0.Live)).toNat) default).Whole),.int .i64 ((a0.Slots.getD ((IntKind.i64.wrap (1-a0.Live)).toNat) default).Edition),.bool ((a0.Slots.getD ((IntKind.i64.wrap (1-a0.Live)).toNat) default).Trial),slD encSb ((a0.Slots.getD ((IntKind.i64.wrap (1-a0.Live)).toNat) default).Lines)]) (M:=[(9000,.box 33 [dB true,dI a0.Box.Edition,.d (slD encSb a0.Box.Lines),dI a0.Box.Trial,.d (slD encSb a0.Box.Back),.d (slD Qyf.enc a0.Box.Cands),.d (slD Qyi.enc a0.Slots),dI a0.Live,dI a0.Last,dI a0.Job.Kind,dI a0.Job.Step,dI a0.Job.Edition,dI a0.Job.Ticks,.d (slD encSb a0.Job.Lines)])]) rfl rfl (by((conv=>whnf);(refine Q0 tOk [] 11 [] [0,1,3,7,0,16,48,112,240,511,1023] [] ?_);(conv=>whnf);(refine aI g2 ?_);(clear g2);(conv=>whnf);(refine aI (by kernel_rfl) ?_);(conv=>whnf);(exact lfE []))))) ?_);refine aI (eH [] 1000 ((QK hx3).eff rfl rfl)) (aI (by(conv=>whnf);exact⟨rfl,rfl⟩) (aI (by(conv=>whnf);exact⟨rfl,rfl⟩) (aI (by(conv=>whnf);exact⟨rfl,rfl⟩) (aK ?_))));cases h;exact lfE [.f [6001]]
 ·obtain⟨g4,h⟩:=Qe h;obtain⟨x5,hx5,h⟩:=Qc h;refine QbY tOk [.r 2 [(9000,.box 33 [dB true,dI a0.Box.Edition,.d (slD encSb a0.Box.Lines),dI a0.Box.Trial,.d (slD encSb a0.Box.Back),.d (slD Qyf.enc a0.Box.Cands),.d (slD Qyi.enc a0.Slots),dI a0.Live,dI a0.Last,dI a0.Job.Kind,dI a0.Job.Step,dI a0.Job.Edition,dI a0.Job.Ticks,.d (slD encSb a0.Job.Lines)])] (.rp [.bool ((a0.Slots.getD a0.Live.toNat default).Whole),.int .i64 ((a0.Slots.getD a0.Live.toNat default).Edition),.bool ((a0.Slots.getD a0.Live.toNat default).Trial),slD encSb ((a0.Slots.getD a0.Live.toNat default).Lines)]) [],.u 6 1000 (.osl 5001 0 x5.length) [⟨5001,9,1,x5.length,rows encSb x5⟩],.l 10 [(9000,.box 33 [dB true,dI a0.Box.Edition,.d (slD encSb a0.Box.Lines),dI a0.Box.Trial,.d (slD encSb a0.Box.Back),.d (slD Qyf.enc a0.Box.Cands),.d (slD Qyi.enc a0.Slots),dI a0.Live,dI a0.Last,dI a0.Job.Kind,dI a0.Job.Step,dI a0.Job.Edition,dI a0.Job.Ticks,.d (slD encSb a0.Job.Lines)])] (dI a0.Last)] 14 [] [0,0,2,6,14,30,62,0,128,384,896,2046,4095,8191] [16383] [9000] (aI (eD [(9000,9000)] 0 (Qdg tOk (fn:=f95) (c:=Jw f95) (args:=[.ref 9000 0 0]) (bs:=[(9000,.box 33 [dB true,dI a0.Box.Edition,.d (slD encSb a0.Box.Lines),dI a0.Box.Trial,.d (slD encSb a0.Box.Back),.d (slD Qyf.enc a0.Box.Cands),.d (slD Qyi.enc a0.Slots),dI a0.Live,dI a0.Last,dI a0.Job.Kind,dI a0.Job.Step,dI a0.Job.Edition,dI a0.Job.Ticks,.d (slD encSb a0.Job.Lines)])]) (res:=.rp [.bool ((a0.Slots.getD a0.Live.toNat default).Whole),.int .i64 ((a0.Slots.getD a0.Live.toNat default).Edition),.bool ((a0.Slots.getD a0.Live.toNat default).Trial),slD encSb ((a0.Slots.getD a0.Live.toNat default).Lines)]) (M:=[(9000,.box 33 [dB true,dI a0.Box.Edition,.d (slD encSb a0.Box.Lines),dI a0.Box.Trial,.d (slD encSb a0.Box.Back),.d (slD Qyf.enc a0.Box.Cands),.d (slD Qyi.enc a0.Slots),dI a0.Live,dI a0.Last,dI a0.Job.Kind,dI a0.Job.Step,dI a0.Job.Edition,dI a0.Job.Ticks,.d (slD encSb a0.Job.Lines)])]) rfl rfl (by((conv=>whnf);(refine Q0 tOk [] 10 [] [0,1,3,7,0,16,48,112,255,511] [] ?_);(conv=>whnf);(refine aI g4 ?_);(clear g4);(conv=>whnf);(refine aI (by kernel_rfl) ?_);(conv=>whnf);(exact lfE []))))) ?_);refine aI (QM (QK hx5) (by kernel_rfl)) (aI (by(conv=>whnf);exact⟨rfl,rfl⟩) (aK ?_));obtain⟨g6,h⟩:=Qe h;refine QbY tOk [.r 1 [(6001,.arr 9 1 x5.length (rows encSb x5)),(9000,.box 33 [dB true,dI a0.Last,.osl 6001 0 x5.length,dI 0,.d (.nil),.d (.nil),.d (slD Qyi.enc a0.Slots),dI a0.Live,dI a0.Last,dI a0.Job.Kind,dI a0.Job.Step,dI a0.Job.Edition,dI a0.Job.Ticks,.d (slD encSb a0.Job.Lines)])] (.rp [.bool ((a0.Slots.getD a0.Live.toNat default).Whole),.int .i64 ((a0.Slots.getD a0.Live.toNat default).Edition),.bool ((a0.Slots.getD a0.Live.toNat default).Trial),slD encSb ((a0.Slots.getD a0.Live.toNat default).Lines)]) [],.l 8 [(9000,.box 33 [dB true,dI a0.Last,.osl 6001 0 x5.length,dI 0,.d (.nil),.d (.nil),.d (slD Qyi.enc a0.Slots),dI a0.Live,dI a0.Last,dI a0.Job.Kind,dI a0.Job.Step,dI a0.Job.Edition,dI a0.Job.Ticks,.d (slD encSb a0.Job.Lines)])] (dI a0.Last)] 10 [] [0,1,3,7,15,0,32,96,224,511] [] [6001,9000] (aI (eD [(6001,6001),(9000,9000)] 0 (Qdg tOk (fn:=f95) (c:=Jw f95) (args:=[.ref 9000 0 0]) (bs:=[(6001,.arr 9 1 x5.length (rows encSb x5)),(9000,.box 33 [dB true,dI a0.Last,.osl 6001 0 x5.length,dI 0,.d (.nil),.d (.nil),.d (slD Qyi.enc a0.Slots),dI a0.Live,dI a0.Last,dI a0.Job.Kind,dI a0.Job.Step,dI a0.Job.Edition,dI a0.Job.Ticks,.d (slD encSb a0.Job.Lines)])]) (res:=.rp [.bool ((a0.Slots.getD a0.Live.toNat default).Whole),.int .i64 ((a0.Slots.getD a0.Live.toNat default).Edition),.bool ((a0.Slots.getD a0.Live.toNat default).Trial),slD encSb ((a0.Slots.getD a0.Live.toNat default).Lines)]) (M:=[(6001,.arr 9 1 x5.length (rows encSb x5)),(9000,.box 33 [dB true,dI a0.Last,.osl 6001 0 x5.length,dI 0,.d (.nil),.d (.nil),.d (slD Qyi.enc a0.Slots),dI a0.Live,dI a0.Last,dI a0.Job.Kind,dI a0.Job.Step,dI a0.Job.Edition,dI a0.Job.Ticks,.d (slD encSb a0.Job.Lines)])]) rfl rfl (by((conv=>whnf);(refine Q0 tOk [] 10 [] [0,1,3,7,0,16,48,112,255,511] [] ?_);(conv=>whnf);(refine aI g6 ?_);(clear g6);(conv=>whnf);(refine aI (by kernel_rfl) ?_);(conv=>whnf);(exact lfE []))))) ?_);refine aI (by(conv=>whnf);exact⟨rfl,rfl⟩) (aK ?_);apply Qr h<;>intro _ h
  ·cases h
   exact lfE [.f [6001]]
  ·cases h
   exact lfE [.f [6001]]
def QA (a0:Qyj) (a1:Qyk):Option (Int×Qyj):=
(if(a1.Kind==1)=true then
 bd (Jf a0 a1.User) fun x1=>
 some (x1.1,{a0 with Box:={a0.Box with Cands:=x1.2.Box.Cands}})
else
 bd (α:=Bool) ((if(a1.Kind==2)=true then
 some (a1.Kind==2)
else
 some (a1.Kind==3))) fun x2=>
(if x2=true then
 bd (ZY a0 a1) fun x5=>
 some (x5.1,{a0 with Box:={a0.Box with Cands:=x5.2.Box.Cands}})
else
(if(a1.Kind==4)=true then
 bd (Zz a0 a1.User) fun x6=>
 some (x6.1,{a0 with Box:={a0.Box with Cands:=x6.2.Box.Cands}})
else
(if(a1.Kind==5)=true then
 bd (Z9 a0 a1.User a1.N) fun x7=>
 some (x7.1,{a0 with Box:={a0.Box with Cands:=x7.2.Box.Cands},Job:=x7.2.Job})
else
(if(a1.Kind==6)=true then
 bd (QbO a0 a1.User a1.N) fun x8=>
 some (x8.1,{a0 with Job:=x8.2.Job})
else
(if(a1.Kind==7)=true then
 bd (Qc0 a0) fun x9=>
 some (x9.1,{a0 with Box:={x9.2.Box with Cands:=a0.Box.Cands},Job:=x9.2.Job})
else
(if(a1.Kind==8)=true then
 bd (Zp a0) fun x10=>
 some (x10.1,{x10.2 with Up:=a0.Up,Box:={x10.2.Box with Cands:=a0.Box.Cands}})
else
(if(a1.Kind==9)=true then
 some (0,{a0 with Up:=false,Box:=(⟨0,[],0,[],[]⟩:Qyg),Job:=(⟨0,0,0,0,[]⟩:Qyh)})
else
(if(a1.Kind==10)=true then
 bd (Qc1 a0) fun x11=>
 some (0,{x11 with Slots:=a0.Slots,Live:=a0.Live,Last:=a0.Last})
else
 some (0,a0))))))))))
theorem Qgv {a0:Qyj} {a1:Qyk} {r:Int×Qyj} (h:QA a0 a1=some r):EffC prog 27 [.ref 9000 0 0,.agg [dI a1.Kind,.d (.str a1.User),.d (.str a1.Line),dI a1.N]] [(9000,.box 33 [dB a0.Up,dI a0.Box.Edition,.d (slD encSb a0.Box.Lines),dI a0.Box.Trial,.d (slD encSb a0.Box.Back),.osl 9001 0 a0.Box.Cands.length,.osl 9002 0 a0.Slots.length,dI a0.Live,dI a0.Last,dI a0.Job.Kind,dI a0.Job.Step,dI a0.Job.Edition,dI a0.Job.Ticks,.d (slD encSb a0.Job.Lines)]),(9001,.arr 76 4 a0.Box.Cands.length (rows Qyf.enc a0.Box.Cands)),(9002,.arr 55 4 a0.Slots.length (rows Qyi.enc a0.Slots))] (dI r.1) [(9000,.box 33 [dB r.2.Up,dI r.2.Box.Edition,.d (slD encSb r.2.Box.Lines),dI r.2.Box.Trial,.d (slD encSb r.2.Box.Back),.d (slD Qyf.enc r.2.Box.Cands),.d (slD Qyi.enc r.2.Slots),dI r.2.Live,dI r.2.Last,dI r.2.Job.Kind,dI r.2.Job.Step,dI r.2.Job.Edition,dI r.2.Job.Ticks,.d (slD encSb r.2.Job.Lines)])]:=by
 refine eY tOk f27 rfl (Qb tOk ?_);apply Qr h<;>intro _ h
 ·obtain⟨x1,hx1,h⟩:=Qc h;refine ZV [9002] (cE [(9000,9000),(9001,9001)] 1000 (Qfb hx1) ?_);cases h;exact lfE [.f [6001]]
 ·obtain⟨x2,hx2,h⟩:=Qc h;refine J6 tOk (fun s3=>⟨0,66,[(0,.ref 9000 0 0),(3,.ref 3 0 0),(6,dI a1.Kind),(13,dB s3)],[],[(3,.box 40 [dI a1.Kind,.d (.str a1.User),.d (.str a1.Line),dI a1.N]),(9000,.box 33 [dB a0.Up,dI a0.Box.Edition,.d (slD encSb a0.Box.Lines),dI a0.Box.Trial,.d (slD encSb a0.Box.Back),.osl 9001 0 a0.Box.Cands.length,.osl 9002 0 a0.Slots.length,dI a0.Live,dI a0.Last,dI a0.Job.Kind,dI a0.Job.Step,dI a0.Job.Edition,dI a0.Job.Ticks,.d (slD encSb a0.Job.Lines)]),(9001,.arr 76 4 a0.Box.Cands.length (rows Qyf.enc a0.Box.Cands)),(9002,.arr 55 4 a0.Slots.length (rows Qyi.enc a0.Slots))],[⟨[(0,.ref 9000 0 0)],[]⟩]⟩) (fun s3=>x2=s3) ?_ ?_
  ·apply Qr hx2<;>intro _ hx2
   ·exact eZ hx2 []
   ·exact eZ hx2 []
  ·rintro _ rfl;apply Qr h<;>intro _ h
   ·obtain⟨x5,hx5,h⟩:=Qc h;refine ZV [9002] (cE [(9000,9000),(9001,9001)] 0 (Qfo hx5) ?_);cases h;exact lfE []
   ·apply Qr h<;>intro _ h
    ·obtain⟨x6,hx6,h⟩:=Qc h;refine ZV [9002] (cE [(9000,9000),(9001,9001)] 1000 (QeF hx6) ?_);cases h;exact lfE [.f [6001]]
    ·apply Qr h<;>intro _ h
     ·obtain⟨x7,hx7,h⟩:=Qc h;refine ZV [9002] (cE [(9000,9000),(9001,9001)] 1000 (QeG hx7) ?_);cases h;exact lfE [.f [6001]]
     ·apply Qr h<;>intro _ h
      ·obtain⟨x8,hx8,h⟩:=Qc h;refine ZV [9001,9002] (cE [(9000,9000)] 0 (Qem hx8) ?_);cases h;exact lfE []
      ·apply Qr h<;>intro _ h
       ·obtain⟨x9,hx9,h⟩:=Qc h;refine ZV [9001,9002] (cE [(9000,9000)] 0 (Qfp hx9) ?_);cases h;exact lfE []
       ·apply Qr h<;>intro _ h
        ·obtain⟨x10,hx10,h⟩:=Qc h;refine ZV [9001] (cE [(9000,9000),(9001,9002)] 1000 (Qfc hx10) ?_);cases h;exact lfE [.f [6001]]
        ·apply Qr h<;>intro _ h
         ·cases h
          exact lfE [.f [9002]]
         ·apply Qr h<;>intro _ h
          ·obtain⟨x11,hx11,h⟩:=Qc h;refine ZV [9001,9002] (cE [(9000,9000)] 0 (Qfq hx11) ?_);cases h;exact lfE []
          ·cases h
           exact lfE [.f [9001,9002]]
def Qay (a0:Qyj) (a1:Qyk):Option (Qyj×Int):=
 bd (Q5 a0) fun x1=>
(if(!x1)=true then
 some ((⟨false,(⟨0,[],0,[],[]⟩:Qyg),[],0,0,(⟨0,0,0,0,[]⟩:Qyh)⟩:Qyj),1)
else
 bd (Qa6 a0) fun x2=>
 bd (Qn a1.Kind 1 10) fun x3=>
(if(!x3)=true then
 some (x2,2)
else
(if(a0.Up==(a1.Kind==10))=true then
 some (x2,12)
else
 bd (QA x2 a1) fun x4=>
(if(x4.1 !=0)=true then
 bd (Qa6 a0) fun x5=>
 some (x5,x4.1)
else
 some (x4.2,0)))))
theorem QjK {a0:Qyj} {a1:Qyk} {r:Qyj×Int} (h:Qay a0 a1=some r):EffC prog 8 [.agg [dB a0.Up,dI a0.Box.Edition,.d (slD encSb a0.Box.Lines),dI a0.Box.Trial,.d (slD encSb a0.Box.Back),.d (slD Qyf.enc a0.Box.Cands),.d (slD Qyi.enc a0.Slots),dI a0.Live,dI a0.Last,dI a0.Job.Kind,dI a0.Job.Step,dI a0.Job.Edition,dI a0.Job.Ticks,.d (slD encSb a0.Job.Lines)],.agg [dI a1.Kind,.d (.str a1.User),.d (.str a1.Line),dI a1.N]] [] (.tup [.agg [dB r.1.Up,dI r.1.Box.Edition,.d (slD encSb r.1.Box.Lines),dI r.1.Box.Trial,.d (slD encSb r.1.Box.Back),.d (slD Qyf.enc r.1.Box.Cands),.d (slD Qyi.enc r.1.Slots),dI r.1.Live,dI r.1.Last,dI r.1.Job.Kind,dI r.1.Job.Step,dI r.1.Job.Edition,dI r.1.Job.Ticks,.d (slD encSb r.1.Job.Lines)],dI r.2]) []:=by
 refine eY tOk f8 rfl (Qb tOk (bC h 0 (fun _=>Qca) fun x1 h=>?_));apply Qr h<;>intro _ h
 ·cases h
  exact lfE []
 ·refine bE h [] 1000 (fun _=>Qfn) fun x2 h=>Qb tOk (bC h 0 (fun _=>QQ) fun x3 h=>?_);apply Qr h<;>intro _ h
  ·cases h
   exact lfE [.f [6001,6002,6003,6004,6005]]
  ·apply Qr h<;>intro _ h
   ·cases h
    exact lfE [.f [6001,6002,6003,6004,6005]]
   ·refine Qb tOk ?_;obtain⟨x4,hx4,h⟩:=Qc h;refine ZV [6001,6002,6005] (cE [(9000,6),(9001,6003),(9002,6004)] 0 (Qgv hx4) ?_);apply Qr h<;>intro _ h
    ·refine bE h [] 2000 (fun _=>Qfn) fun x5 h=>?_;cases h;exact lfE [.f [7001,7002,7003,7004,7005]]
    ·cases h
     exact lfE []
@[reducible] def csC (a:Qyj) (ed:Int) (ln:V) (tr:Int) (bk cd sl:V) (lv:Int) (jl:V):List V:=[dB a.Up,dI ed,ln,dI tr,bk,cd,sl,dI lv,dI a.Last,dI a.Job.Kind,dI a.Job.Step,dI a.Job.Edition,dI a.Job.Ticks,jl]
@[reducible] def csD (a:Qyj) (ss:List Qyi) (lv:Int):List V:=csC a a.Box.Edition (.d (slD encSb a.Box.Lines)) a.Box.Trial (.d (slD encSb a.Box.Back)) (.d (slD Qyf.enc a.Box.Cands)) (.d (slD Qyi.enc ss)) lv (.d (slD encSb a.Job.Lines))
@[reducible] def sl2 (s0 s1:Qyi) (l0 l1:V):List V:=[dB s0.Whole,dI s0.Edition,dB s0.Trial,l0,dB s1.Whole,dI s1.Edition,dB s1.Trial,l1]
@[reducible] def stA (xs:List Bt):Blk:=.arr 9 1 xs.length (rows encSb xs)
def Qbu (a0:Qyj) (s0 s1:Qyi):Option (Qyg×List Bt×List Bt×List Bt):=
 bd (Qbs a0.Box) fun x1=>
 bd (Qs a0.Job.Lines) fun x2=>
 bd (Jr [s0,s1]) fun x3=>
 gd (x3=[s0,s1])<|
 bd (Qs s0.Lines) fun y0=>
 bd (Qs s1.Lines) fun y1=>
 some (x1,x2,y0,y1)
theorem Qm1 {a0:Qyj} {s0 s1:Qyi} {lv:Int} {r:Qyg×List Bt×List Bt×List Bt} (h:Qbu a0 s0 s1=some r):EffC prog 25 [.agg (csD a0 [s0,s1] lv)] [] (.agg (csC a0 r.1.Edition (.osl 5001 0 r.1.Lines.length) r.1.Trial (.osl 5002 0 r.1.Back.length) (.osl 5003 0 r.1.Cands.length) (.osl 5004 0 2) lv (.osl 5005 0 r.2.1.length))) [(5001,stA r.1.Lines),(5002,stA r.1.Back),(5003,.arr 76 4 r.1.Cands.length (rows Qyf.enc r.1.Cands)),(5004,.box 2000055 (sl2 s0 s1 (.osl 5006 0 r.2.2.1.length) (.osl 5007 0 r.2.2.2.length))),(5005,stA r.2.1),(5006,stA r.2.2.1),(5007,stA r.2.2.2)]:=by
 refine Qdg tOk (fn:=f25) (c:=Jw f25) rfl rfl ?_;unfold Qbu at h;(conv=>whnf);obtain⟨x1,hx1,h⟩:=Qc h;obtain⟨x2,hx2,h⟩:=Qc h;obtain⟨x3,hx3,h⟩:=Qc h;obtain⟨hx,h⟩:=Qe h;rw[hx] at hx3;clear hx;obtain⟨y0,hy0,h⟩:=Qc h;obtain⟨y1,hy1,h⟩:=Qc h;refine QbY tOk [.e 2 [] (.agg [dI x1.Edition,.osl 6001 0 x1.Lines.length,dI x1.Trial,.osl 6002 0 x1.Back.length,.osl 6003 0 x1.Cands.length]) [(6001,stA x1.Lines),(6002,stA x1.Back),(6003,.arr 76 4 x1.Cands.length (rows Qyf.enc x1.Cands))] [],.u 6 2000 (.osl 5001 0 x2.length) [⟨5001,9,1,x2.length,rows encSb x2⟩],.e 9 [] (.osl 8001 0 [s0,s1].length) [(8001,.arr 55 4 [s0,s1].length (rows Qyi.enc [s0,s1]))] []] 11 [] [0,1,3,0,8,24,63,0,128,511,7] [2047,4095,8191,16383,32767,65535] [] ?_;(conv=>whnf);refine And.intro (eD [] 1000 (Qgd hx1)) ?_;(conv=>whnf);refine And.intro (QM (QK hx2) (by kernel_rfl)) ?_;(conv=>whnf);refine And.intro (eD [] 3000 (QcZ hx3)) ?_;(conv=>whnf);refine And.intro (by kernel_rfl) ?_;(conv=>whnf);refine Qvd [1,2,3,22,23] 8001 ?_;(conv=>whnf);refine⟨2,_,rfl,BoxOk.rows (enc:=Qyi.enc) (ys:=[s0,s1]) (fun _=>rfl) (by simp) (by decide),?_⟩;(conv=>whnf);refine Qb tOk ?_;(conv=>whnf);refine QwF tOk 3 ?_;(conv=>whnf);refine Qb tOk ?_;(conv=>whnf);refine⟨fun _=>?_,fun h0=>absurd h0 (by simp<;>decide)⟩;(conv=>whnf);refine Qb tOk ?_;(conv=>whnf);refine Q0 tOk [.u 9 4000 (.osl 5001 0 y0.length) [⟨5001,9,1,y0.length,rows encSb y0⟩]] 12 [] [0,1,0,0,8,0,56,120,248,504,1023,2047] [4095] ?_;(conv=>whnf);refine And.intro (by constructor<;>simp<;>decide) ?_;(conv=>whnf);refine And.intro (QM (QK hy0) (by kernel_rfl)) ?_;(conv=>whnf);refine And.intro (by constructor<;>simp<;>decide) ?_;(conv=>whnf);refine And.intro (by kernel_rfl) ?_;(conv=>whnf);refine QwG [1,2,3,22,23,24] [.s [(9001,7101),(7101,9001)]] ?_;(conv=>whnf);refine⟨⟨by kernel_rfl⟩,?_⟩;(conv=>whnf);refine Qb tOk ?_;(conv=>whnf);refine⟨fun _=>?_,fun h0=>absurd h0 (by simp<;>decide)⟩;(conv=>whnf);refine Qb tOk ?_;(conv=>whnf);refine Q0 tOk [.u 9 4000 (.osl 5001 0 y1.length) [⟨5001,9,1,y1.length,rows encSb y1⟩]] 12 [] [0,1,0,0,8,0,56,120,248,504,1023,2047] [4095] ?_;(conv=>whnf);refine And.intro (by constructor<;>simp<;>decide) ?_;(conv=>whnf);refine And.intro (QM (QK hy1) (by kernel_rfl)) ?_;(conv=>whnf);refine And.intro (by constructor<;>simp<;>decide) ?_;(conv=>whnf);refine And.intro (by kernel_rfl) ?_;(conv=>whnf);refine Qb tOk ?_;(conv=>whnf);refine⟨fun h0=>absurd h0 (by simp<;>decide),fun _=>?_⟩;(conv=>whnf);obtain rfl:=sj_ h;exact lfE [.s [(5001,6001),(5002,6002),(5003,6003),(5004,8001),(5005,7001),(6001,5001),(6002,5002),(6003,5003),(7001,5005),(8001,5004),(7101,5006),(5006,7101),(9001,5007),(5007,9001)]]
@[reducible] def csE (a:Qyj) (st:Int) (sl:V) (lv:Int):List V:=[dB a.Up,dI a.Box.Edition,.d (slD encSb a.Box.Lines),dI a.Box.Trial,.d (slD encSb a.Box.Back),.d (slD Qyf.enc a.Box.Cands),sl,dI lv,dI a.Last,dI a.Job.Kind,dI st,dI a.Job.Edition,dI a.Job.Ticks,.d (slD encSb a.Job.Lines)]
def Qau (st:Int) (js l:List Bt):Option (List Bt):=
(if(st==0)=true then
 none
else
(if(decide (st≤((js.length:Nat):Int)))=true then
 gd ((0:Int)≤IntKind.i64.wrap (st-1)∧IntKind.i64.wrap (st-1)<((js.length:Nat):Int))<|
 gd (((l.length)+(([js.getD (IntKind.i64.wrap (st-1)).toNat default]:List Bt).length))*(16+1)≤70368744177664)<|
 some (l++([js.getD (IntKind.i64.wrap (st-1)).toNat default]:List Bt))
else
 none))
theorem Qrp {a0:Qyj} {s0 s1:Qyi} {l:List Bt}:EffC prog 96 [.ref 9000 0 0] [(9000,.box 33 (csE a0 a0.Job.Step (.osl 9001 0 2) 0)),(9001,.box 2000055 (sl2 s0 s1 (.d (slD encSb s0.Lines)) (.osl 9002 0 l.length))),(9002,stA l)] (.ref 9001 0 4) [(9000,.box 33 (csE a0 a0.Job.Step (.osl 9001 0 2) 0)),(9001,.box 2000055 (sl2 s0 s1 (.d (slD encSb s0.Lines)) (.osl 9002 0 l.length))),(9002,stA l)]:=by
 refine Qdg tOk (fn:=f96) (c:=Jw f96) rfl rfl ?_;(conv=>whnf);refine Q0 tOk [] 11 [] [0,1,3,7,0,16,48,112,240,511,1023] [] ?_;(conv=>whnf);refine And.intro (by constructor<;>decide) ?_;(conv=>whnf);refine And.intro (by kernel_rfl) ?_;(conv=>whnf);exact lfE []
theorem Qrq {a0:Qyj} {s0 s1:Qyi} {l r:List Bt} (h:Qau a0.Job.Step a0.Job.Lines l=some r):EffC prog 114 [.ref 9000 0 0] [(9000,.box 33 (csE a0 a0.Job.Step (.osl 9001 0 2) 0)),(9001,.box 2000055 (sl2 s0 s1 (.d (slD encSb s0.Lines)) (.osl 9002 0 l.length))),(9002,stA l)] (.tup []) [(9000,.box 33 (csE a0 (IntKind.i64.wrap (a0.Job.Step+1)) (.osl 5001 0 2) 0)),(5001,.box 2000055 (sl2 s0 s1 (.d (slD encSb s0.Lines)) (.osl 5002 0 r.length))),(5002,stA r)]:=by
 refine Qdg tOk (fn:=f114) (c:=Jw f114) rfl rfl ?_;unfold Qau at h;(conv=>whnf);refine QbY tOk [.r 1 [(9000,.box 33 (csE a0 a0.Job.Step (.osl 9001 0 2) 0)),(9001,.box 2000055 (sl2 s0 s1 (.d (slD encSb s0.Lines)) (.osl 9002 0 l.length))),(9002,stA l)] (.ref 9001 0 4) [],.l 6 [(9000,.box 33 (csE a0 a0.Job.Step (.osl 9001 0 2) 0)),(9001,.box 2000055 (sl2 s0 s1 (.d (slD encSb s0.Lines)) (.osl 9002 0 l.length))),(9002,stA l)] (.d (slD encSb a0.Job.Lines))] 10 [] [0,1,0,4,12,28,60,124,3,511] [] [9000,9001,9002] ?_;(conv=>whnf);refine And.intro (eD [(9000,9000),(9001,9001),(9002,9002)] 0 Qrp) ?_;(conv=>whnf);refine And.intro (by(conv=>whnf);exact⟨rfl,rfl⟩) ?_;(conv=>whnf);refine And.intro (by kernel_rfl) ?_;(conv=>whnf);refine Qr h (fun _ h=>?_) (fun _ h=>?_)
 ·cases h
 ·(conv=>whnf);refine Qr h (fun _ h=>?_) (fun _ h=>?_)
  ·(conv=>whnf);obtain⟨g1,h⟩:=Qe h;obtain⟨g2,h⟩:=Qe h;refine QbY tOk [.a 15 [(9002,stA l)] (.osl 114 0 ((l++([a0.Job.Lines.getD (IntKind.i64.wrap (a0.Job.Step-1)).toNat default]:List Bt)).length)) [(114,stA (l++([a0.Job.Lines.getD (IntKind.i64.wrap (a0.Job.Step-1)).toNat default]:List Bt)))]] 16 [] [0,0,2,6,14,0,32,96,224,480,0,1024,4064,8160,16352,32766] [65535,131071,262143] [9002] ?_;(conv=>whnf);refine And.intro g1 ?_;(conv=>whnf);refine Qcl (enc:=encSb) ([a0.Job.Lines.getD (IntKind.i64.wrap (a0.Job.Step-1)).toNat default]:List Bt) ?_;(conv=>whnf);refine And.intro (by(conv=>whnf);exact⟨g2,Qiv (enc:=encSb) (xs:=l) (ys:=([a0.Job.Lines.getD (IntKind.i64.wrap (a0.Job.Step-1)).toNat default]:List Bt)) ⟨rfl,rfl⟩⟩) ?_;(conv=>whnf);refine And.intro (by kernel_rfl) ?_;(conv=>whnf);obtain rfl:=sj_ h;exact lfE [.s [(9001,5001),(5001,9001),(114,5002),(5002,114)]]
  ·cases h
theorem Qrr {a0:Qyj} {s0 s1:Qyi} {l:List Bt}:EffC prog 96 [.ref 9000 0 0] [(9000,.box 33 (csE a0 a0.Job.Step (.osl 9001 0 2) 1)),(9001,.box 2000055 (sl2 s0 s1 (.osl 9002 0 l.length) (.d (slD encSb s1.Lines)))),(9002,stA l)] (.ref 9001 0 0) [(9000,.box 33 (csE a0 a0.Job.Step (.osl 9001 0 2) 1)),(9001,.box 2000055 (sl2 s0 s1 (.osl 9002 0 l.length) (.d (slD encSb s1.Lines)))),(9002,stA l)]:=by
 refine Qdg tOk (fn:=f96) (c:=Jw f96) rfl rfl ?_;(conv=>whnf);refine Q0 tOk [] 11 [] [0,1,3,7,0,16,48,112,240,511,1023] [] ?_;(conv=>whnf);refine And.intro (by constructor<;>decide) ?_;(conv=>whnf);refine And.intro (by kernel_rfl) ?_;(conv=>whnf);exact lfE []
theorem Qrs {a0:Qyj} {s0 s1:Qyi} {l r:List Bt} (h:Qau a0.Job.Step a0.Job.Lines l=some r):EffC prog 114 [.ref 9000 0 0] [(9000,.box 33 (csE a0 a0.Job.Step (.osl 9001 0 2) 1)),(9001,.box 2000055 (sl2 s0 s1 (.osl 9002 0 l.length) (.d (slD encSb s1.Lines)))),(9002,stA l)] (.tup []) [(9000,.box 33 (csE a0 (IntKind.i64.wrap (a0.Job.Step+1)) (.osl 5001 0 2) 1)),(5001,.box 2000055 (sl2 s0 s1 (.osl 5002 0 r.length) (.d (slD encSb s1.Lines)))),(5002,stA r)]:=by
 refine Qdg tOk (fn:=f114) (c:=Jw f114) rfl rfl ?_;unfold Qau at h;(conv=>whnf);refine QbY tOk [.r 1 [(9000,.box 33 (csE a0 a0.Job.Step (.osl 9001 0 2) 1)),(9001,.box 2000055 (sl2 s0 s1 (.osl 9002 0 l.length) (.d (slD encSb s1.Lines)))),(9002,stA l)] (.ref 9001 0 0) [],.l 6 [(9000,.box 33 (csE a0 a0.Job.Step (.osl 9001 0 2) 1)),(9001,.box 2000055 (sl2 s0 s1 (.osl 9002 0 l.length) (.d (slD encSb s1.Lines)))),(9002,stA l)] (.d (slD encSb a0.Job.Lines))] 10 [] [0,1,0,4,12,28,60,124,3,511] [] [9000,9001,9002] ?_;(conv=>whnf);refine And.intro (eD [(9000,9000),(9001,9001),(9002,9002)] 0 Qrr) ?_;(conv=>whnf);refine And.intro (by(conv=>whnf);exact⟨rfl,rfl⟩) ?_;(conv=>whnf);refine And.intro (by kernel_rfl) ?_;(conv=>whnf);refine Qr h (fun _ h=>?_) (fun _ h=>?_)
 ·cases h
 ·(conv=>whnf);refine Qr h (fun _ h=>?_) (fun _ h=>?_)
  ·(conv=>whnf);obtain⟨g1,h⟩:=Qe h;obtain⟨g2,h⟩:=Qe h;refine QbY tOk [.a 15 [(9002,stA l)] (.osl 114 0 ((l++([a0.Job.Lines.getD (IntKind.i64.wrap (a0.Job.Step-1)).toNat default]:List Bt)).length)) [(114,stA (l++([a0.Job.Lines.getD (IntKind.i64.wrap (a0.Job.Step-1)).toNat default]:List Bt)))]] 16 [] [0,0,2,6,14,0,32,96,224,480,0,1024,4064,8160,16352,32766] [65535,131071,262143] [9002] ?_;(conv=>whnf);refine And.intro g1 ?_;(conv=>whnf);refine Qcl (enc:=encSb) ([a0.Job.Lines.getD (IntKind.i64.wrap (a0.Job.Step-1)).toNat default]:List Bt) ?_;(conv=>whnf);refine And.intro (by(conv=>whnf);exact⟨g2,Qiv (enc:=encSb) (xs:=l) (ys:=([a0.Job.Lines.getD (IntKind.i64.wrap (a0.Job.Step-1)).toNat default]:List Bt)) ⟨rfl,rfl⟩⟩) ?_;(conv=>whnf);refine And.intro (by kernel_rfl) ?_;(conv=>whnf);obtain rfl:=sj_ h;exact lfE [.s [(9001,5001),(5001,9001),(114,5002),(5002,114)]]
  ·cases h
theorem Qoc {a0:Qyj} {s0 s1:Qyi} {l r:List Bt} (hk:(a0.Job.Kind==1)=true) (h:Qau a0.Job.Step a0.Job.Lines l=some r):EffC prog 62 [.ref 9000 0 0] [(9000,.box 33 (csE a0 a0.Job.Step (.osl 9001 0 2) 0)),(9001,.box 2000055 (sl2 s0 s1 (.d (slD encSb s0.Lines)) (.osl 9002 0 l.length))),(9002,stA l)] (dI 0) [(9000,.box 33 (csE a0 (IntKind.i64.wrap (a0.Job.Step+1)) (.osl 5001 0 2) 0)),(5001,.box 2000055 (sl2 s0 s1 (.d (slD encSb s0.Lines)) (.osl 5002 0 r.length))),(5002,stA r)]:=by
 refine Qdg tOk (fn:=f62) (c:=Jw f62) rfl rfl ?_;(conv=>whnf);refine Qb tOk ?_;(conv=>whnf);refine⟨fun _=>?_,fun h0=>by rw[hk] at h0;cases h0⟩;(conv=>whnf);refine cE [(9000,9000),(9001,9001),(9002,9002)] 1000 (Qrq h) ?_;(conv=>whnf);exact lfE [.s [(5001,6001),(6001,5001),(5002,6002),(6002,5002)]]
theorem Qtf {a0:Qyj} {s0 s1:Qyi} {l r:List Bt} (hk:(a0.Job.Kind==1)=true) (h:Qau a0.Job.Step a0.Job.Lines l=some r) (u ln:Bt) (n:Int):EffC prog 27 [.ref 9000 0 0,.agg [dI 8,.d (.str u),.d (.str ln),dI n]] [(9000,.box 33 (csE a0 a0.Job.Step (.osl 9001 0 2) 0)),(9001,.box 2000055 (sl2 s0 s1 (.d (slD encSb s0.Lines)) (.osl 9002 0 l.length))),(9002,stA l)] (dI 0) [(9000,.box 33 (csE a0 (IntKind.i64.wrap (a0.Job.Step+1)) (.osl 5001 0 2) 0)),(5001,.box 2000055 (sl2 s0 s1 (.d (slD encSb s0.Lines)) (.osl 5002 0 r.length))),(5002,stA r)]:=by
 refine Qdg tOk (fn:=f27) (c:=Jw f27) rfl rfl ?_;(conv=>whnf);refine Qb tOk ?_;(conv=>whnf);refine⟨fun h0=>absurd h0 (by decide),fun _=>?_⟩;(conv=>whnf);refine Qb tOk ?_;(conv=>whnf);refine⟨fun h0=>absurd h0 (by decide),fun _=>?_⟩;(conv=>whnf);refine⟨fun h0=>absurd h0 (by decide),fun _=>?_⟩;(conv=>whnf);refine⟨fun h0=>absurd h0 (by decide),fun _=>?_⟩;(conv=>whnf);refine⟨fun h0=>absurd h0 (by decide),fun _=>?_⟩;(conv=>whnf);refine⟨fun h0=>absurd h0 (by decide),fun _=>?_⟩;(conv=>whnf);refine⟨fun h0=>absurd h0 (by decide),fun _=>?_⟩;(conv=>whnf);refine⟨fun _=>?_,fun h0=>absurd h0 (by decide)⟩;(conv=>whnf);refine cE [(9000,9000),(9001,9001),(9002,9002)] 1000 (Qoc hk h) ?_;(conv=>whnf);exact lfE [.s [(5001,6001),(6001,5001),(5002,6002),(6002,5002)]]
theorem Qod {a0:Qyj} {s0 s1:Qyi} {l r:List Bt} (hk:(a0.Job.Kind==1)=true) (h:Qau a0.Job.Step a0.Job.Lines l=some r):EffC prog 62 [.ref 9000 0 0] [(9000,.box 33 (csE a0 a0.Job.Step (.osl 9001 0 2) 1)),(9001,.box 2000055 (sl2 s0 s1 (.osl 9002 0 l.length) (.d (slD encSb s1.Lines)))),(9002,stA l)] (dI 0) [(9000,.box 33 (csE a0 (IntKind.i64.wrap (a0.Job.Step+1)) (.osl 5001 0 2) 1)),(5001,.box 2000055 (sl2 s0 s1 (.osl 5002 0 r.length) (.d (slD encSb s1.Lines)))),(5002,stA r)]:=by
 refine Qdg tOk (fn:=f62) (c:=Jw f62) rfl rfl ?_;(conv=>whnf);refine Qb tOk ?_;(conv=>whnf);refine⟨fun _=>?_,fun h0=>by rw[hk] at h0;cases h0⟩;(conv=>whnf);refine cE [(9000,9000),(9001,9001),(9002,9002)] 1000 (Qrs h) ?_;(conv=>whnf);exact lfE [.s [(5001,6001),(6001,5001),(5002,6002),(6002,5002)]]
theorem Qtg {a0:Qyj} {s0 s1:Qyi} {l r:List Bt} (hk:(a0.Job.Kind==1)=true) (h:Qau a0.Job.Step a0.Job.Lines l=some r) (u ln:Bt) (n:Int):EffC prog 27 [.ref 9000 0 0,.agg [dI 8,.d (.str u),.d (.str ln),dI n]] [(9000,.box 33 (csE a0 a0.Job.Step (.osl 9001 0 2) 1)),(9001,.box 2000055 (sl2 s0 s1 (.osl 9002 0 l.length) (.d (slD encSb s1.Lines)))),(9002,stA l)] (dI 0) [(9000,.box 33 (csE a0 (IntKind.i64.wrap (a0.Job.Step+1)) (.osl 5001 0 2) 1)),(5001,.box 2000055 (sl2 s0 s1 (.osl 5002 0 r.length) (.d (slD encSb s1.Lines)))),(5002,stA r)]:=by
 refine Qdg tOk (fn:=f27) (c:=Jw f27) rfl rfl ?_;(conv=>whnf);refine Qb tOk ?_;(conv=>whnf);refine⟨fun h0=>absurd h0 (by decide),fun _=>?_⟩;(conv=>whnf);refine Qb tOk ?_;(conv=>whnf);refine⟨fun h0=>absurd h0 (by decide),fun _=>?_⟩;(conv=>whnf);refine⟨fun h0=>absurd h0 (by decide),fun _=>?_⟩;(conv=>whnf);refine⟨fun h0=>absurd h0 (by decide),fun _=>?_⟩;(conv=>whnf);refine⟨fun h0=>absurd h0 (by decide),fun _=>?_⟩;(conv=>whnf);refine⟨fun h0=>absurd h0 (by decide),fun _=>?_⟩;(conv=>whnf);refine⟨fun h0=>absurd h0 (by decide),fun _=>?_⟩;(conv=>whnf);refine⟨fun _=>?_,fun h0=>absurd h0 (by decide)⟩;(conv=>whnf);refine cE [(9000,9000),(9001,9001),(9002,9002)] 1000 (Qod hk h) ?_;(conv=>whnf);exact lfE [.s [(5001,6001),(6001,5001),(5002,6002),(6002,5002)]]
def QjL (a0:Qyj):Option Qyj:=
 bd (Q5 a0) fun x1=>gd (x1=true∧a0.Up=true∧(a0.Job.Kind==1)=true)<|
 bd (Qn 8 1 10) fun x3=>gd (x3=true)<|
(match a0.Slots with
|[s0,s1]=>
 bd (Qbu a0 s0 s1) fun x=>
(if a0.Live=0 then
 bd (Qau a0.Job.Step x.2.1 x.2.2.2) fun z=>some ({a0 with Box:=x.1,Slots:=[{s0 with Lines:=x.2.2.1},{s1 with Lines:=z}],Job:={a0.Job with Step:=IntKind.i64.wrap (a0.Job.Step+1),Lines:=x.2.1}})
else
 gd (a0.Live=1)<|
 bd (Qau a0.Job.Step x.2.1 x.2.2.1) fun z=>some ({a0 with Box:=x.1,Slots:=[{s0 with Lines:=z},{s1 with Lines:=x.2.2.2}],Job:={a0.Job with Step:=IntKind.i64.wrap (a0.Job.Step+1),Lines:=x.2.1}}))
|_=>none)
theorem Qth {a0:Qyj} {s0 s1:Qyi} {x:Qyg×List Bt×List Bt×List Bt} {z:List Bt} (hok:Q5 ({a0 with Slots:=[s0,s1],Live:=0}:Qyj)=some true) (hup:a0.Up=true) (hk:(a0.Job.Kind==1)=true) (hw:Qn 8 1 10=some true)
  (hc:Qbu a0 s0 s1=some x) (hm:Qau a0.Job.Step x.2.1 x.2.2.2=some z) (u ln:Bt) (n:Int):EffC prog 8 [.agg (csD a0 [s0,s1] 0),.agg [dI 8,.d (.str u),.d (.str ln),dI n]] [] (.tup [.agg (csD ({a0 with Box:=x.1,Job:={a0.Job with Step:=IntKind.i64.wrap (a0.Job.Step+1),Lines:=x.2.1}}:Qyj) [({s0 with Lines:=x.2.2.1}:Qyi),({s1 with Lines:=z}:Qyi)] 0),dI 0]) []:=by
 refine Qdg tOk (fn:=f8) (c:=Jw f8) rfl rfl ?_;(conv=>whnf);refine Qb tOk ?_;(conv=>whnf);refine cC 0 (Qca hok) ?_;(conv=>whnf);refine⟨fun h0=>absurd h0 (by decide),fun _=>?_⟩;(conv=>whnf);refine cE [] 1000 (Qm1 (lv:=0) hc) ?_;(conv=>whnf);refine Qb tOk ?_;(conv=>whnf);refine cC 0 (QQ hw) ?_;(conv=>whnf);refine⟨fun h0=>absurd h0 (by decide),fun _=>?_⟩;(conv=>whnf);refine⟨fun h0=>by rw[hup] at h0;exact absurd h0 (by decide),fun _=>?_⟩;(conv=>whnf);refine Qb tOk ?_;(conv=>whnf);refine ZV [6001,6002,6003,6005,6006] ?_;(conv=>whnf);refine cE [(9000,6),(9001,6004),(9002,6007)] 0 (Qtf (a0:={a0 with Box:=x.1,Job:={a0.Job with Lines:=x.2.1}}) (s0:={s0 with Lines:=x.2.2.1}) (s1:=s1) hk hm u ln n) ?_;(conv=>whnf);refine⟨fun h0=>absurd h0 (by decide),fun _=>?_⟩;(conv=>whnf);exact lfE [.f [5002,5001]]
theorem Qti {a0:Qyj} {s0 s1:Qyi} {x:Qyg×List Bt×List Bt×List Bt} {z:List Bt} (hok:Q5 ({a0 with Slots:=[s0,s1],Live:=1}:Qyj)=some true) (hup:a0.Up=true) (hk:(a0.Job.Kind==1)=true) (hw:Qn 8 1 10=some true)
  (hc:Qbu a0 s0 s1=some x) (hm:Qau a0.Job.Step x.2.1 x.2.2.1=some z) (u ln:Bt) (n:Int):EffC prog 8 [.agg (csD a0 [s0,s1] 1),.agg [dI 8,.d (.str u),.d (.str ln),dI n]] [] (.tup [.agg (csD ({a0 with Box:=x.1,Job:={a0.Job with Step:=IntKind.i64.wrap (a0.Job.Step+1),Lines:=x.2.1}}:Qyj) [({s0 with Lines:=z}:Qyi),({s1 with Lines:=x.2.2.2}:Qyi)] 1),dI 0]) []:=by
 refine Qdg tOk (fn:=f8) (c:=Jw f8) rfl rfl ?_;(conv=>whnf);refine Qb tOk ?_;(conv=>whnf);refine cC 0 (Qca hok) ?_;(conv=>whnf);refine⟨fun h0=>absurd h0 (by decide),fun _=>?_⟩;(conv=>whnf);refine cE [] 1000 (Qm1 (lv:=1) hc) ?_;(conv=>whnf);refine Qb tOk ?_;(conv=>whnf);refine cC 0 (QQ hw) ?_;(conv=>whnf);refine⟨fun h0=>absurd h0 (by decide),fun _=>?_⟩;(conv=>whnf);refine⟨fun h0=>by rw[hup] at h0;exact absurd h0 (by decide),fun _=>?_⟩;(conv=>whnf);refine Qb tOk ?_;(conv=>whnf);refine ZV [6001,6002,6003,6005,6007] ?_;(conv=>whnf);refine cE [(9000,6),(9001,6004),(9002,6006)] 0 (Qtg (a0:={a0 with Box:=x.1,Job:={a0.Job with Lines:=x.2.1}}) (s0:=s0) (s1:={s1 with Lines:=x.2.2.2}) hk hm u ln n) ?_;(conv=>whnf);refine⟨fun h0=>absurd h0 (by decide),fun _=>?_⟩;(conv=>whnf);exact lfE [.f [5002,5001]]
theorem Qve {a0 r:Qyj} (h:QjL a0=some r) (u ln:Bt) (n:Int):EffC prog 8 [.agg (csD a0 a0.Slots a0.Live),.agg [dI 8,.d (.str u),.d (.str ln),dI n]] [] (.tup [.agg (csD r r.Slots r.Live),dI 0]) []:=by
 unfold QjL at h;obtain⟨x1,hx1,h⟩:=Qc h;obtain⟨⟨e1,hup,hk⟩,h⟩:=Qe h;rw[e1] at hx1;obtain⟨x3,hw,h⟩:=Qc h;obtain⟨e3,h⟩:=Qe h;rw[e3] at hw;obtain⟨up,bx,sl,lv,la,jb⟩:=a0;rcases sl with _|⟨s0,_|⟨s1,_|⟨_,_⟩⟩⟩
 ·cases h
 ·cases h
 ·obtain⟨x,hc,h⟩:=Qc (show bd (Qbu ⟨up,bx,[s0,s1],lv,la,jb⟩ s0 s1) _=some r from h);by_cases h0:lv=0
  ·subst h0;rw[if_pos rfl] at h;obtain⟨z,hz,h⟩:=Qc h;obtain rfl:=sj_ h;exact Qth hx1 hup hk hw hc hz u ln n
  ·rw[if_neg h0] at h;obtain⟨h1,h⟩:=Qe h;obtain⟨z,hz,h⟩:=Qc h;obtain rfl:=sj_ h;have h1:lv=1:=h1;subst h1;exact Qti hx1 hup hk hw hc hz u ln n
 ·cases h
def QbI (a0:Qyj) (a1:Qyk):Option (Qyj×Int):=match Qay a0 a1 with
|some r=>some r
|none=>gd (a1.Kind=8)<|bd (QjL a0) fun r=>some (r,0)
theorem Qoe {a0:Qyj} {a1:Qyk} {r:Qyj×Int} (h:QbI a0 a1=some r):EffC prog 8 [.agg (csD a0 a0.Slots a0.Live),.agg [dI a1.Kind,.d (.str a1.User),.d (.str a1.Line),dI a1.N]] [] (.tup [.agg (csD r.1 r.1.Slots r.1.Live),dI r.2]) []:=by
 unfold QbI at h;split at h
 ·rename_i r' hr;obtain rfl:=sj_ h;exact QjK hr
 ·obtain⟨e,h⟩:=Qe h;obtain⟨x,hx,h⟩:=Qc h;obtain rfl:=sj_ h;rw[e];exact Qve hx a1.User a1.Line a1.N
def Qp (a0:Qyj) (a1:Qyk):Option (Qyj×Int):=
 QbI a0 a1
theorem Qbh {a0:Qyj} {a1:Qyk} {r:Qyj×Int} (h:Qp a0 a1=some r):EffC prog 8 [.agg [dB a0.Up,dI a0.Box.Edition,.d (slD encSb a0.Box.Lines),dI a0.Box.Trial,.d (slD encSb a0.Box.Back),.d (slD Qyf.enc a0.Box.Cands),.d (slD Qyi.enc a0.Slots),dI a0.Live,dI a0.Last,dI a0.Job.Kind,dI a0.Job.Step,dI a0.Job.Edition,dI a0.Job.Ticks,.d (slD encSb a0.Job.Lines)],.agg [dI a1.Kind,.d (.str a1.User),.d (.str a1.Line),dI a1.N]] [] (.tup [.agg [dB r.1.Up,dI r.1.Box.Edition,.d (slD encSb r.1.Box.Lines),dI r.1.Box.Trial,.d (slD encSb r.1.Box.Back),.d (slD Qyf.enc r.1.Box.Cands),.d (slD Qyi.enc r.1.Slots),dI r.1.Live,dI r.1.Last,dI r.1.Job.Kind,dI r.1.Job.Step,dI r.1.Job.Edition,dI r.1.Job.Ticks,.d (slD encSb r.1.Job.Lines)],dI r.2]) []:=by
 unfold Qp at h;exact Qoe h
def Ja (a0:Qyj) (a1:Qyk) (a2:Int):Option (Qyj):=
 bd (lp (σ:=Bool×Int×Int×Int×Int×List Bt×List Bt×Int×List Bt×List Qyf×List Qyi×Int×Int×Int×Int) (β:=(Bool×Int×(List Bt)×Int×(List Bt)×(List Qyf)×(List Qyi)×Int×Int×Int×Int×Int×Int×(List Bt))) (fun s1=>
(if(decide (s1.2.2.2.2.2.2.2.2.2.2.2.2.2.2>0))=true then
 bd (Qp (⟨s1.1,(⟨s1.2.1,s1.2.2.2.2.2.2.1,s1.2.2.2.2.2.2.2.1,s1.2.2.2.2.2.2.2.2.1,s1.2.2.2.2.2.2.2.2.2.1⟩:Qyg),s1.2.2.2.2.2.2.2.2.2.2.1,s1.2.2.2.2.2.2.2.2.2.2.2.1,s1.2.2.2.2.2.2.2.2.2.2.2.2.1,(⟨s1.2.2.2.2.2.2.2.2.2.2.2.2.2.1,s1.2.2.1,s1.2.2.2.1,s1.2.2.2.2.1,s1.2.2.2.2.2.1⟩:Qyh)⟩:Qyj) a1) fun x5=>
 some (.inl (x5.1.Up,x5.1.Box.Edition,x5.1.Job.Step,x5.1.Job.Edition,x5.1.Job.Ticks,x5.1.Job.Lines,x5.1.Box.Lines,x5.1.Box.Trial,x5.1.Box.Back,x5.1.Box.Cands,x5.1.Slots,x5.1.Live,x5.1.Last,x5.1.Job.Kind,IntKind.i64.wrap (s1.2.2.2.2.2.2.2.2.2.2.2.2.2.2-1)))
else
 some (.inr (s1.1,s1.2.1,s1.2.2.2.2.2.2.1,s1.2.2.2.2.2.2.2.1,s1.2.2.2.2.2.2.2.2.1,s1.2.2.2.2.2.2.2.2.2.1,s1.2.2.2.2.2.2.2.2.2.2.1,s1.2.2.2.2.2.2.2.2.2.2.2.1,s1.2.2.2.2.2.2.2.2.2.2.2.2.1,s1.2.2.2.2.2.2.2.2.2.2.2.2.2.1,s1.2.2.1,s1.2.2.2.1,s1.2.2.2.2.1,s1.2.2.2.2.2.1)))) (a0.Up,a0.Box.Edition,a0.Job.Step,a0.Job.Edition,a0.Job.Ticks,a0.Job.Lines,a0.Box.Lines,a0.Box.Trial,a0.Box.Back,a0.Box.Cands,a0.Slots,a0.Live,a0.Last,a0.Job.Kind,a2)) fun x4=>
 some (⟨x4.1,(⟨x4.2.1,x4.2.2.1,x4.2.2.2.1,x4.2.2.2.2.1,x4.2.2.2.2.2.1⟩:Qyg),x4.2.2.2.2.2.2.1,x4.2.2.2.2.2.2.2.1,x4.2.2.2.2.2.2.2.2.1,(⟨x4.2.2.2.2.2.2.2.2.2.1,x4.2.2.2.2.2.2.2.2.2.2.1,x4.2.2.2.2.2.2.2.2.2.2.2.1,x4.2.2.2.2.2.2.2.2.2.2.2.2.1,x4.2.2.2.2.2.2.2.2.2.2.2.2.2⟩:Qyh)⟩:Qyj)
theorem Ql5 {a0:Qyj} {a1:Qyk} {a2:Int} {r:Qyj} (h:Ja a0 a1 a2=some r):EffC prog 28 [.agg [dB a0.Up,dI a0.Box.Edition,.d (slD encSb a0.Box.Lines),dI a0.Box.Trial,.d (slD encSb a0.Box.Back),.d (slD Qyf.enc a0.Box.Cands),.d (slD Qyi.enc a0.Slots),dI a0.Live,dI a0.Last,dI a0.Job.Kind,dI a0.Job.Step,dI a0.Job.Edition,dI a0.Job.Ticks,.d (slD encSb a0.Job.Lines)],.agg [dI a1.Kind,.d (.str a1.User),.d (.str a1.Line),dI a1.N],dI a2] [] (.agg [dB r.Up,dI r.Box.Edition,.d (slD encSb r.Box.Lines),dI r.Box.Trial,.d (slD encSb r.Box.Back),.d (slD Qyf.enc r.Box.Cands),.d (slD Qyi.enc r.Slots),dI r.Live,dI r.Last,dI r.Job.Kind,dI r.Job.Step,dI r.Job.Edition,dI r.Job.Ticks,.d (slD encSb r.Job.Lines)]) []:=by
 refine eY tOk f28 rfl (Qb tOk ?_);obtain⟨x4,hx4,h⟩:=Qc h;refine QJ tOk hx4 (fun s1=>⟨0,18,[(2,dI s1.2.2.2.2.2.2.2.2.2.2.2.2.2.2),(3,.ref 3 0 0),(4,.ref 4 0 0),(6,.ref 6 0 0)],[],[(6,.box 33 [dB false,dI 0,.d (.nil),dI 0,.d (.nil),.d (.nil),.d (.nil),dI 0,dI 0,dI 0,dI 0,dI 0,dI 0,.d (.nil)]),(4,.box 40 [dI a1.Kind,.d (.str a1.User),.d (.str a1.Line),dI a1.N]),(3,.box 33 [dB s1.1,dI s1.2.1,.d (slD encSb s1.2.2.2.2.2.2.1),dI s1.2.2.2.2.2.2.2.1,.d (slD encSb s1.2.2.2.2.2.2.2.2.1),.d (slD Qyf.enc s1.2.2.2.2.2.2.2.2.2.1),.d (slD Qyi.enc s1.2.2.2.2.2.2.2.2.2.2.1),dI s1.2.2.2.2.2.2.2.2.2.2.2.1,dI s1.2.2.2.2.2.2.2.2.2.2.2.2.1,dI s1.2.2.2.2.2.2.2.2.2.2.2.2.2.1,dI s1.2.2.1,dI s1.2.2.2.1,dI s1.2.2.2.2.1,.d (slD encSb s1.2.2.2.2.2.1)])],[⟨[],[]⟩]⟩) ?_ ?_
 ·exact leX []
 ·clear hx4;intro s1 y2 g3 hy2;refine Qb tOk ?_;apply Qr g3<;>intro _ g3
  ·refine Qb tOk (bE g3 [] 0 (fun _=>Qbh) fun x5 g3=>?_);exact eX g3 []
  ·cases g3
   cases hy2 _ rfl
   cases h
   exact lfE []
def Zt (a0:Qyj) (a1:Bt) (a2:Bt):Option (Qyj×Int):=
 bd (Qp a0 (⟨2,a1,a2,0⟩:Qyk)) fun x1=>
 bd (Qp x1.1 (⟨4,a1,ByteArray.empty,0⟩:Qyk)) fun x2=>
(if(x2.2 !=0)=true then
 some (x2.1,x2.2)
else
 bd (Qp x2.1 (⟨5,a1,ByteArray.empty,0⟩:Qyk)) fun x3=>
 bd (Ja x3.1 (⟨8,ByteArray.empty,ByteArray.empty,0⟩:Qyk) 19) fun x4=>
 some (x4,x3.2))
theorem Qcc {a0:Qyj} {a1:Bt} {a2:Bt} {r:Qyj×Int} (h:Zt a0 a1 a2=some r):EffC prog 9 [.agg [dB a0.Up,dI a0.Box.Edition,.d (slD encSb a0.Box.Lines),dI a0.Box.Trial,.d (slD encSb a0.Box.Back),.d (slD Qyf.enc a0.Box.Cands),.d (slD Qyi.enc a0.Slots),dI a0.Live,dI a0.Last,dI a0.Job.Kind,dI a0.Job.Step,dI a0.Job.Edition,dI a0.Job.Ticks,.d (slD encSb a0.Job.Lines)],.d (.str a1),.d (.str a2)] [] (.tup [.agg [dB r.1.Up,dI r.1.Box.Edition,.d (slD encSb r.1.Box.Lines),dI r.1.Box.Trial,.d (slD encSb r.1.Box.Back),.d (slD Qyf.enc r.1.Box.Cands),.d (slD Qyi.enc r.1.Slots),dI r.1.Live,dI r.1.Last,dI r.1.Job.Kind,dI r.1.Job.Step,dI r.1.Job.Edition,dI r.1.Job.Ticks,.d (slD encSb r.1.Job.Lines)],dI r.2]) []:=by
 refine eY tOk f9 rfl (bE h [] 0 (fun _=>Qbh) fun x1 h=>bE h [] 0 (fun _=>Qbh) fun x2 h=>Qb tOk ?_);apply Qr h<;>intro _ h
 ·cases h
  exact lfE []
 ·refine bE h [] 0 (fun _=>Qbh) fun x3 h=>bE h [] 0 (fun _=>Ql5) fun x4 h=>?_;cases h;exact lfE []
def Qcd (a0:(List Int)):Option (Bool):=
(if(decide (((a0.length:Nat):Int)>1048576))=true then
 some true
else
 bd (QaX a0) fun x1=>
 bd (QdD x1.1) fun x2=>
 bd (QdE x1.1) fun x3=>
 bd (gcall ((!(x2.2==x3.2))=false) (Qbr x2.1 x3.1)) fun x4=>
(if(((!(x2.2==x3.2))||(!x4))||(!x2.2))=true then
 bd (gcall ((x2.2==x3.2)=true) (Qbr x2.1 x3.1)) fun x5=>
 some ((x2.2==x3.2)&&x5)
else
 bd (Qp x2.1 (⟨1,(⟨#[97,110,110]⟩:Bt),ByteArray.empty,0⟩:Qyk)) fun x6=>
 bd (Qp x6.1 (⟨1,(⟨#[98,111,98]⟩:Bt),ByteArray.empty,0⟩:Qyk)) fun x7=>
 bd (Zt x7.1 (⟨#[97,110,110]⟩:Bt) x1.2.1) fun x8=>
 bd (Zt x8.1 (⟨#[98,111,98]⟩:Bt) x1.2.2) fun x9=>
 bd (Zt x7.1 (⟨#[98,111,98]⟩:Bt) x1.2.2) fun x10=>
 bd (Zt x10.1 (⟨#[97,110,110]⟩:Bt) x1.2.1) fun x11=>
(if((((x8.2 !=0)||(x9.2 !=0))||(x10.2 !=0))||(x11.2 !=0))=true then
 bd (gcall ((decide (((x9.1.Box.Lines.length:Nat):Int)>0))=true) (Zw x9.1.Box.Lines)) fun x12=>
 bd (gcall (((decide (((x9.1.Box.Lines.length:Nat):Int)>0))&&(x12==0))=true) (Zw x11.1.Box.Lines)) fun x13=>
 some (((decide (((x9.1.Box.Lines.length:Nat):Int)>0))&&(x12==0))&&(x13==0))
else
 bd (Jl x9.1.Box.Lines x11.1.Box.Lines) fun x14=>
 some ((x14&&(x9.1.Box.Edition==2))&&(x11.1.Box.Edition==2)))))
theorem Qhc {a0:(List Int)} {r:Bool} (h:Qcd a0=some r):PureC prog 3 [.d (slD Q3 a0)] (dB r) []:=by
 refine pY tOk f3 rfl (Qb tOk ?_);apply Qr h<;>intro _ h
 ·cases h
  exact lfP []
 ·refine bC h 1000 (fun _=>Qg4) fun x1 h=>?_;obtain⟨x2,hx2,h⟩:=Qc h;refine ZV [6001] (cE [] 1000 (QjF hx2) (bE h [] 2000 (fun _=>QjG) fun x3 h=>Qb tOk (bG h (fun _=>Qgc) fun x4 h=>?_)));apply Qr h<;>intro _ h
  ·refine bG h (fun _=>Qgc) fun x5 h=>?_;cases h;exact lfP []
  ·obtain⟨x6,hx6,h⟩:=Qc h;refine ZV [6001,6002,6003,6004,6005] (cE [] 0 (Qbh hx6) (bE h [] 0 (fun _=>Qbh) fun x7 h=>bE h [] 0 (fun _=>Qcc) fun x8 h=>bE h [] 0 (fun _=>Qcc) fun x9 h=>bE h [] 0 (fun _=>Qcc) fun x10 h=>bE h [] 0 (fun _=>Qcc) fun x11 h=>Qb tOk ?_));apply Qr h<;>intro _ h
   ·refine bG h (fun _=>Qag) fun x12 h=>bG h (fun _=>Qag) fun x13 h=>?_;cases h;exact lfP []
   ·refine bC h 0 (fun _=>QaJ) fun x14 h=>?_;cases h;exact lfP []
end
end Go.Proofs.YtmnnglbioibmfaaGreatDoor
