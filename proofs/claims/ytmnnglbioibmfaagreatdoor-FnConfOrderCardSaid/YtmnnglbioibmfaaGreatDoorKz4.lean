/-
  What some of the program's functions compute: their models, and that the functions compute these; no condition.
-/
import Derived.Test.YtmnnglbioibmfaaGreatDoorTyz
import Derived.Test.YtmnnglbioibmfaaGreatDoorTbz
import Derived.Test.YtmnnglbioibmfaaGreatDoorLayz
import Derived.Test.YtmnnglbioibmfaaGreatDoorLay4z
import Derived.Test.YtmnnglbioibmfaaGreatDoorAbz8
import Derived.BigCall
import Derived.BigGuard
import Derived.BigQuiet
import Derived.Deep.QuietTactic
import Derived.Laws.OwnMore
import Derived.Maps.AppendAt
import Derived.Maps.OwnSet
import Derived.Maps.RangeWalk
import Derived.OwnWalk
import Derived.Sort.OwnSorted
import Derived.StringKeys
import Derived.WalkKit
import Derived.Test.YtmnnglbioibmfaaGreatDoorKz3
set_option linter.all false
namespace Go.Proofs.YtmnnglbioibmfaaGreatDoor
open Go Go.Ab Tryz
set_option maxRecDepth 100000
set_option maxHeartbeats 40000000
noncomputable section
def Jy (a0:Qyf) (a1:Qyf):Option (Int):=
(if(bsl a0.User a1.User)=true then
 some (-1)
else
 some 1)
theorem Qel {a0:Qyf} {a1:Qyf} {r:Int} (h:Jy a0 a1=some r):PureC prog 105 [.agg [.d (.str a0.User),dI a0.Base,.d (slD encSb a0.From),.d (slD encSb a0.Lines)],.agg [.d (.str a1.User),dI a1.Base,.d (slD encSb a1.From),.d (slD encSb a1.Lines)]] (dI r) []:=by
 refine pY tOk f105 rfl (Qb tOk ?_);apply Qr h<;>intro _ h
 ·cases h
  exact lfP []
 ·cases h
  exact lfP []
def Qk (a0:(List Qyf)) (a1:Int) (a2:Int):Option ((List Qyf)):=
 bd (lp (σ:=List Qyf×Int) (β:=((List Qyf)×Nat)) (fun s1=>
(if(decide (s1.2<a2))=true then
 bd (lp (σ:=List Qyf×Int) (β:=(Nat×(List Qyf))) (fun s5=>
 gd ((decide (s5.2>a1))=true→((0:Int)≤s5.2∧s5.2<((s5.1.length:Nat):Int)))<|
 gd ((decide (s5.2>a1))=true→((0:Int)≤IntKind.i64.wrap (s5.2-1)∧IntKind.i64.wrap (s5.2-1)<((s5.1.length:Nat):Int)))<|
 bd (gcall ((decide (s5.2>a1))=true) (Jy (s5.1.getD s5.2.toNat default) (s5.1.getD ((IntKind.i64.wrap (s5.2-1)).toNat) default))) fun x11=>
(if((decide (s5.2>a1))&&(decide (x11<0)))=true then
 gd ((0:Int)≤IntKind.i64.wrap (s5.2-1)∧IntKind.i64.wrap (s5.2-1)<((s5.1.length:Nat):Int))<|
 gd ((0:Int)≤s5.2∧s5.2<((s5.1.length:Nat):Int))<|
 gd ((0:Int)≤s5.2∧s5.2<((s5.1.length:Nat):Int))<|
 bd (some (s5.1.set s5.2.toNat (s5.1.getD ((IntKind.i64.wrap (s5.2-1)).toNat) default))) fun x15=>
 gd ((0:Int)≤IntKind.i64.wrap (s5.2-1)∧IntKind.i64.wrap (s5.2-1)<((s5.1.length:Nat):Int))<|
 bd (some (x15.set ((IntKind.i64.wrap (s5.2-1)).toNat) (s5.1.getD s5.2.toNat default))) fun x17=>
 some (.inl (x17,IntKind.i64.wrap (s5.2-1)))
else
 some (.inr (s5.1.length,s5.1)))) (s1.1,s1.2)) fun x8=>
 some (.inl (x8.2,IntKind.i64.wrap (s1.2+1)))
else
 some (.inr (s1.1,s1.1.length)))) (a0,IntKind.i64.wrap (a1+1))) fun x4=>
 gd (x4.2=a0.length)<|
 some x4.1
theorem Jd {a0:(List Qyf)} {a1:Int} {a2:Int} {r:(List Qyf)} (h:Qk a0 a1 a2=some r):EffC prog 155 [.osl 9000 0 a0.length,dI a1,dI a2,.fn 105 []] [(9000,.arr 76 4 a0.length (rows Qyf.enc a0))] (.tup []) [(9000,.arr 76 4 a0.length (rows Qyf.enc r))]:=by
 refine eY tOk f155 rfl ?_;obtain⟨x4,hx4,h⟩:=Qc h;refine QJ tOk hx4 (fun s1=>⟨0,53,[(0,.osl 9000 0 s1.1.length),(1,dI a1),(2,dI a2),(3,.fn 105 []),(8,dI s1.2)],[],[(9000,.arr 76 4 s1.1.length (rows Qyf.enc s1.1))],[⟨[(0,.osl 9000 0 s1.1.length)],[]⟩]⟩) ?_ ?_
 ·exact leX []
 ·clear hx4;intro s1 y2 g3 hy2;refine Qb tOk ?_;apply Qr g3<;>intro _ g3
  ·refine Qb tOk ?_;obtain⟨x8,hx8,g3⟩:=Qc g3;refine QJ tOk hx8 (fun s5=>⟨0,53,[(0,.osl 9000 0 s5.1.length),(1,dI a1),(2,dI a2),(3,.fn 105 []),(8,dI s1.2),(9,dI s5.2)],[],[(9000,.arr 76 4 s5.1.length (rows Qyf.enc s5.1))],[⟨[(0,.osl 9000 0 s5.1.length)],[]⟩]⟩) ?_ ?_
   ·exact leX []
   ·clear hx8;intro s5 y6 g7 hy6;refine Qb tOk ?_;obtain⟨g9,g7⟩:=Qe g7;obtain⟨g10,g7⟩:=Qe g7;obtain⟨x11,hx11,g7⟩:=Qc g7;refine Q0 tOk [.u 14 0 (dI x11) []] 17 [] [0,0,3,7,15,15,15,111,239,15,15,1039,3599,7695,16383,32767,65535] [] (aI g9 (aI g10 (aI (Qy rfl rfl rfl rfl (by intro c0;exact Qel (Qo hx11 c0))) (aK ?_))));apply Qr g7<;>intro _ g7
    ·refine Qb tOk ?_;obtain⟨g12,g7⟩:=Qe g7;obtain⟨g13,g7⟩:=Qe g7;obtain⟨g14,g7⟩:=Qe g7;obtain⟨x15,hx15,hlx15,g7⟩:=Qiw g7;obtain⟨g16,g7⟩:=Qe g7;obtain⟨x17,hx17,hlx17,g7⟩:=Qiw g7;refine QbY tOk [.l 8 [(9000,.arr 76 4 s5.1.length (rows Qyf.enc s5.1))] (.ref 9000 ((IntKind.i64.wrap (s5.2-1)).toNat) 0),.l 9 [(9000,.arr 76 4 s5.1.length (rows Qyf.enc s5.1))] (.agg [.d (.str ((s5.1.getD ((IntKind.i64.wrap (s5.2-1)).toNat) default).User)),dI ((s5.1.getD ((IntKind.i64.wrap (s5.2-1)).toNat) default).Base),.d (slD encSb ((s5.1.getD ((IntKind.i64.wrap (s5.2-1)).toNat) default).From)),.d (slD encSb ((s5.1.getD ((IntKind.i64.wrap (s5.2-1)).toNat) default).Lines))]),.l 12 [(9000,.arr 76 4 s5.1.length (rows Qyf.enc s5.1))] (.ref 9000 s5.2.toNat 0),.l 13 [(9000,.arr 76 4 s5.1.length (rows Qyf.enc s5.1))] (.agg [.d (.str ((s5.1.getD s5.2.toNat default).User)),dI ((s5.1.getD s5.2.toNat default).Base),.d (slD encSb ((s5.1.getD s5.2.toNat default).From)),.d (slD encSb ((s5.1.getD s5.2.toNat default).Lines))]),.l 14 [(9000,.arr 76 4 s5.1.length (rows Qyf.enc s5.1))] (.ref 9000 s5.2.toNat 0),.a 15 [(9000,.arr 76 4 s5.1.length (rows Qyf.enc s5.1))] (.any) [(9000,.arr 76 4 s5.1.length (rows Qyf.enc x15))],.l 16 [(9000,.arr 76 4 s5.1.length (rows Qyf.enc x15))] (.ref 9000 ((IntKind.i64.wrap (s5.2-1)).toNat) 0),.a 17 [(9000,.arr 76 4 s5.1.length (rows Qyf.enc x15))] (.any) [(9000,.arr 76 4 s5.1.length (rows Qyf.enc x17))]] 18 [] [0,0,0,0,8,0,0,64,224,480,0,0,3072,7168,16355,32739,65535,131071] [] [9000] (aI (by(conv=>whnf);exact⟨g12,rfl,rfl⟩) (aI (by(conv=>whnf);exact⟨rfl,rfl⟩) (aI (by(conv=>whnf);exact⟨g13,rfl,rfl⟩) (aI (by(conv=>whnf);exact⟨rfl,rfl⟩) (aI (by(conv=>whnf);exact⟨g14,rfl,rfl⟩) (aI (by(conv=>whnf);exact Quu (enc:=Qyf.enc) hx15 ⟨rfl,rfl⟩) (aI (by(conv=>whnf);exact⟨g16,rfl,rfl⟩) (aI (by(conv=>whnf);exact Quu (enc:=Qyf.enc) hx17 ⟨rfl,rfl⟩) (aK ?_)))))))));exact eX g7 []
    ·cases g7
     cases hy6 _ rfl
     exact eX g3 []
  ·cases g3
   cases hy2 _ rfl
   obtain⟨g20,h⟩:=Qe h;cases h;exact lfE []
def QR (a0:(List Qyf)) (a1:Int) (a2:Int) (a3:Int):Option ((List Qyf)):=
 bd (lp (σ:=Unit) (β:=((List Qyf))) (fun s1=>
(if(decide ((IntKind.i64.wrap (a2-a1))≤12))=true then
 bd (Qk a0 a1 a2) fun x5=>
 gd (x5.length=a0.length)<|
 some (.inr x5)
else
(if(a3==0)=true then
 none
else
 none))) ()) fun x4=>
 some x4
theorem JE {a0:(List Qyf)} {a1:Int} {a2:Int} {a3:Int} {r:(List Qyf)} (h:QR a0 a1 a2 a3=some r):EffC prog 134 [.osl 9000 0 a0.length,dI a1,dI a2,dI a3,.fn 105 []] [(9000,.arr 76 4 a0.length (rows Qyf.enc a0))] (.tup []) [(9000,.arr 76 4 a0.length (rows Qyf.enc r))]:=by
 refine eY tOk f134 rfl ?_;obtain⟨x4,hx4,h⟩:=Qc h;refine QJ tOk hx4 (fun s1=>⟨0,148,[(0,.osl 9000 0 a0.length),(1,dI a1),(2,dI a2),(3,dI a3),(4,.fn 105 []),(10,dB true),(11,dB true)],[],[(9000,.arr 76 4 a0.length (rows Qyf.enc a0))],[⟨[(0,.osl 9000 0 a0.length)],[]⟩]⟩) ?_ ?_
 ·exact leX []
 ·clear hx4;intro s1 y2 g3 hy2;refine Qb tOk ?_;apply Qr g3<;>intro _ g3
  ·obtain⟨x5,hx5,g3⟩:=Qc g3;obtain⟨g6,g3⟩:=Qe g3;refine cE [(9000,9000)] 0 (Jd hx5) ?_;cases g3;cases hy2 _ rfl;cases h;exact lfE []
  ·refine Qb tOk ?_;apply Qr g3<;>intro _ g3
   ·cases g3
   ·refine Qb tOk (aI (fun e=>Bool.noConfusion e) (fun _=>?_));cases g3
def Qi (a0:(List Qyf)):Option ((List Qyf)):=
 bd (J3 (IntKind.u64.wrap ((a0.length:Nat):Int))) fun x1=>
 bd (QR a0 0 ((a0.length:Nat):Int) x1) fun x2=>
 gd (x2.length=a0.length)<|
 some x2
theorem Jn {a0:(List Qyf)} {r:(List Qyf)} (h:Qi a0=some r):EffC prog 104 [.osl 9000 0 a0.length,.fn 105 []] [(9000,.arr 76 4 a0.length (rows Qyf.enc a0))] (.tup []) [(9000,.arr 76 4 a0.length (rows Qyf.enc r))]:=by
 refine eY tOk f104 rfl (bC h 0 (fun _=>QjH) fun x1 h=>?_);obtain⟨x2,hx2,h⟩:=Qc h;obtain⟨g3,h⟩:=Qe h;refine cE [(9000,9000)] 0 (JE hx2) ?_;cases h;exact lfE []
def Jf (a0:Qyj) (a1:Bt):Option (Int×Qyj):=
 bd (Qax a0.Box.Lines a1) fun x1=>
(if(!x1.2)=true then
 some (3,a0)
else
 bd (α:=Unit⊕Unit) (bd (lp (σ:=Int) (β:=(Nat⊕Unit)) (fun s5=>
(if(decide (s5<((a0.Box.Cands.length:Nat):Int)))=true then
 gd ((0:Int)≤s5∧s5<((a0.Box.Cands.length:Nat):Int))<|
(if(((a0.Box.Cands.getD s5.toNat default).User)==a1)=true then
 gd ((0:Int)≤s5∧s5<((a0.Box.Cands.length:Nat):Int))<|
 some (.inr (.inl s5.toNat))
else
 some (.inl (IntKind.i64.wrap (s5+1))))
else
 some (.inr (.inr ())))) 0) fun x8=>
(match x8 with
| .inl d11=>
(if(false&&(((a0.Box.Cands.length:Nat):Int)==3))=true then
 some (.inr ())
else
 some (.inl ()))
| .inr d12=>
(if(true&&(((a0.Box.Cands.length:Nat):Int)==3))=true then
 some (.inr ())
else
 some (.inl ())))) fun x2=>
(match x2 with
| .inl d4=>
 bd (Zm a0 a1) fun x13=>
 bd (QW a0.Box.Lines) fun x14=>
 bd (QW a0.Box.Lines) fun x15=>
 gd (((x13.Box.Cands.length)+(([(⟨a1,a0.Box.Edition,x14,x15⟩:Qyf)]:List Qyf).length))*(72+1)≤70368744177664)<|
 bd (Qi (x13.Box.Cands++([(⟨a1,a0.Box.Edition,x14,x15⟩:Qyf)]:List Qyf))) fun x17=>
 gd (x17.length=(x13.Box.Cands++([(⟨a1,a0.Box.Edition,x14,x15⟩:Qyf)]:List Qyf)).length)<|
 some (0,{a0 with Box:={a0.Box with Cands:=x17}})
| .inr d19=>
 some (4,a0)))
theorem Qfb {a0:Qyj} {a1:Bt} {r:Int×Qyj} (h:Jf a0 a1=some r):EffC prog 56 [.ref 9000 0 0,.d (.str a1)] [(9000,.box 33 [dB a0.Up,dI a0.Box.Edition,.d (slD encSb a0.Box.Lines),dI a0.Box.Trial,.d (slD encSb a0.Box.Back),.osl 9001 0 a0.Box.Cands.length,.d (slD Qyi.enc a0.Slots),dI a0.Live,dI a0.Last,dI a0.Job.Kind,dI a0.Job.Step,dI a0.Job.Edition,dI a0.Job.Ticks,.d (slD encSb a0.Job.Lines)]),(9001,.arr 76 4 a0.Box.Cands.length (rows Qyf.enc a0.Box.Cands))] (dI r.1) [(9000,.box 33 [dB a0.Up,dI a0.Box.Edition,.d (slD encSb a0.Box.Lines),dI a0.Box.Trial,.d (slD encSb a0.Box.Back),.osl 5001 0 r.2.Box.Cands.length,.d (slD Qyi.enc a0.Slots),dI a0.Live,dI a0.Last,dI a0.Job.Kind,dI a0.Job.Step,dI a0.Job.Edition,dI a0.Job.Ticks,.d (slD encSb a0.Job.Lines)]),(5001,.arr 76 4 r.2.Box.Cands.length (rows Qyf.enc r.2.Box.Cands))]:=by
 refine eY tOk f56 rfl (Qb tOk (bC h 1000 (fun _=>QdF) fun x1 h=>?_));apply Qr h<;>intro _ h
 ·cases h
  exact lfE [.s [(5001,9001),(9001,5001)]]
 ·obtain⟨x2,hx2,h⟩:=Qc h;refine J6 tOk (fun s3=>⟨0,71,[(0,.ref 9000 0 0),(1,.d (.str a1))],[],[(9000,.box 33 [dB a0.Up,dI a0.Box.Edition,.d (slD encSb a0.Box.Lines),dI a0.Box.Trial,.d (slD encSb a0.Box.Back),.osl 9001 0 a0.Box.Cands.length,.d (slD Qyi.enc a0.Slots),dI a0.Live,dI a0.Last,dI a0.Job.Kind,dI a0.Job.Step,dI a0.Job.Edition,dI a0.Job.Ticks,.d (slD encSb a0.Job.Lines)]),(9001,.arr 76 4 a0.Box.Cands.length (rows Qyf.enc a0.Box.Cands))],[⟨[(0,.ref 9000 0 0)],[]⟩]⟩) (fun s3=>x2=.inl s3) ?_ ?_
  ·refine Qg7 tOk 20000 (fn:=f102) (c:=Jw f102) rfl rfl (by kernel_rfl) rfl (Qb tOk ?_);obtain⟨x8,hx8,hx2⟩:=Qc hx2;refine QJ tOk hx8 (fun s5=>⟨20000,34,[(0,.ref 9000 0 0),(1,.d (.str a1)),(11,dI ((a0.Box.Cands.length:Nat):Int)),(12,dI s5)],[],[(6001,.arr 9 1 x1.1.length (rows encSb x1.1)),(9000,.box 33 [dB a0.Up,dI a0.Box.Edition,.d (slD encSb a0.Box.Lines),dI a0.Box.Trial,.d (slD encSb a0.Box.Back),.osl 9001 0 a0.Box.Cands.length,.d (slD Qyi.enc a0.Slots),dI a0.Live,dI a0.Last,dI a0.Job.Kind,dI a0.Job.Step,dI a0.Job.Edition,dI a0.Job.Ticks,.d (slD encSb a0.Job.Lines)]),(9001,.arr 76 4 a0.Box.Cands.length (rows Qyf.enc a0.Box.Cands))],[⟨[(0,.ref 9000 0 0),(1,.d (.str a1)),(4,dI 0),(5,.osl 6001 0 x1.1.length),(6,dB x1.2),(7,.tup [.osl 6001 0 x1.1.length,dB x1.2]),(8,.ref 9000 0 0),(9,.ref 9000 0 0),(10,.ref 9000 0 1),(11,.ref 9000 0 2),(12,.d (slD encSb a0.Box.Lines)),(13,.d (.str a1)),(14,.tup [.osl 6001 0 x1.1.length,dB x1.2]),(15,.osl 6001 0 x1.1.length),(16,dB x1.2),(17,dB x1.2),(18,dB (!x1.2)),(19,.ref 9000 0 0),(20,.d (.str a1))],[]⟩,⟨[(0,.ref 9000 0 0)],[]⟩]⟩) ?_ ?_
   ·exact leX []
   ·clear hx8;intro s5 y6 g7 hy6;refine Qb tOk ?_;apply Qr g7<;>intro _ g7
    ·refine Qb tOk (gdI g7 fun g7=>?_);apply Qr g7<;>intro _ g7
     ·refine gdI g7 fun g7=>?_;cases g7;cases hy6 _ rfl;apply Qr hx2<;>intro _ hx2
      ·cases hx2
       cases h
       exact lfE [.s [(5001,9001),(9001,5001)]]
      ·exact eX hx2 []
     ·exact eX g7 []
    ·cases g7
     cases hy6 _ rfl
     apply Qr hx2<;>intro _ hx2
     ·cases hx2
      cases h
      exact lfE [.s [(5001,9001),(9001,5001)]]
     ·exact eX hx2 []
  ·intro d4 hdd4;subst hdd4;refine bE h [(9000,9000),(9001,9001)] 1000 (fun _=>Qbt) fun x13 h=>?_;obtain⟨x14,hx14,h⟩:=Qc h;obtain⟨x15,hx15,h⟩:=Qc h;obtain⟨g16,h⟩:=Qe h;refine QbY tOk [.e 17 [] (.d (slD encSb x14)) [] [],.e 23 [] (.d (slD encSb x15)) [] [],.a 26 [(6001,.arr 76 4 x13.Box.Cands.length (rows Qyf.enc x13.Box.Cands))] (.osl 61 0 ((x13.Box.Cands++([(⟨a1,a0.Box.Edition,x14,x15⟩:Qyf)]:List Qyf)).length)) [(61,.arr 76 4 ((x13.Box.Cands++([(⟨a1,a0.Box.Edition,x14,x15⟩:Qyf)]:List Qyf)).length) (rows Qyf.enc (x13.Box.Cands++([(⟨a1,a0.Box.Edition,x14,x15⟩:Qyf)]:List Qyf))))]] 30 [] [0,0,2,6,14,30,0,0,128,384,896,1920,0,4096,12288,28672,61440,126976,0,262144,786432,1835008,3932160,8384512,16777152,33554368,67108862,134217727,268435455,536870911] [1073741823] [6001] (aI (eD [] 0 (ZX hx14)) (aI (eD [] 0 (ZX hx15)) (Qcl (enc:=Qyf.enc) ([(⟨a1,a0.Box.Edition,x14,x15⟩:Qyf)]:List Qyf) (aI (by(conv=>whnf);exact⟨g16,Qiv (enc:=Qyf.enc) (xs:=x13.Box.Cands) (ys:=([(⟨a1,a0.Box.Edition,x14,x15⟩:Qyf)]:List Qyf)) ⟨rfl,rfl⟩⟩) (aK ?_)))));obtain⟨x17,hx17,h⟩:=Qc h;obtain⟨g18,h⟩:=Qe h;refine cE [(9000,61)] 0 (Jn hx17) ?_;cases h;exact lfE [.s [(61,5001),(5001,61)]]
def Q6 (a0:Bt) (a1:Bt):Option (Bool):=
 bd (Zv a0) fun x1=>
 bd (Zv a1) fun x2=>
 some (x1==x2)
theorem Qcb {a0:Bt} {a1:Bt} {r:Bool} (h:Q6 a0 a1=some r):PureC prog 110 [.d (.str a0),.rp [.str a1]] (dB r) []:=by
 refine pY tOk f110 rfl ?_;obtain⟨x1,hx1,h⟩:=Qc h;obtain⟨x2,hx2,h⟩:=Qc h;refine Q0 tOk [.u 1 0 (.d (.str x1)) [],.u 3 0 (.d (.str x2)) []] 6 [] [0,1,0,7,15,31] [] (aI (QM (Qd9 hx1) (by kernel_rfl)) (aI (QM (Qd9 hx2) (by kernel_rfl)) (aK ?_)));cases h;exact lfP []
def QS (a0:(List Bt)) (a1c0:Bt):Option (Int):=
 bd (lp (σ:=Int) (β:=(Int⊕Unit)) (fun s1=>
(if(decide (s1<((a0.length:Nat):Int)))=true then
 gd ((0:Int)≤s1∧s1<((a0.length:Nat):Int))<|
 bd (Q6 (a0.getD s1.toNat default) a1c0) fun x6=>
(if x6=true then
 some (.inr (.inl s1))
else
 some (.inl (IntKind.i64.wrap (s1+1))))
else
 some (.inr (.inr ())))) 0) fun x4=>
(match x4 with
| .inl d7=>
 some d7
| .inr d8=>
 some (-1))
theorem JH {a0:(List Bt)} {a1c0:Bt} {r:Int} (h:QS a0 a1c0=some r):PureC prog 115 [.d (slD encSb a0),.fn 110 [.rp [.str a1c0]]] (dI r) []:=by
 refine pY tOk f115 rfl (Qb tOk ?_);obtain⟨x4,hx4,h⟩:=Qc h;refine QJ tOk hx4 (fun s1=>⟨0,19,[(0,.d (slD encSb a0)),(1,.fn 110 [.rp [.str a1c0]]),(7,dI ((a0.length:Nat):Int)),(8,dI s1)],[],[],[]⟩) ?_ ?_
 ·exact leX []
 ·clear hx4;intro s1 y2 g3 hy2;refine Qb tOk ?_;apply Qr g3<;>intro _ g3
  ·refine Qb tOk (gdI g3 fun g3=>bC g3 0 (fun _=>Qcb) fun x6 g3=>?_);apply Qr g3<;>intro _ g3
   ·cases g3
    cases hy2 _ rfl
    cases h
    exact lfP []
   ·exact eX g3 []
  ·cases g3
   cases hy2 _ rfl
   cases h
   exact lfP []
def QP (a0:(List Bt)):Option ((List Bt)):=
 gd (a0.length<4611686018427387904)<|
 some (QkY a0)
theorem J4 {a0:(List Bt)} {r:(List Bt)} (h:QP a0=some r):EffC prog 111 [.osl 9000 0 a0.length] [(9000,.arr 9 1 a0.length (rows encSb a0))] (.tup []) [(9000,.arr 9 1 a0.length (rows encSb r))]:=by
 unfold QP at h;obtain⟨g,h⟩:=Qe h;obtain rfl:=sj_ h;exact Qn8 g (Qn9 (fn:=f111) (c:=Jw f111) rfl rfl (by kernel_rfl)) (fun blk off cap ss w hH hb g=>AnyM.slices_Sort_string Lay.srts blk off cap ss w hH hb g) (fun p cap w=>AnyM.slices_Sort_string_none Lay.srts p cap w)
def ZY (a0:Qyj) (a1:Qyk):Option (Int×Qyj):=
 bd (lp (σ:=Int) (β:=(Nat⊕Unit)) (fun s1=>
(if(decide (s1<((a0.Box.Cands.length:Nat):Int)))=true then
 gd ((0:Int)≤s1∧s1<((a0.Box.Cands.length:Nat):Int))<|
(if(((a0.Box.Cands.getD s1.toNat default).User)==a1.User)=true then
 gd ((0:Int)≤s1∧s1<((a0.Box.Cands.length:Nat):Int))<|
 some (.inr (.inl s1.toNat))
else
 some (.inl (IntKind.i64.wrap (s1+1))))
else
 some (.inr (.inr ())))) 0) fun x4=>
(match x4 with
| .inl d7=>
 bd (Qa3 a1.Line) fun x8=>
(if(!x8.2)=true then
 some (2,a0)
else
(if(a1.Kind==3)=true then
 bd (Z2 ((a0.Box.Cands.getD d7 default).Lines) x8.1) fun x9=>
(if(decide (x9<0))=true then
 some (5,a0)
else
 none)
else
 bd (Qs ((a0.Box.Cands.getD d7 default).Lines)) fun x10=>
 bd (QS x10 x8.1) fun x11=>
(if(x11==(-1))=true then
(if(((x10.length:Nat):Int)==16)=true then
 some (4,a0)
else
 gd (d7<a0.Box.Cands.length∧a0.Box.Cands.length≤3∧x10.length=(x10).length)<|
 gd (((x10.length)+(([x8.1]:List Bt).length))*(16+1)≤70368744177664)<|
 bd (QP (x10++([x8.1]:List Bt))) fun x12=>
 gd (x12.length=(x10++([x8.1]:List Bt)).length)<|
 some (0,{a0 with Box:={a0.Box with Cands:=a0.Box.Cands.set d7 {(a0.Box.Cands.getD d7 default) with Lines:=x12}}}))
else
 bd (lp (σ:=List Bt×Int×Int) (β:=(Nat×Int×(List Bt))) (fun s13=>
(if(decide (s13.2.2<((s13.1.length:Nat):Int)))=true then
 gd ((0:Int)≤s13.2.2∧s13.2.2<((s13.1.length:Nat):Int))<|
 bd (Q6 (s13.1.getD s13.2.2.toNat default) x8.1) fun x18=>
(if(!x18)=true then
 gd ((0:Int)≤s13.2.1∧s13.2.1<((s13.1.length:Nat):Int))<|
 some (.inl (s13.1.set s13.2.1.toNat (s13.1.getD s13.2.2.toNat default),IntKind.i64.wrap (s13.2.1+1),IntKind.i64.wrap (s13.2.2+1)))
else
 some (.inl (s13.1,s13.2.1,IntKind.i64.wrap (s13.2.2+1))))
else
 some (.inr (s13.1.length,s13.2.1,s13.1)))) (x10,x11,IntKind.i64.wrap (x11+1))) fun x16=>
 gd ((0:Int)≤x16.2.1∧x16.2.1≤((x16.1:Nat):Int)∧((x16.1:Nat):Int)≤((x16.1:Nat):Int))<|
 gd ((0:Int)≤(0:Int)∧(0:Int)≤x16.2.1∧x16.2.1≤((x16.1:Nat):Int))<|
(if(((x16.2.1.toNat:Nat):Int)==16)=true then
 some (4,a0)
else
 gd (d7<a0.Box.Cands.length∧a0.Box.Cands.length≤3∧x16.2.1.toNat=(((QkT x16.2.2 x16.2.1.toNat (QhI ((x16.1:Nat):Int) x16.2.1)).take x16.2.1.toNat)).length)<|
 gd (((x16.2.1.toNat)+(([x8.1]:List Bt).length))*(16+1)≤70368744177664)<|
 bd (QP (((QkT x16.2.2 x16.2.1.toNat (QhI ((x16.1:Nat):Int) x16.2.1)).take x16.2.1.toNat)++([x8.1]:List Bt))) fun x23=>
 gd (x23.length=(((QkT x16.2.2 x16.2.1.toNat (QhI ((x16.1:Nat):Int) x16.2.1)).take x16.2.1.toNat)++([x8.1]:List Bt)).length)<|
 some (0,{a0 with Box:={a0.Box with Cands:=a0.Box.Cands.set d7 {(a0.Box.Cands.getD d7 default) with Lines:=x23}}})))))
| .inr d24=>
 some (3,a0))
theorem Qfo {a0:Qyj} {a1:Qyk} {r:Int×Qyj} (h:ZY a0 a1=some r):EffC prog 57 [.ref 9000 0 0,.agg [dI a1.Kind,.d (.str a1.User),.d (.str a1.Line),dI a1.N]] [(9000,.box 33 [dB a0.Up,dI a0.Box.Edition,.d (slD encSb a0.Box.Lines),dI a0.Box.Trial,.d (slD encSb a0.Box.Back),.osl 9001 0 a0.Box.Cands.length,.d (slD Qyi.enc a0.Slots),dI a0.Live,dI a0.Last,dI a0.Job.Kind,dI a0.Job.Step,dI a0.Job.Edition,dI a0.Job.Ticks,.d (slD encSb a0.Job.Lines)]),(9001,.arr 76 4 a0.Box.Cands.length (rows Qyf.enc a0.Box.Cands))] (dI r.1) [(9000,.box 33 [dB a0.Up,dI a0.Box.Edition,.d (slD encSb a0.Box.Lines),dI a0.Box.Trial,.d (slD encSb a0.Box.Back),.d (slD Qyf.enc r.2.Box.Cands),.d (slD Qyi.enc a0.Slots),dI a0.Live,dI a0.Last,dI a0.Job.Kind,dI a0.Job.Step,dI a0.Job.Edition,dI a0.Job.Ticks,.d (slD encSb a0.Job.Lines)])]:=by
 refine eY tOk f57 rfl (Qg7 tOk 20000 (fn:=f102) (c:=Jw f102) rfl rfl (by kernel_rfl) rfl (Qb tOk ?_));obtain⟨x4,hx4,h⟩:=Qc h;refine QJ tOk hx4 (fun s1=>⟨20000,34,[(0,.ref 9000 0 0),(1,.d (.str a1.User)),(11,dI ((a0.Box.Cands.length:Nat):Int)),(12,dI s1)],[],[(3,.box 40 [dI a1.Kind,.d (.str a1.User),.d (.str a1.Line),dI a1.N]),(9000,.box 33 [dB a0.Up,dI a0.Box.Edition,.d (slD encSb a0.Box.Lines),dI a0.Box.Trial,.d (slD encSb a0.Box.Back),.osl 9001 0 a0.Box.Cands.length,.d (slD Qyi.enc a0.Slots),dI a0.Live,dI a0.Last,dI a0.Job.Kind,dI a0.Job.Step,dI a0.Job.Edition,dI a0.Job.Ticks,.d (slD encSb a0.Job.Lines)]),(9001,.arr 76 4 a0.Box.Cands.length (rows Qyf.enc a0.Box.Cands))],[⟨[(0,.ref 9000 0 0),(1,.agg [dI a1.Kind,.d (.str a1.User),.d (.str a1.Line),dI a1.N]),(3,.ref 3 0 0),(4,dI 0),(10,.ref 9000 0 0),(11,.ref 3 0 1),(12,.d (.str a1.User))],[]⟩,⟨[(0,.ref 9000 0 0)],[]⟩]⟩) ?_ ?_
 ·exact leX []
 ·clear hx4;intro s1 y2 g3 hy2;refine Qb tOk ?_;apply Qr g3<;>intro _ g3
  ·refine Qb tOk (gdI g3 fun g3=>?_);apply Qr g3<;>intro _ g3
   ·refine gdI g3 fun g3=>?_;cases g3;cases hy2 _ rfl;refine Qb tOk (aI (fun e=>Bool.noConfusion e) (fun _=>bC h 0 (fun _=>Qfi) fun x8 h=>Qb tOk ?_));apply Qr h<;>intro _ h
    ·cases h
     exact lfE [.f [9001]]
    ·refine Qb tOk ?_;apply Qr h<;>intro _ h
     ·obtain⟨x9,hx9,h⟩:=Qc h;refine Q0 tOk [.u 5 0 (dI x9) []] 7 [] [0,1,3,7,0,31,63] [] (aI (QM (QaY hx9) (by kernel_rfl)) (aK (Qb tOk ?_)));apply Qr h<;>intro _ h
      ·cases h
       exact lfE [.f [9001]]
      ·cases h
     ·refine bC h 1000 (fun _=>QK) fun x10 h=>Qg7 tOk 20000 (fn:=f109) (c:=Jw f109) rfl rfl (by kernel_rfl) rfl (bC h 0 (fun _=>JH) fun x11 h=>Qb tOk ?_);apply Qr h<;>intro _ h
      ·refine Quv tOk ?_;apply Qr h<;>intro _ h
       ·cases h
        exact lfE [.f [9001]]
       ·obtain⟨⟨q1,q2,q5⟩,h⟩:=Qe h;obtain⟨q3,h⟩:=Qe h;obtain⟨x12,hx12,h⟩:=Qc h;obtain⟨q4,h⟩:=Qe h;refine Qpc [4,5,6,9] 9001 ?_;generalize s1.toNat=kx at q1 h⊢;obtain⟨cs,hcs⟩:∃cs,a0.Box.Cands=cs:=⟨_,rfl⟩;rw[hcs] at q1 q2 h⊢;rcases cs with _|⟨c1,_|⟨c2,_|⟨c3,_|⟨c4,cs⟩⟩⟩⟩;all_goals rcases kx with _|_|_|kx
        all_goals first|(exfalso;simp only[List.length_cons,List.length_nil] at q1 q2;omega)|skip
        all_goals first|refine⟨1,_,rfl,BoxOk.rows (enc:=Qyf.enc) (fun _=>rfl) (by simp) (by decide),?_⟩|refine⟨2,_,rfl,BoxOk.rows (enc:=Qyf.enc) (fun _=>rfl) (by simp) (by decide),?_⟩|refine⟨3,_,rfl,BoxOk.rows (enc:=Qyf.enc) (fun _=>rfl) (by simp) (by decide),?_⟩
        all_goals conv=>whnf
        all_goals refine Qrl tOk ?_
        all_goals conv=>whnf
        all_goals refine Qcl (enc:=encSb) ([x8.1]:List Bt) ?_
        all_goals conv=>whnf
        all_goals refine aI q3 ?_
        all_goals refine Qiv (enc:=encSb) (xs:=x10) (ys:=([x8.1]:List Bt)) ?_ (hn:=q5)
        all_goals conv=>whnf
        all_goals refine cE [(9000,6001)] 0 (J4 hx12) ?_
        all_goals conv=>whnf
        all_goals rw[←q4]
        all_goals obtain rfl:=sj_ h
        all_goals exact lfE [.f [6001,9001]]
      ·refine Qb tOk ?_;obtain⟨x16,hx16,h⟩:=Qc h;refine QJ tOk hx16 (fun s13=>⟨20000,42,[(0,.osl 6001 0 s13.1.length),(1,.fn 110 [.ref 6 0 0]),(5,dI s13.2.1),(6,dI s13.2.2)],[],[(6001,.arr 9 1 s13.1.length (rows encSb s13.1)),(6,.box 9 [.d (.str x8.1)]),(3,.box 40 [dI a1.Kind,.d (.str a1.User),.d (.str a1.Line),dI a1.N]),(9000,.box 33 [dB a0.Up,dI a0.Box.Edition,.d (slD encSb a0.Box.Lines),dI a0.Box.Trial,.d (slD encSb a0.Box.Back),.osl 9001 0 a0.Box.Cands.length,.d (slD Qyi.enc a0.Slots),dI a0.Live,dI a0.Last,dI a0.Job.Kind,dI a0.Job.Step,dI a0.Job.Edition,dI a0.Job.Ticks,.d (slD encSb a0.Job.Lines)]),(9001,.arr 76 4 a0.Box.Cands.length (rows Qyf.enc a0.Box.Cands))],[⟨[(0,.ref 9000 0 0),(1,.agg [dI a1.Kind,.d (.str a1.User),.d (.str a1.Line),dI a1.N]),(3,.ref 3 0 0),(4,dI 0),(5,.ref 9001 s1.toNat 0),(6,.ref 6 0 0),(7,dB x8.2),(10,.ref 9000 0 0),(11,.ref 3 0 1),(12,.d (.str a1.User)),(13,.ref 9001 s1.toNat 0),(14,.ref 9001 s1.toNat 0),(15,dB false),(16,.tup [.d (.str x8.1),dB x8.2]),(17,.ref 3 0 2),(18,.d (.str a1.Line)),(19,.tup [.d (.str x8.1),dB x8.2]),(20,.d (.str x8.1)),(21,dB x8.2),(22,dB x8.2),(23,dB (!x8.2)),(24,.ref 3 0 0),(25,dI a1.Kind),(26,dB (a1.Kind==3)),(46,.ref 9001 s1.toNat 0),(47,.ref 9001 s1.toNat 0),(48,.ref 9001 s1.toNat 3),(49,.d (slD encSb ((a0.Box.Cands.getD s1.toNat default).Lines))),(50,.osl 6001 0 s13.1.length),(51,.fn 110 [.ref 6 0 0])],[]⟩,⟨[(0,.ref 9000 0 0)],[]⟩]⟩) ?_ ?_
       ·exact leX []
       ·clear hx16;intro s13 y14 g15 hy14;refine Qb tOk ?_;apply Qr g15<;>intro _ g15
        ·refine Qb tOk (gdI g15 fun g15=>bC g15 0 (fun _=>Qcb) fun x18 g15=>?_);apply Qr g15<;>intro _ g15
         ·refine gdI g15 fun g15=>⟨rows encSb (s13.1.set s13.2.1.toNat (s13.1.getD s13.2.2.toNat default)),QbH Qs7 rfl,?_⟩;exact eX g15 []
         ·exact eX g15 []
        ·cases g15
         cases hy14 _ rfl
         obtain⟨g21,h⟩:=Qe h;refine aI g21 (⟨rows encSb (QkT (s13.1.length,s13.2.1,s13.1).2.2 (s13.1.length,s13.2.1,s13.1).2.1.toNat (QhI (((s13.1.length,s13.2.1,s13.1).1:Nat):Int) (s13.1.length,s13.2.1,s13.1).2.1)),Qi5 Qs7 zlA,?_⟩);obtain⟨g22,h⟩:=Qe h;refine aI g22 (Quv tOk ?_);apply Qr h<;>intro _ h
         ·cases h
          exact lfE [.f [9001]]
         ·obtain⟨⟨q1,q2,q5⟩,h⟩:=Qe h;obtain⟨q3,h⟩:=Qe h;obtain⟨x23,hx23,h⟩:=Qc h;obtain⟨q4,h⟩:=Qe h;refine Qpc [4,5,6,9] 9001 ?_;generalize s1.toNat=kx at q1 h⊢;obtain⟨cs,hcs⟩:∃cs,a0.Box.Cands=cs:=⟨_,rfl⟩;rw[hcs] at q1 q2 h⊢;rcases cs with _|⟨c1,_|⟨c2,_|⟨c3,_|⟨c4,cs⟩⟩⟩⟩;all_goals rcases kx with _|_|_|kx
          all_goals first|(exfalso;simp only[List.length_cons,List.length_nil] at q1 q2;omega)|skip
          all_goals first|refine⟨1,_,rfl,BoxOk.rows (enc:=Qyf.enc) (fun _=>rfl) (by simp) (by decide),?_⟩|refine⟨2,_,rfl,BoxOk.rows (enc:=Qyf.enc) (fun _=>rfl) (by simp) (by decide),?_⟩|refine⟨3,_,rfl,BoxOk.rows (enc:=Qyf.enc) (fun _=>rfl) (by simp) (by decide),?_⟩
          all_goals conv=>whnf
          all_goals refine Qrl tOk ?_
          all_goals conv=>whnf
          all_goals refine Qcl (enc:=encSb) ([x8.1]:List Bt) ?_
          all_goals conv=>whnf
          all_goals refine aI q3 ?_
          all_goals refine Qiv (enc:=encSb) (xs:=((QkT (s13.1.length,s13.2.1,s13.1).2.2 (s13.1.length,s13.2.1,s13.1).2.1.toNat (QhI (((s13.1.length,s13.2.1,s13.1).1:Nat):Int) (s13.1.length,s13.2.1,s13.1).2.1)).take (s13.1.length,s13.2.1,s13.1).2.1.toNat)) (ys:=([x8.1]:List Bt)) ?_ (hn:=q5)
          all_goals conv=>whnf
          all_goals refine cE [(9000,6001)] 0 (J4 hx23) ?_
          all_goals conv=>whnf
          all_goals rw[←q4]
          all_goals obtain rfl:=sj_ h
          all_goals exact lfE [.f [6001,9001]]
   ·exact eX g3 []
  ·cases g3
   cases hy2 _ rfl
   refine Qb tOk (aI (fun _=>?_) (fun e=>Bool.noConfusion e));cases h;exact lfE [.f [9001]]
def Zd (xs ks:List Bt) (s:Bt):Bt:=(xs.zip ks).foldl (fun acc p=>if(p.2==s)=true then p.1 else acc) ByteArray.empty
def QjI:List Bt→List Bt
 |[]=>[]
 |x::r=>if(QjI r).any (· ==x)=true then QjI r else x::QjI r
def Qam (b m t:Bt):Bool:=!(m==b)&&(!(t==b)&& !(t==m))
def QdX (b m t:Bt):Bt:=if(m==b)=true then t else m
def Qdf (B M T:Bt→Bt) (ks:List Bt):List Bt×Int:=
 if(ks.any fun k=>Qam (B k) (M k) (T k))=true then([],2)
 else if 16<(QkY (((QjI ks).map fun k=>QdX (B k) (M k) (T k)).filter fun l=>!(l==ByteArray.empty))).length then([],3)
 else(QkY (((QjI ks).map fun k=>QdX (B k) (M k) (T k)).filter fun l=>!(l==ByteArray.empty)),0)
def QaO (a0:(List Bt)) (a1:(List Bt)) (a2:(List Bt)):Option ((List Bt)×Int):=
 bd (JD a0) fun n0=>gd (n0=true)<|
 bd (JD a1) fun n1=>gd (n1=true)<|
 bd (JD a2) fun n2=>gd (n2=true)<|
 bd (QiQ a0) fun k0=>bd (QiQ a1) fun k1=>bd (QiQ a2) fun k2=>
 gd ((0<a0.length∧0<a1.length∧0<a2.length)∧(a0.length≤16∧a1.length≤16∧a2.length≤16)∧∀x∈a0++a1++a2,x.size≤1000000)<|
 some (Qdf (Zd a0 k0) (Zd a1 k1) (Zd a2 k2) (k0++k1++k2))
namespace Mg
open Go.RowKit Go.Maps Go.Sort Go.Proofs
open Nc
theorem Qrm {xs ks:List Bt} {j:Nat} (h1:j<xs.length) (h2:j<ks.length) (s:Bt):Zd (xs.take (j+1)) (ks.take (j+1)) s=if(ks.getD j default==s)=true then xs.getD j default else Zd (xs.take j) (ks.take j) s:=by
 unfold Zd
 have e1:xs[j]? =some (xs.getD j default):=by simp[List.getD_eq_getElem?_getD,h1]
 have e2:ks[j]? =some (ks.getD j default):=by simp[List.getD_eq_getElem?_getD,h2]
 rw[List.take_add_one,List.take_add_one,e1,e2]
 rw[List.zip_append (by simp;omega),List.foldl_append]
 simp
theorem Qhb (zs:List Bt):∀u∈zs.map Value.string,u.oneCell'=true:=by
 intro u hu
 obtain⟨s,_,rfl⟩:=List.mem_map.1 hu
 rfl
theorem QwD:(prog.info? 9).map (fun i=>(i.zero,i.size,i.bytes))=some (some (.string ByteArray.empty),1,16):=by kernel_rfl
theorem QjJ {w w1:World} {b o n:Nat} {xs:List Bt} (hx:xs.length=n) (hc:∀i,i<n→w.cell? ⟨b,o+i,none⟩=some (.string (xs.getD i default))) (hb:w1.heap[b]? =w.heap[b]?) (j:Nat) (u:Value) (hj:(xs.map Value.string)[j]? =some u):
  w1.cell? ((⟨b,o,none⟩:Addr).add j)=some u:=by
 have hj1:j<n:=by
  have:=(List.getElem?_eq_some_iff.1 hj).1
  simpa[hx] using this
 have:=hc j hj1
 have e:w1.cell? ⟨b,o+j,none⟩=w.cell? ⟨b,o+j,none⟩:=World.cell?_of_block hb
 rw[Addr.add_mid,e,this]
 rw[←hj]
 simp[List.getD_eq_getElem?_getD,show j<xs.length by omega]
theorem Qp9 (w:World) (b o c n:Nat) (xs:List Bt) (hx:xs.length=n) (hn:n≤1000) (hc:∀i,i<n→w.cell? ⟨b,o+i,none⟩=some (.string (xs.getD i default))) (hb:b<w.heap.size):
  Calls prog 19 #[.slice (some ⟨b,o,none⟩) n c] w fun e w'=>∃g cap,e=.returned (.slice (some ⟨g,0,none⟩) n cap)∧w'.ownsRow w.heap.size 9 1 (.slice (some ⟨g,0,none⟩) n cap) n (xs.map Value.string)∧Below w.heap.size w w':=by
 obtain⟨i0,hi,hz0,hz1,hz2⟩:=info_parts QwD
 go_enter func19,ntmps19
 go_wp2_with (first
  |(at_make;refine wpList_make_own _ rfl _ _ 23 rfl w.heap.size 9 i0 (.string ByteArray.empty) 1 underlying23 hi hz0 hz1 .i64 .i64 _ n rfl rfl rfl (by rw[hz2];omega) (by unfold maxLen;omega) (Nat.le_refl _) ?_;intro w1 hown1 hg1)
  |(at_builtin;refine wpList_append_fits _ rfl _ _ 23 rfl w.heap.size 9 i0 1 underlying23 hi hz1 w.heap.size 0 n _ rfl hown1 ⟨b,o,none⟩ n c (xs.map Value.string) rfl (by simp[hx]) (QjJ hx hc (hg1.block b hb (by simp))) (Qhb _) (by omega) ?_;intro w2 hown2 hg2)
  |go_in)
 go_ret
 refine⟨w.heap.size,n,by simp,by simpa using hown2,?_⟩
 exact((Below.refl _ _).grown hg1 (Nat.le_refl _) (fun j hj=>by cases hj)).grown hg2 hg1.size (fun j hj=>by cases hj;exact Nat.le_refl _)
theorem QwE:(Lit.string (ByteArray.empty).data.toList)=.string []:=rfl
theorem QhP (w:World) (b o c n:Nat) (xs ks:List Bt) (hx:xs.length=n) (hks:ks.length=n) (hn:n≤1000) (hxz:∀x∈xs,x.size≤1000000) (hsz:∀k∈ks,k.size≤1000000) (hc:∀i,i<n→w.cell? ⟨b,o+i,none⟩=some (.string (xs.getD i default))) (hb:b<w.heap.size)
  (hkey:∀w',Below w.heap.size w w'→∀i,i<n→Calls prog 67 #[.string (xs.getD i default)] w' fun e w''=>e=.returned (.string (ks.getD i default))∧Below w'.heap.size w' w''):
  Calls prog 138 #[.slice (some ⟨b,o,none⟩) n c] w fun e w'=>∃(mb:Nat) (D:DataW Unit),e=.returned (.map (some mb))∧w.heap.size≤mb∧w'.ownsMap prog 9 (plainElem prog 9) mb n D∧
   (∀s,D.atKey (kl s) (.lit (.string []))=.lit (.string (Zd xs ks s).data.toList))∧Below w.heap.size w w':=by
 have hmm:=@run_makeMap prog
 go_enter func138,ntmps138
 go_wp2
 have hown:=World.ownsMap_made (H:=Unit) w prog 9 (plainElem prog 9)
 have hB2:Below w.heap.size w (w.alloc (Obj.map #[] 0)):=(Below.refl w.heap.size w).alloc (Nat.le_refl _) _
 generalize w.alloc (Obj.map #[] 0)=w2 at hown hB2⊢
 have hbs:w.heap.size≤w.heap.size:=Nat.le_refl _
 generalize hmb:w.heap.size=mb at hown hbs⊢
 rw[hmb] at hB2
 go_loopw [9] (fun i wr=>∃(j:Nat) (D:DataW Unit),j≤n∧i=.int .i64 j∧wr.ownsMap prog 9 (plainElem prog 9) mb j D∧(∀s,D.atKey (kl s) (.lit (.string []))=.lit (.string (Zd (xs.take j) (ks.take j) s).data.toList))∧Below mb w wr)
  (fun i _=>n-(intOf i).toNat)
 case atStart=>
  exact⟨0,.map [],Nat.zero_le _,rfl,hown,fun s=>rfl,hB2⟩
 case round=>
  obtain⟨j,D,hjk,rfl,hown,hat,hB⟩:=hrel
  have g1:j<n→wr.cell? ⟨b,o+j,none⟩=some (.string (xs.getD j default)):=fun h=>(World.cell?_of_block (hB.block b (by omega))).trans (hc j h)
  have hkj:=fun h=>hkey wr (hmb▸hB) j h
  have hxj:j<n→(xs.getD j default).size≤1000000:=fun h=>hxz _ (by rw[List.getD_eq_getElem?_getD,List.getElem?_eq_getElem (by omega)];exact List.getElem_mem (by omega))
  have hsj:j<n→(ks.getD j default).size≤1000000:=fun h=>hsz _ (by rw[List.getD_eq_getElem?_getD,List.getElem?_eq_getElem (by omega)];exact List.getElem_mem (by omega))
  have hls:=fun h:j<n=>@Qrm xs ks j (by omega) (by omega)
  clear hkey
  generalize xs.getD j default=x at g1 hkj hxj hls
  generalize ks.getD j default=y at hkj hsj hls
  go_wp2_with (first
   |(go_at_call 67;have hlt:j<n:=by assumption
     refine(hkj hlt).mono ?_;rintro e w3 ⟨rfl,hB3⟩)
   |(at_mapUpdate;have hlt:j<n:=by assumption
     have hys:=hsj hlt
     have hk1:=hown.kept (Jp hB3) (by simp)
     have hk2:keyOf prog 9 (.string y)=some (kl y):=Go.WideMaps.keyOf_string_mk underlying9 (by unfold maxLen;omega)
     have hk3:j<maxLen:=by unfold maxLen;omega
     have hk4:=plainElem_string (H:=Unit) underlying9 (s:=x) (by have:=hxj hlt;unfold maxLen;omega)
     refine wpList_mapUpdate_own _ rfl _ _ _ 144 rfl 9 9 Ql2 underlying144 (plainElem prog 9) mb j D rfl hk1 hk3 _ _ (kl y) rfl rfl hk2 _ [] hk4 ?_
     intro w4 hown4 hgrow4)
   |go_in)
  ·have hlt:j<n:=by assumption
   go_roundw
   case rel=>
    refine⟨j+1,D.put (kl y) (.lit (.string x.data.toList)),by omega,by go_num,hown4,fun s=>?_,?_⟩
    ·rw[hls hlt]
     by_cases hy:y=s
     ·subst hy
      rw[atKey_put_same hown.isMap (show WideAt.IsKeyLit (kl y) from trivial),if_pos (bq.2 rfl)]
     ·rw[atKey_put_other (fun h=>hy (Qk9 h).symm),hat,if_neg (fun h=>hy (bq.1 h))]
    ·exact(hB.trans (hB3.mono (hmb▸hB.size))).grown hgrow4 (Nat.le_trans (hmb▸hB.size) hB3.size) (fun j hj=>by cases hj;exact hbs)
   case measure=>simp[intOf];omega
  ·have hjn:j=n:=by omega
   subst hjn
   go_ret
   refine⟨mb,D,rfl,by omega,hown,fun s=>?_,by rw[hmb];exact hB⟩
   rw[hat,List.take_of_length_le (by omega),List.take_of_length_le (by omega)]
theorem Qoa {H:Type} {P:Program} (w:World) {ops:Array Oper} {rest:List Oper} {o:Oper} {a:Act} {Q:Exit→Act→World→Prop}
  (hg:o.guard=none) (m x:Operand) (t:TypeId) (hop:o.op=Op.lookup t m x false)
  (k e:TypeId) (K:Keyed P k) (ht:P.underlying t=some (.map k e)) (he:P.underlying e=some .string) (hz:(zeroValue e).run P w=.ok (.string ByteArray.empty) w) (b n:Nat) (D:DataW H)
  (hm:a.eval m=.map (some b)) (hown:w.ownsMap P k (plainElem P e) b n D) (key:Value) (kl:Lit) (hx:a.eval x=key) (hkey:keyOf P k key=some kl) (c:Bt)
  (hat:D.atKey kl (.lit (.string []))=.lit (.string c.data.toList)) (hK:wpList P ops Q rest (a.put o.dst (.string c)) w):
  wpList P ops Q (o::rest) a w:=by
 refine wpList_plain hg fun K' hK'=>?_
 obtain⟨v,ps,hrun,hv⟩:=hown.lookup K ht hz (plainElem_string he (s:=ByteArray.empty) (by decide)) hkey
 have hat':D.atKey kl (.lit (.string (ByteArray.empty).data.toList))=.lit (.string c.data.toList):=hat
 rw[hat'] at hv
 have hvc:v=.string c:=by
  unfold plainElem at hv
  rw[he] at hv
  cases v<;>simp at hv
  rename_i s
  have h1:s.data.toList=c.data.toList:=congrArg Array.toList hv.2.1
  have:s=c:=Qk9 (congrArg Lit.string h1)
  rw[this]
 subst hvc
 unfold Oper.wp
 simp[execOp,hop,hm,hx,hrun,Result.andThen]
 exact hK' _ _ hK
theorem Qrn {H:Type} {P:Program} {w:World} {t k e:TypeId} (K:Keyed P k) (ht:P.underlying t=some (.map k e)) (he:P.underlying e=some .string) (hz:(zeroValue e).run P w=.ok (.string ByteArray.empty) w) {b n:Nat} {D:DataW H}
  (hown:w.ownsMap P k (plainElem P e) b n D) {key:Value} {kl:Lit} (hkey:keyOf P k key=some kl) {c:Bt} (hat:D.atKey kl (.lit (.string []))=.lit (.string c.data.toList)):
  (Instr.lookup t (.map (some b)) key false).run P w=.ok (.string c) w:=by
 obtain⟨v,ps,hrun,hv⟩:=hown.lookup K ht hz (plainElem_string he (s:=ByteArray.empty) (by decide)) hkey
 have hat':D.atKey kl (.lit (.string (ByteArray.empty).data.toList))=.lit (.string c.data.toList):=hat
 rw[hat'] at hv
 have hvc:v=.string c:=by
  unfold plainElem at hv
  rw[he] at hv
  cases v<;>simp at hv
  rename_i s
  have h1:s.data.toList=c.data.toList:=congrArg Array.toList hv.2.1
  have:s=c:=Qk9 (congrArg Lit.string h1)
  rw[this]
 subst hvc
 exact hrun
theorem Qva (w:World):(zeroValue 9).run prog w=.ok (.string ByteArray.empty) w:=by kernel_rfl
theorem Ql4 {key:Value} {kl:Lit} (h:keyOf prog 9 key=some kl):∃x,key=Value.string x:=by
 have hk:=underlying9
 cases key<;>simp[keyOf,hk,mapKey] at h
 exact⟨_,rfl⟩
theorem bool_inv {H:Type} {v:Value} {y:DataW H×List MemPlace} (h:plainElem prog 4 v=some y):∃c,v=Value.bool c:=by
 unfold plainElem at h
 rw[underlying4] at h
 cases v<;>simp at h
 exact⟨_,rfl⟩
theorem tlE {a b:Bt}:(a.toList==b.toList)=(a==b):=(beq_toListBytes a b).symm
theorem tlP {a b:Bt}:a.toList=b.toList↔(a==b)=true:=by rw[←tlE];simp
theorem tlI {a:Bt}:a.toList.isEmpty=(a==ByteArray.empty):=by
 rw[←tlE]
 have:(ByteArray.empty).toList=[]:=by
  unfold ByteArray.toList ByteArray.toList.loop
  rfl
 rw[this]
 cases a.toList<;>rfl
theorem QhQ {l l':List (List UInt8)} (h:l.Perm l'):(l.mergeSort fun x y=>decide (x≤y))=l'.mergeSort fun x y=>decide (x≤y):=by
 have tr:∀a b c:List UInt8,decide (a≤b)=true→decide (b≤c)=true→decide (a≤c)=true:=fun a b c h1 h2=>by simp only[decide_eq_true_eq] at*;exact List.le_trans h1 h2
 have to:∀a b:List UInt8,(decide (a≤b)||decide (b≤a))=true:=fun a b=>by simp only[Bool.or_eq_true,decide_eq_true_eq];exact List.le_total a b
 refine List.Perm.eq_of_pairwise (le:=fun a b=>decide (a≤b)=true) (fun a b _ _ h1 h2=>?_) (List.pairwise_mergeSort tr to l) (List.pairwise_mergeSort tr to l') (((List.mergeSort_perm l _).trans h).trans (List.mergeSort_perm l' _).symm)
 simp only[decide_eq_true_eq] at h1 h2
 exact List.le_antisymm h1 h2
theorem srtB_perm {xs ys:List Bt} (h:xs.Perm ys):QkY xs=QkY ys:=by
 unfold QkY
 rw[QhQ (h.map _)]
theorem srtB_len (xs:List Bt):(QkY xs).length=xs.length:=by
 unfold QkY
 rw[List.length_map,List.length_mergeSort,List.length_map]
theorem nubB_mem:∀ {xs:List Bt} {s:Bt},s∈QjI xs↔s∈xs
 |[],s=>by simp[QjI]
 |x::r,s=>by
  unfold QjI
  have ih:=@nubB_mem r
  split
  ·rename_i h
   have hx:x∈QjI r:=by
    obtain⟨y,hy,e⟩:=List.any_eq_true.1 h
    rw[←bq.1 e];exact hy
   rw[ih,List.mem_cons]
   constructor
   ·exact .inr
   ·rintro(rfl|h)
    ·exact ih.1 hx
    ·exact h
  ·rw[List.mem_cons,List.mem_cons,ih]
theorem nubB_nodup:∀(xs:List Bt),(QjI xs).Nodup
 |[]=>List.nodup_nil
 |x::r=>by
  unfold QjI
  split
  ·exact nubB_nodup r
  ·rename_i h
   refine List.nodup_cons.2 ⟨fun hx=>h (List.any_eq_true.2 ⟨x,hx,bq.2 rfl⟩),nubB_nodup r⟩
theorem nub_perm {dn ks:List Bt} (hnd:dn.Nodup) (h:∀s,s∈dn↔s∈ks):dn.Perm (QjI ks):=
 (List.perm_ext_iff_of_nodup hnd (nubB_nodup ks)).2 fun s=>(h s).trans nubB_mem.symm
theorem Qro {f:Bt→Bt} {dn:List Bt} {x:Bt} (h:(f x==ByteArray.empty)=true):((dn++[x]).map f).filter (fun l=>!(l==ByteArray.empty))=(dn.map f).filter fun l=>!(l==ByteArray.empty):=by
 rw[List.map_append,List.filter_append]
 simp[h]
theorem Qte {f:Bt→Bt} {dn:List Bt} {x:Bt} (h:(f x==ByteArray.empty)=false):((dn++[x]).map f).filter (fun l=>!(l==ByteArray.empty))=((dn.map f).filter fun l=>!(l==ByteArray.empty))++[f x]:=by
 rw[List.map_append,List.filter_append]
 simp[h]
theorem Qvb {D:DataW Unit} {left:Lit→Bool} {dn:List Bt} {x:Bt} (hnd:dn.Nodup) (hdn:∀s,s∈dn↔(Maps.has D (kl s)=true∧left (kl s)=false)) (hx:Maps.has D (kl x)=true) (hl:left (kl x)=true):
  (dn++[x]).Nodup∧∀s,s∈dn++[x]↔(Maps.has D (kl s)=true∧(left (kl s)&& !(kl s).sameKey (kl x))=false):=by
 have hnx:x∉dn:=fun h=>by have:=(hdn x).1 h;rw[hl] at this;cases this.2
 refine⟨?_,fun s=>?_⟩
 ·rw[List.nodup_append]
  refine⟨hnd,by simp,fun a ha b hb e=>?_⟩
  simp at hb
  subst hb e
  exact hnx ha
 ·rw[List.mem_append,hdn s,List.mem_singleton]
  by_cases hs:s=x
  ·subst hs
   rw[WideAt.sameKey_self (show WideAt.IsKeyLit (kl s) from trivial)]
   simp[hx]
  ·rw[Maps.sameKey_ne (fun h=>hs (Qk9 h))]
   simp[hs]
theorem Qvc (xs:List Bt):(xs.map fun s=>s.data.toList).map encStr=xs.map Value.string:=by
 rw[List.map_map]
 rfl
theorem Qob {B M T:Bt→Bt} {ks:List Bt} {x:Bt} (hx:x∈ks) (h:Qam (B x) (M x) (T x)=true):Qdf B M T ks=([],2):=by
 unfold Qdf
 rw[if_pos (List.any_eq_true.2 ⟨x,hx,h⟩)]
theorem Qqa {B M T:Bt→Bt} {ks dn:List Bt} (hnd:dn.Nodup) (h:∀s,s∈dn↔s∈ks) (hc:∀s∈dn,Qam (B s) (M s) (T s)=false):
  Qdf B M T ks=if 16<((dn.map fun k=>QdX (B k) (M k) (T k)).filter fun l=>!(l==ByteArray.empty)).length then([],3) else(QkY ((dn.map fun k=>QdX (B k) (M k) (T k)).filter fun l=>!(l==ByteArray.empty)),0):=by
 unfold Qdf
 rw[if_neg (fun e=>by
  obtain⟨x,hx,e⟩:=List.any_eq_true.1 e
  rw[hc x ((h x).2 hx)] at e
  cases e),srtB_len]
 have hp:=((nub_perm hnd h).map fun k=>QdX (B k) (M k) (T k)).filter fun l=>!(l==ByteArray.empty)
 rw[←srtB_perm hp,←hp.length_eq]
theorem Quw {w w':World} {base:Nat} {e:TypeId} {size:Nat} {v:Value} {n:Nat} {xs:List Value} {B:Nat} {a:World} (hB:Below B a w) (h:w.ownsRow base e size v n xs) (hg:w.grownBy w' v.ownBlock) (hb:B≤base) (hs:B≤w.heap.size):Below B a w':=
 hB.grown hg hs fun k hk=>Nat.le_trans hb (h.lt k hk).1
set_option maxHeartbeats 400000000 in
theorem merge_walk (w:World) (b1 o1 c1 n1 b2 o2 c2 n2 b3 o3 c3 n3:Nat) (xs1 ks1 xs2 ks2 xs3 ks3:List Bt) (hx1:xs1.length=n1) (hx2:xs2.length=n2) (hx3:xs3.length=n3) (hk1:ks1.length=n1) (hk2:ks2.length=n2) (hk3:ks3.length=n3)
  (hn1:n1≤100) (hn2:n2≤100) (hn3:n3≤100) (hp:0<n1) (hz1:∀x∈xs1,x.size≤1000000) (hz2:∀x∈xs2,x.size≤1000000) (hz3:∀x∈xs3,x.size≤1000000)
  (hs1:∀x∈ks1,x.size≤1000000) (hs2:∀x∈ks2,x.size≤1000000) (hs3:∀x∈ks3,x.size≤1000000) (hb1:b1<w.heap.size) (hb2:b2<w.heap.size) (hb3:b3<w.heap.size)
  (hc1:∀i,i<n1→w.cell? ⟨b1,o1+i,none⟩=some (.string (xs1.getD i default))) (hc2:∀i,i<n2→w.cell? ⟨b2,o2+i,none⟩=some (.string (xs2.getD i default))) (hc3:∀i,i<n3→w.cell? ⟨b3,o3+i,none⟩=some (.string (xs3.getD i default)))
  (hN1:∀w',Below w.heap.size w w'→Calls prog 94 #[.slice (some ⟨b1,o1,none⟩) n1 c1] w' fun e w''=>e=.returned (.bool true)∧Below w'.heap.size w' w'')
  (hN2:∀w',Below w.heap.size w w'→Calls prog 94 #[.slice (some ⟨b2,o2,none⟩) n2 c2] w' fun e w''=>e=.returned (.bool true)∧Below w'.heap.size w' w'')
  (hN3:∀w',Below w.heap.size w w'→Calls prog 94 #[.slice (some ⟨b3,o3,none⟩) n3 c3] w' fun e w''=>e=.returned (.bool true)∧Below w'.heap.size w' w'')
  (hK1:∀w',Below w.heap.size w w'→∀i,i<n1→Calls prog 67 #[.string (xs1.getD i default)] w' fun e w''=>e=.returned (.string (ks1.getD i default))∧Below w'.heap.size w' w'')
  (hK2:∀w',Below w.heap.size w w'→∀i,i<n2→Calls prog 67 #[.string (xs2.getD i default)] w' fun e w''=>e=.returned (.string (ks2.getD i default))∧Below w'.heap.size w' w'')
  (hK3:∀w',Below w.heap.size w w'→∀i,i<n3→Calls prog 67 #[.string (xs3.getD i default)] w' fun e w''=>e=.returned (.string (ks3.getD i default))∧Below w'.heap.size w' w'')
  (hKK:∀w',Below w.heap.size w w'→∀i,i<n1+n2+n3→Calls prog 67 #[.string ((xs1++xs2++xs3).getD i default)] w' fun e w''=>e=.returned (.string ((ks1++ks2++ks3).getD i default))∧Below w'.heap.size w' w'')
  (hsort:∀g cap (ss:List (List UInt8)) (W:World),Holds encStr W g 0 ss.toArray→g<W.heap.size→ss.length<4611686018427387904→Calls prog 111 #[.slice (some ⟨g,0,none⟩) ss.length cap] W fun e w'=>e=.returned (.tuple #[])∧∃n os,w'=grow (putRow encStr (Sort.ahead W n) g 0 (ss.mergeSort fun x y=>decide (x≤y)).toArray) os)
  (hsort0:∀p cap (W:World),Calls prog 111 #[.slice p 0 cap] W fun e w'=>e=.returned (.tuple #[])∧w'=W):
  Calls prog 112 #[.slice (some ⟨b1,o1,none⟩) n1 c1,.slice (some ⟨b2,o2,none⟩) n2 c2,.slice (some ⟨b3,o3,none⟩) n3 c3] w fun e w'=>
   (∃v,e=.returned (.tuple #[v,.int .i64 (Qdf (Zd xs1 ks1) (Zd xs2 ks2) (Zd xs3 ks3) (ks1++ks2++ks3)).2])∧∃base,w.heap.size≤base∧w'.ownsRow base 9 1 v (Qdf (Zd xs1 ks1) (Zd xs2 ks2) (Zd xs3 ks3) (ks1++ks2++ks3)).1.length ((Qdf (Zd xs1 ks1) (Zd xs2 ks2) (Zd xs3 ks3) (ks1++ks2++ks3)).1.map Value.string))∧Below w.heap.size w w':=by
 obtain⟨i0,hi,hi0,hi1,hi2⟩:=info_parts QwD
 have hmm:=@run_makeMap prog
 go_enter func112,ntmps112
 go_wp2_with (first
  |(go_at_call 94;first
    |(have hq:=hB2;refine(hN3 _ hB2).mono ?_;rintro e w3 ⟨rfl,hB3⟩;replace hB3:=hB2.trans (hB3.mono hB2.size))
    |(have hq:=hB1;refine(hN2 _ hB1).mono ?_;rintro e w2 ⟨rfl,hB2⟩;replace hB2:=hB1.trans (hB2.mono hB1.size))
    |(refine(hN1 _ (Below.refl _ _)).mono ?_;rintro e w1 ⟨rfl,hB1⟩))
  |(go_at_call 138;first
    |(have hq:=hB5;refine(QhP _ b3 o3 c3 n3 xs3 ks3 hx3 hk3 (by omega) hz3 hs3 (fun i h=>(World.cell?_of_block (hB5.block b3 hb3)).trans (hc3 i h)) (Nat.lt_of_lt_of_le hb3 hB5.size) (fun w' hB i h=>hK3 w' (hB5.trans (hB.mono hB5.size)) i h)).mono ?_;rintro e w6 ⟨m3,D3,rfl,hm3,hown3,hat3,hB6⟩
      replace hown1:=hown1.kept (Jp hB6) (by simp);replace hown2:=hown2.kept (Jp hB6) (by simp);replace hB6:=hB5.trans (hB6.mono hB5.size))
    |(have hq:=hB4;refine(QhP _ b2 o2 c2 n2 xs2 ks2 hx2 hk2 (by omega) hz2 hs2 (fun i h=>(World.cell?_of_block (hB4.block b2 hb2)).trans (hc2 i h)) (Nat.lt_of_lt_of_le hb2 hB4.size) (fun w' hB i h=>hK2 w' (hB4.trans (hB.mono hB4.size)) i h)).mono ?_;rintro e w5 ⟨m2,D2,rfl,hm2,hown2,hat2,hB5⟩
      replace hown1:=hown1.kept (Jp hB5) (by simp);replace hB5:=hB4.trans (hB5.mono hB4.size))
    |(refine(QhP _ b1 o1 c1 n1 xs1 ks1 hx1 hk1 (by omega) hz1 hs1 (fun i h=>(World.cell?_of_block (hB3.block b1 hb1)).trans (hc1 i h)) (Nat.lt_of_lt_of_le hb1 hB3.size) (fun w' hB i h=>hK1 w' (hB3.trans (hB.mono hB3.size)) i h)).mono ?_;rintro e w4 ⟨m1,D1,rfl,hm1,hown1,hat1,hB4⟩;replace hB4:=hB3.trans (hB4.mono hB3.size)))
  |(go_at_call 19
    have hown:=World.ownsMap_made (H:=Unit) w6 prog 9 (plainElem prog 4)
    have hBm:Below w.heap.size w (w6.alloc (Obj.map #[] 0)):=hB6.alloc hB6.size _
    have hl1:=hown1.lt
    have hl2:=hown2.lt
    have hl3:=hown3.lt
    have hba:(w6.alloc (Obj.map #[] 0)).heap.size=w6.heap.size+1:=by simp
    replace hown1:=hown1.alloc (Obj.map #[] 0)
    replace hown2:=hown2.alloc (Obj.map #[] 0)
    replace hown3:=hown3.alloc (Obj.map #[] 0)
    have hm4:w.heap.size≤w6.heap.size:=hB6.size
    generalize hw6:w6.alloc (Obj.map #[] 0)=wa at*
    refine(Qp9 wa b1 o1 c1 n1 xs1 hx1 (by omega) (fun i h=>(World.cell?_of_block (hBm.block b1 hb1)).trans (hc1 i h)) (Nat.lt_of_lt_of_le hb1 hBm.size)).mono ?_;rintro e w7 ⟨g7,cap7,rfl,hown7,hB7⟩
    replace hown:=hown.kept (Jp hB7) (by simp)
    replace hown1:=hown1.kept (Jp hB7) (by simp)
    replace hown2:=hown2.kept (Jp hB7) (by simp)
    replace hown3:=hown3.kept (Jp hB7) (by simp)
    have hs7:=hB7.size
    replace hB7:=hBm.trans (hB7.mono hBm.size))
  |(at_builtin;first
    |(have hq:=hown8;refine wpList_append_own _ rfl _ _ 23 rfl _ 9 i0 (.string ByteArray.empty) 1 16 underlying23 hi hi0 hi1 hi2 rfl (by decide) _ _ _ rfl hown8 ⟨b3,o3,none⟩ n3 c3 (xs3.map Value.string) rfl (by simp[hx3]) (QjJ hx3 hc3 (hB8.block b3 hb3)) (Qhb _) (by unfold maxLen;omega) (by omega) hs8 ?_
      intro v9 w9 hown9 hg9 _
      replace hown:=hown.kept hg9 (row_ne_low hown8 (by omega))
      replace hown1:=hown1.kept hg9 (row_ne_low hown8 (by omega))
      replace hown2:=hown2.kept hg9 (row_ne_low hown8 (by omega))
      replace hown3:=hown3.kept hg9 (row_ne_low hown8 (by omega))
      have hB9:=Quw hB8 hown8 hg9 (by omega) (by omega)
      rcases hown9.2 with ⟨_,h0⟩|⟨g9,cap9,cur9,rfl,q1,q2,q3,q4,q5,q6⟩
      ·exact absurd h0 (by omega))
    |(refine wpList_append_own _ rfl _ _ 23 rfl _ 9 i0 (.string ByteArray.empty) 1 16 underlying23 hi hi0 hi1 hi2 rfl (by decide) _ _ _ rfl hown7 ⟨b2,o2,none⟩ n2 c2 (xs2.map Value.string) rfl (by simp[hx2]) (QjJ hx2 hc2 (hB7.block b2 hb2)) (Qhb _) (by unfold maxLen;omega) (by omega) hs7 ?_
      intro v8 w8 hown8 hg8 _
      replace hown:=hown.kept hg8 (row_ne_low hown7 (by omega))
      replace hown1:=hown1.kept hg8 (row_ne_low hown7 (by omega))
      replace hown2:=hown2.kept hg8 (row_ne_low hown7 (by omega))
      replace hown3:=hown3.kept hg8 (row_ne_low hown7 (by omega))
      have hB8:=Quw hB7 hown7 hg8 (by omega) (by omega)
      have hs8:=Nat.le_trans hs7 hg8.size))
  |go_in)
 have hcl:∀j,j<n1+n2+n3→w9.cell? ⟨g9,j,none⟩=some (.string ((xs1++xs2++xs3).getD j default)):=fun j hj=>by
  rw[hown9.cellAt j (by omega),←List.map_append,←List.map_append,List.getElem?_map,List.getD_eq_getElem?_getD,List.getElem?_eq_getElem (by simp[hx1,hx2,hx3];omega)]
  rfl
 have hgl:g9<w9.heap.size:=(Array.getElem?_eq_some_iff.1 q2).1
 have hksz:∀k∈ks1++ks2++ks3,k.size≤1000000:=by
  intro k hk
  rcases List.mem_append.1 hk with hk|hk
  ·rcases List.mem_append.1 hk with hk|hk
   ·exact hs1 k hk
   ·exact hs2 k hk
  ·exact hs3 k hk
 have hkl:(ks1++ks2++ks3).length=n1+n2+n3:=by simp[hk1,hk2,hk3];omega
 have hg96:w6.heap.size<g9:=by omega
 have hw69:w6.heap.size<w9.heap.size:=by omega
 clear hown9 q2 q3 q4 q5 q6 hown8 hown7 hg9 hg8 hB8 hB7 hs7 hs8 hBm hba hN1 hN2 hN3 hK1 hK2 hK3 hc1 hc2 hc3 hB1 hB2 hB3 hB4 hB5 hw6 hz1 hz2 hz3 hs1 hs2 hs3 hB6 hm1 hm2 hm3
 generalize hNN:n1+n2+n3=NN at*
 generalize hXX:xs1++xs2++xs3=XX at*
 generalize hKK2:ks1++ks2++ks3=KS at*
 have eNN:((n1:Int)+(n2:Int)+(n3:Int))=(NN:Int):=by omega
 rw[eNN]
 go_loopw [44] (fun i wr=>∃(j:Nat) (D:DataW Unit),j≤NN∧i=.int .i64 j∧wr.ownsMap prog 9 (plainElem prog 4) w6.heap.size j D∧(∀s,Maps.has D (kl s)=(KS.take j).any (· ==s))∧w9.grownBy wr (some w6.heap.size))
  (fun i _=>NN-(intOf i).toNat)
 case atStart=>
  exact⟨0,.map [],Nat.zero_le _,rfl,hown,fun s=>rfl,World.grownBy.refl _ _⟩
 case round=>
  obtain⟨j,D,hjk,rfl,hown,hhas,hgr⟩:=hrel
  have g1:j<NN→wr.cell? ⟨g9,j,none⟩=some (.string (XX.getD j default)):=fun h=>(World.cell?_of_block (hgr.block g9 hgl (by simp;omega))).trans (hcl j h)
  have hBr:Below w.heap.size w wr:=hB9.grown hgr hB9.size (fun k hk=>by cases hk;exact hm4)
  have hkj:=fun h=>hKK wr hBr j h
  have hsj:j<NN→(KS.getD j default).size≤1000000:=fun h=>hksz _ (by rw[List.getD_eq_getElem?_getD,List.getElem?_eq_getElem (by omega)];exact List.getElem_mem (by omega))
  have hsn:=fun h:j<NN=>fun s=>@Qo9 KS j (by omega) s
  generalize XX.getD j default=x at g1 hkj
  generalize KS.getD j default=y at hkj hsj hsn
  go_wp2_with (first
   |(go_at_call 67;have hlt:j<NN:=by assumption
     refine(hkj hlt).mono ?_;rintro e w3 ⟨rfl,hB3⟩)
   |(at_mapUpdate;have hlt:j<NN:=by assumption
     have hys:=hsj hlt
     have hk1:=hown.kept (Jp hB3) (by simp)
     have hk2:keyOf prog 9 (.string y)=some (kl y):=Go.WideMaps.keyOf_string_mk underlying9 (by unfold maxLen;omega)
     have hk3:j<maxLen:=by unfold maxLen;omega
     refine wpList_mapUpdate_own _ rfl _ _ _ 86 rfl 9 4 Ql2 underlying86 (plainElem prog 4) w6.heap.size j D rfl hk1 hk3 _ _ (kl y) rfl rfl hk2 _ [] (plainElem_bool underlying4 true) ?_
     intro w4 hown4 hgrow4)
   |(at_range
     have hownA:=hown.alloc (.cells #[] 9)
     refine wpList_range_own _ rfl _ 86 rfl 9 4 Ql2 underlying86 _ w6.heap.size j D rfl hownA ?_
     intro w10 hrg10 hg10 hs10)
   |go_in)
  ·have hlt:j<NN:=by assumption
   go_roundw
   case rel=>
    refine⟨j+1,D.put (kl y) (.lit (.bool true)),by omega,by go_num,hown4,fun s=>?_,?_⟩
    ·rw[hsn hlt]
     by_cases hy:y=s
     ·subst hy
      rw[has_put_same hown.isMap (show WideAt.IsKeyLit (kl y) from trivial),bq.2 rfl,Bool.or_true]
     ·rw[has_put_other (fun h=>hy (Qk9 h).symm),hhas]
      have:(y==s)=false:=Bool.eq_false_iff.2 fun h=>hy (bq.1 h)
      rw[this,Bool.or_false]
    ·exact(hgr.andThen (Jp hB3) (fun k hk=>by cases hk)).andThen hgrow4 (fun k hk=>.inr hk)
   case measure=>simp[intOf];omega
  obtain⟨wp,hwp⟩:∃x,x=wr:=⟨wr,rfl⟩
  subst hwp
  have hjN:j=NN:=by omega
  subst hjN
  have hL1:=hown1.kept hgr (by simp;omega)
  have hL2:=hown2.kept hgr (by simp;omega)
  have hL3:=hown3.kept hgr (by simp;omega)
  have hsz:=hown.size_le
  have hml:=hown.lt
  have hgW:wp.grownBy w10 none:=(World.grownBy_alloc wp (.cells #[] 9) none).andThen hg10 (fun k hk=>by cases hk)
  have hrow10:w10.ownsRow wp.heap.size 9 1 (.slice (some ⟨wp.heap.size,0,none⟩) 0 0) 0 []:=(World.ownsRow_lit (e:=9) (size:=1) wp #[] 0 (Nat.le_refl _) (by decide) rfl).kept hg10 (.inr (by simp[Value.ownBlock]))
  have hrr:(wp.alloc (.cells #[] 9)).heap.size=wp.heap.size+1:=by simp
  rw[hrr] at hrg10
  clear hown hown1 hown2 hown3 hgr hB9 hsj hsn hg10 hKK hcl hgl
  try go_frame
  go_loopw [14] (fun v wz=>∃(left:Lit→Bool) (cnt:Nat) (dn:List Bt),wz.ranges prog 9 (plainElem prog 4) w6.heap.size (wp.heap.size+1) j D left cnt∧
    wz.ownsRow wp.heap.size 9 1 v ((dn.map fun k=>QdX (Zd xs1 ks1 k) (Zd xs2 ks2 k) (Zd xs3 ks3 k)).filter fun l=>!(l==ByteArray.empty)).length (((dn.map fun k=>QdX (Zd xs1 ks1 k) (Zd xs2 ks2 k) (Zd xs3 ks3 k)).filter fun l=>!(l==ByteArray.empty)).map Value.string)∧
    dn.Nodup∧(∀s,s∈dn↔(Maps.has D (kl s)=true∧left (kl s)=false))∧(∀s∈dn,Qam (Zd xs1 ks1 s) (Zd xs2 ks2 s) (Zd xs3 ks3 s)=false)∧dn.length+cnt≤j∧wp.grownBy wz none)
   (fun _ wz=>wz.rangeLeft w6.heap.size (wp.heap.size+1))
  case atStart=>
   refine⟨_,_,[],hrg10,hrow10,List.nodup_nil,fun s=>?_,by simp,by simpa using hsz,hgW⟩
   cases Maps.has D (kl s)<;>simp
  case round=>
   obtain⟨left,cnt,dn,hrg,hrow,hnd,hdn,hcl,hlen,hgz⟩:=hrel
   have hmm0:wr.rangeLeft w6.heap.size (wp.heap.size+1)=cnt:=hrg.left_eq
   have hout:((dn.map fun k=>QdX (Zd xs1 ks1 k) (Zd xs2 ks2 k) (Zd xs3 ks3 k)).filter fun l=>!(l==ByteArray.empty)).length≤j:=Nat.le_trans (List.length_filter_le _ _) (by simp;omega)
   go_wp2_with (first
    |(at_next;refine wpList_next_ranges _ rfl _ rfl 9 Ql2 (plainElem prog 4) Value.string (fun v:Value=>v) (fun key kl h=>Ql4 h) (fun v y _=>⟨v,rfl⟩) w6.heap.size (wp.heap.size+1) j D left cnt rfl hrg ?_ ?_)
    |go_in)
   ·intro hc0 hl0
    have hset:∀s,s∈dn↔s∈KS:=fun s=>by
     rw[hdn s,hl0,hhas,List.take_of_length_le (by omega),List.any_eq_true]
     constructor
     ·rintro⟨⟨y,hy,e⟩,_⟩
      rw[←bq.1 e];exact hy
     ·intro h
      exact⟨⟨s,h,bq.2 rfl⟩,rfl⟩
    have hres:=Qqa (B:=Zd xs1 ks1) (M:=Zd xs2 ks2) (T:=Zd xs3 ks3) hnd hset hcl
    generalize ((dn.map fun k=>QdX (Zd xs1 ks1 k) (Zd xs2 ks2 k) (Zd xs3 ks3 k)).filter fun l=>!(l==ByteArray.empty))=outs at hrow hout hres
    have hBz:Below w.heap.size w wr:=hBr.grown hgz hBr.size (fun k hk=>by cases hk)
    have hbase:w.heap.size≤wp.heap.size:=hBr.size
    rcases hrow.2 with ⟨hnil,hk0⟩|⟨g,cap,cur,hv,hbg,hbk,z1,z2,z3,z4⟩
    ·have ho:outs=[]:=List.eq_nil_of_length_eq_zero hk0
     subst hnil ho
     clear hrg
     go_wp2_with (go_at_call 111;refine(hsort0 none 0 _).mono ?_;rintro e w' ⟨rfl,rfl⟩)
     go_ret2
     rw[if_neg (by simp),show QkY []=[] by simp[QkY]] at hres
     rw[hKK2,hres]
     exact⟨⟨.slice none 0 0,rfl,wp.heap.size,hbase,hrow⟩,hBz⟩
    ·subst hv
     have hH:Holds encStr wr g 0 (outs.map fun s=>s.data.toList).toArray:=holds_of_block hbk (by rw[Qvc];simpa using z4)
     have hgl:g<wr.heap.size:=(Array.getElem?_eq_some_iff.1 hbk).1
     have hso:=hsort g cap (outs.map fun s=>s.data.toList) wr hH hgl (by simp;omega)
     rw[List.length_map] at hso
     clear hrg hH
     go_wp2_with (go_at_call 111;refine hso.mono ?_;rintro e w' ⟨rfl,nn,os,rfl⟩)
     ·have h16:16<outs.length:=by omega
      go_ret2
      rw[if_pos h16] at hres
      rw[hKK2,hres]
      exact⟨⟨.slice none 0 0,rfl,w.heap.size,Nat.le_refl _,World.ownsRow_nil _ _ _ _⟩,hBz.grown (grownBy_sorted _) hBz.size (fun k hk=>by cases hk;omega)⟩
     ·have h16:¬16<outs.length:=by omega
      go_ret2
      rw[if_neg h16] at hres
      rw[hKK2,hres]
      have hro:=ownsRow_sorted (n:=nn) (os:=os) (ss:=outs.map fun s=>s.data.toList) (ts:=(outs.map fun s=>s.data.toList).mergeSort fun x y=>decide (x≤y)) (by simp) hbg hbk (by simpa using z1) z2 z3
      rw[List.length_map] at hro
      refine⟨⟨.slice (some ⟨g,0,none⟩) outs.length cap,rfl,wp.heap.size,hbase,?_⟩,hBz.grown (grownBy_sorted _) hBz.size (fun k hk=>by cases hk;omega)⟩
      show World.ownsRow _ _ _ _ _ (QkY outs).length ((QkY outs).map Value.string)
      rw[srtB_len]
      have e:(QkY outs).map Value.string=((outs.map fun s=>s.data.toList).mergeSort fun x y=>decide (x≤y)).map encStr:=by
       unfold QkY
       rw[List.map_map]
       rfl
      rw[e]
      exact hro
   ·intro x c k0 ya yb w11 cnt1 hkey hlk hv hat hrg1 hlt hg1 hs1 hen
    have hM1:=hL1.kept (hgz.andThen hg1 (fun k hk=>.inl (by cases hk;omega))) (by simp)
    have hM2:=hL2.kept (hgz.andThen hg1 (fun k hk=>.inl (by cases hk;omega))) (by simp)
    have hM3:=hL3.kept (hgz.andThen hg1 (fun k hk=>.inl (by cases hk;omega))) (by simp)
    have hkx:keyOf prog 9 (.string x)=some (kl x):=by
     rw[hkey]
     have h1:=hkey
     simp[keyOf,underlying9,mapKey] at h1
     rw[←h1.2]
     rfl
    have hk0:k0=kl x:=by rw[hkey] at hkx;exact sj_ hkx
    subst hk0
    obtain⟨bv,hbv⟩:∃b,Zd xs1 ks1 x=b:=⟨_,rfl⟩
    obtain⟨mv,hmv⟩:∃b,Zd xs2 ks2 x=b:=⟨_,rfl⟩
    obtain⟨tv,htv⟩:∃b,Zd xs3 ks3 x=b:=⟨_,rfl⟩
    have ha1:=hat1 x
    have ha2:=hat2 x
    have ha3:=hat3 x
    rw[hbv] at ha1
    rw[hmv] at ha2
    rw[htv] at ha3
    have er1:=Qrn Ql2 underlying144 underlying9 (Qva _) hM1 hkx ha1
    have er2:=Qrn Ql2 underlying144 underlying9 (Qva _) hM2 hkx ha2
    have er3:=Qrn Ql2 underlying144 underlying9 (Qva _) hM3 hkx ha3
    have hrow1:=hrow.kept hg1 (by
     cases hob:u14.ownBlock with
     |none=>exact Or.inl rfl
     |some g=>exact Or.inr (fun e=>row_ne_iter hrow hrg (by rw[hob];exact e.symm)))
    have hgz1:=hgz.andThen hg1 (fun k hk=>.inl (by cases hk;omega))
    have hsz11:=hgz1.size
    have hxD:Maps.has D (kl x)=true:=has_true_of_atKey hat
    have hst:=Qvb hnd hdn hxD hlk
    have hxK:x∈KS:=by
     have h1:=hhas x
     rw[hxD,List.take_of_length_le (by omega)] at h1
     obtain⟨y,hy,e⟩:=List.any_eq_true.1 h1.symm
     rw[←bq.1 e];exact hy
    have hBz:Below w.heap.size w w11:=hBr.grown hgz1 hBr.size (fun k hk=>by cases hk)
    have hcl2:Qam bv mv tv=false→∀s∈dn++[x],Qam (Zd xs1 ks1 s) (Zd xs2 ks2 s) (Zd xs3 ks3 s)=false:=fun h s hs=>by
     rcases List.mem_append.1 hs with hs|hs
     ·exact hcl s hs
     ·simp at hs;subst hs;rw[hbv,hmv,htv];exact h
    have hskip:(QdX bv mv tv==ByteArray.empty)=true→w11.ownsRow wp.heap.size 9 1 u14 (((dn++[x]).map fun k=>QdX (Zd xs1 ks1 k) (Zd xs2 ks2 k) (Zd xs3 ks3 k)).filter fun l=>!(l==ByteArray.empty)).length ((((dn++[x]).map fun k=>QdX (Zd xs1 ks1 k) (Zd xs2 ks2 k) (Zd xs3 ks3 k)).filter fun l=>!(l==ByteArray.empty)).map Value.string):=fun h=>by
     rw[Qro (f:=fun k=>QdX (Zd xs1 ks1 k) (Zd xs2 ks2 k) (Zd xs3 ks3 k)) (by simp only[hbv,hmv,htv];exact h)];exact hrow1
    have hadd:∀(w12:World) (v12:Value) (l:Bt),QdX bv mv tv=l→(l==ByteArray.empty)=false→w12.ownsRow wp.heap.size 9 1 v12 (((dn.map fun k=>QdX (Zd xs1 ks1 k) (Zd xs2 ks2 k) (Zd xs3 ks3 k)).filter fun l=>!(l==ByteArray.empty)).length+1) ((((dn.map fun k=>QdX (Zd xs1 ks1 k) (Zd xs2 ks2 k) (Zd xs3 ks3 k)).filter fun l=>!(l==ByteArray.empty)).map Value.string)++[.string l])→
      w12.ownsRow wp.heap.size 9 1 v12 (((dn++[x]).map fun k=>QdX (Zd xs1 ks1 k) (Zd xs2 ks2 k) (Zd xs3 ks3 k)).filter fun l=>!(l==ByteArray.empty)).length ((((dn++[x]).map fun k=>QdX (Zd xs1 ks1 k) (Zd xs2 ks2 k) (Zd xs3 ks3 k)).filter fun l=>!(l==ByteArray.empty)).map Value.string):=fun w12 v12 l h1 h2 h3=>by
     rw[Qte (f:=fun k=>QdX (Zd xs1 ks1 k) (Zd xs2 ks2 k) (Zd xs3 ks3 k)) (by simp only[hbv,hmv,htv,h1];exact h2)]
     simp only[hbv,hmv,htv,h1,List.length_append,List.length_singleton,List.map_append,List.map_cons,List.map_nil]
     exact h3
    have hgA:∀(l:Value) (w12:World),(w11.alloc (.cells #[l] 9)).grownBy w12 u14.ownBlock→wp.grownBy w12 none∧w12.ranges prog 9 (plainElem prog 4) w6.heap.size (wp.heap.size+1) j D (fun z=>left z&& !z.sameKey (kl x)) cnt1:=fun l w12 hg=>
     ⟨(hgz1.andThen (World.grownBy_alloc w11 (.cells #[l] 9) none) (fun k hk=>by cases hk)).andThen hg (fun k hk=>.inl ((hrow1.alloc (.cells #[l] 9)).lt k hk).1),
      (hrg1.alloc (.cells #[l] 9)).kept hg (row_ne_low (hrow1.alloc (.cells #[l] 9)) hml) (row_ne_iter (hrow1.alloc (.cells #[l] 9)) (hrg1.alloc (.cells #[l] 9)))⟩
    clear hdn hnd hL1 hL2 hL3 hrg hrow hhas hs1 hat
    go_wp2_with (first
     |(at_builtin;first
       |(refine wpList_append_own _ rfl _ _ 23 rfl wp.heap.size 9 i0 (.string ByteArray.empty) 1 16 underlying23 hi hi0 hi1 hi2 rfl (by decide) _ _ _ rfl (hrow1.alloc _) ⟨w11.heap.size,0,none⟩ 1 1 [.string tv] rfl rfl (cell_one_new _ _ _) (Qhb [tv]) (by unfold maxLen;omega) (by omega) (by simp;omega) ?_
         intro v12 w12 hown12 hg12 hnl12)
       |(refine wpList_append_own _ rfl _ _ 23 rfl wp.heap.size 9 i0 (.string ByteArray.empty) 1 16 underlying23 hi hi0 hi1 hi2 rfl (by decide) _ _ _ rfl (hrow1.alloc _) ⟨w11.heap.size,0,none⟩ 1 1 [.string mv] rfl rfl (cell_one_new _ _ _) (Qhb [mv]) (by unfold maxLen;omega) (by omega) (by simp;omega) ?_
         intro v12 w12 hown12 hg12 hnl12))
     |go_in)
    ·rename_i q1 q2
     rw[tlE] at q1
     rw[tlI] at q2
     have ho:QdX bv mv tv=tv:=by unfold QdX;rw[if_pos q1]
     obtain⟨hgz2,hrg2⟩:=hgA _ _ hg12
     go_roundw
     case rel=>first|exact⟨_,cnt1,dn++[x],hrg2,hadd _ _ tv ho (by simpa using q2) hown12,hst.1,hst.2,hcl2 (by unfold Qam;rw[q1];rfl),by simp;omega,hgz2⟩|((repeat apply Exists.intro);exact⟨⟨_,cnt1,dn++[x],hrg2,hadd _ _ tv ho (by simpa using q2) hown12,hst.1,hst.2,hcl2 (by unfold Qam;rw[q1];rfl),by simp;omega,hgz2⟩,rfl⟩)
     case measure=>rw[hrg2.left_eq,hmm0];exact hlt
    ·rename_i q1 q2
     rw[tlE] at q1
     rw[tlI] at q2
     have ho:QdX bv mv tv=tv:=by unfold QdX;rw[if_pos q1]
     go_roundw
     case rel=>first|exact⟨_,cnt1,dn++[x],hrg1,hskip (by rw[ho];simpa using q2),hst.1,hst.2,hcl2 (by unfold Qam;rw[q1];rfl),by simp;omega,hgz1⟩|((repeat apply Exists.intro);exact⟨⟨_,cnt1,dn++[x],hrg1,hskip (by rw[ho];simpa using q2),hst.1,hst.2,hcl2 (by unfold Qam;rw[q1];rfl),by simp;omega,hgz1⟩,rfl⟩)
     case measure=>rw[hrg1.left_eq,hmm0];exact hlt
    ·rename_i q1 q3 q2
     rw[tlE] at q1
     rw[tlP] at q3
     rw[tlI] at q2
     have ho:QdX bv mv tv=mv:=by unfold QdX;rw[if_neg (by rw[q1];decide)]
     obtain⟨hgz2,hrg2⟩:=hgA _ _ hg12
     go_roundw
     case rel=>first|exact⟨_,cnt1,dn++[x],hrg2,hadd _ _ mv ho (by simpa using q2) hown12,hst.1,hst.2,hcl2 (by unfold Qam;rw[q3];simp),by simp;omega,hgz2⟩|((repeat apply Exists.intro);exact⟨⟨_,cnt1,dn++[x],hrg2,hadd _ _ mv ho (by simpa using q2) hown12,hst.1,hst.2,hcl2 (by unfold Qam;rw[q3];simp),by simp;omega,hgz2⟩,rfl⟩)
     case measure=>rw[hrg2.left_eq,hmm0];exact hlt
    ·rename_i q1 q3 q2
     rw[tlE] at q1
     rw[tlP] at q3
     rw[tlI] at q2
     have ho:QdX bv mv tv=mv:=by unfold QdX;rw[if_neg (by rw[q1];decide)]
     go_roundw
     case rel=>first|exact⟨_,cnt1,dn++[x],hrg1,hskip (by rw[ho];simpa using q2),hst.1,hst.2,hcl2 (by unfold Qam;rw[q3];simp),by simp;omega,hgz1⟩|((repeat apply Exists.intro);exact⟨⟨_,cnt1,dn++[x],hrg1,hskip (by rw[ho];simpa using q2),hst.1,hst.2,hcl2 (by unfold Qam;rw[q3];simp),by simp;omega,hgz1⟩,rfl⟩)
     case measure=>rw[hrg1.left_eq,hmm0];exact hlt
    ·rename_i q1 q3 q2
     rw[tlE] at q1
     rw[tlP] at q3
     rw[tlE,tlE] at q2
     have hc:Qdf (Zd xs1 ks1) (Zd xs2 ks2) (Zd xs3 ks3) KS=([],2):=Qob hxK (by rw[hbv,hmv,htv];unfold Qam;rw[q1,q2.1,q2.2];rfl)
     go_ret2
     rw[hKK2,hc]
     exact⟨⟨.slice none 0 0,rfl,w.heap.size,Nat.le_refl _,World.ownsRow_nil _ _ _ _⟩,hBz⟩
    ·rename_i q1 q3 q4 q2
     rw[tlE] at q1
     rw[tlE,tlE] at q4
     rw[tlI] at q2
     have ho:QdX bv mv tv=mv:=by unfold QdX;rw[if_neg (by rw[q1];decide)]
     obtain⟨hgz2,hrg2⟩:=hgA _ _ hg12
     go_roundw
     case rel=>first|exact⟨_,cnt1,dn++[x],hrg2,hadd _ _ mv ho (by simpa using q2) hown12,hst.1,hst.2,hcl2 (by unfold Qam;rcases q4 with q4|q4<;>rw[q4]<;>simp),by simp;omega,hgz2⟩|((repeat apply Exists.intro);exact⟨⟨_,cnt1,dn++[x],hrg2,hadd _ _ mv ho (by simpa using q2) hown12,hst.1,hst.2,hcl2 (by unfold Qam;rcases q4 with q4|q4<;>rw[q4]<;>simp),by simp;omega,hgz2⟩,rfl⟩)
     case measure=>rw[hrg2.left_eq,hmm0];exact hlt
    ·rename_i q1 q3 q4 q2
     rw[tlE] at q1
     rw[tlE,tlE] at q4
     rw[tlI] at q2
     have ho:QdX bv mv tv=mv:=by unfold QdX;rw[if_neg (by rw[q1];decide)]
     go_roundw
     case rel=>first|exact⟨_,cnt1,dn++[x],hrg1,hskip (by rw[ho];simpa using q2),hst.1,hst.2,hcl2 (by unfold Qam;rcases q4 with q4|q4<;>rw[q4]<;>simp),by simp;omega,hgz1⟩|((repeat apply Exists.intro);exact⟨⟨_,cnt1,dn++[x],hrg1,hskip (by rw[ho];simpa using q2),hst.1,hst.2,hcl2 (by unfold Qam;rcases q4 with q4|q4<;>rw[q4]<;>simp),by simp;omega,hgz1⟩,rfl⟩)
     case measure=>rw[hrg1.left_eq,hmm0];exact hlt
theorem row_out {w' W:World} {base:Nat} {v:Value} {ys:List Bt} (h:w'.ownsRow base 9 1 v ys.length (ys.map Value.string)) (hb:W.heap.size≤base):
  ∃ρ:Env,VR w' (fun b=>b<W.heap.size) ρ (.osl 5001 0 ys.length) v∧BR w' (fun b=>b<W.heap.size) ρ 5001 (.arr 9 1 ys.length (Go.Ab.rows encSb ys))∧((ρ 5001).ph=false→W.heap.size≤(ρ 5001).b):=by
 rcases h.2 with ⟨rfl,h0⟩|⟨g,cap,cur,rfl,h1,h2,h3,h4,h5,h6⟩
 ·refine⟨fun _=>⟨0,0,1,ys.length,0,true⟩,.osl0 h0 (Nat.zero_le _),.arr0 rfl rfl rfl h0,fun h=>by cases h⟩
 ·refine⟨fun _=>⟨g,0,1,ys.length,cap,false⟩,?_,.arr cur 9 rfl rfl rfl h3 (fun i _=>rfl) h2 (by simp[h5]) fun i j d hi hd=>?_,fun _=>Nat.le_trans hb h1⟩
  ·have:=VR.osl (w:=w') (own:=fun b=>b<W.heap.size) (ρ:=fun _=>⟨g,0,1,ys.length,cap,false⟩) (id:=5001) (off:=0) (len:=ys.length) rfl (by simp) h3
   simpa using this
  ·cases j with
   |succ j=>simp[Go.Ab.rows,encSb] at hd
   |zero=>
    simp only[Go.Ab.rows,encSb,List.getElem?_cons_zero,Option.some.injEq] at hd
    subst hd
    have e:cur.getD (0+i*1+0) undef=Value.string (ys.getD i default):=by
     have h7:(cur.toList.take (ys.length*1))[i]? =(ys.map Value.string)[i]?:=by rw[h6]
     rw[List.getElem?_take_of_lt (by omega),List.getElem?_map,List.getElem?_eq_getElem hi] at h7
     rw[Array.getD_eq_getD_getElem?,show 0+i*1+0=i by omega,←Array.getElem?_toList,h7]
     simp[List.getD_eq_getElem?_getD,hi]
    rw[e]
    exact .str
theorem str_form {w:World} {xs:List Bt} {v:Value} {ρ0:Env} (hv:VR w (fun _=>False) ρ0 (.d (slD encSb xs)) v) (h0:0<xs.length):∃b o c,v=.slice (some ⟨b,o,none⟩) xs.length c∧b<w.heap.size∧∀i,i<xs.length→w.cell? ⟨b,o+i,none⟩=some (.string (xs.getD i default)):=by
 cases hv with
 |d hd=>
  cases hd with
  |sl0 hn=>omega
  |sl vals ho hb hl hcell hval hcap=>
   refine⟨_,_,_,rfl,hb,fun i hi=>?_⟩
   have er:Go.Ab.rows encSb xs i=[.str (xs.getD i default)]:=rfl
   have h1:=hl i hi
   rw[er] at h1
   have h2:=hcell i 0 (.str (xs.getD i default)) hi (by rw[er];rfl)
   have h3:=hval i 0 (.str (xs.getD i default)) hi (by rw[er];rfl)
   rw[←h1] at h2
   generalize vals i 0=u at h2 h3
   cases h3
   simpa using h2
theorem neat_call {xs:List Bt} {r:Bool} (h:JD xs=some r) {w w':World} {v:Value} {ρ0:Env} (hv:VR w (fun _=>False) ρ0 (.d (slD encSb xs)) v) (ht:TabB prog (fun b=>b<w.heap.size) w) (hB:Below w.heap.size w w'):
  Calls prog 94 #[v] w' fun e w''=>e=.returned (.bool r)∧Below w'.heap.size w' w'':=by
 have hv':VR w' (fun _=>False) ρ0 (.d (slD encSb xs)) v:=hv.keep ⟨hB.size,fun b hb _=>⟨hB.block b hb,fun h=>h⟩⟩ fun _ _=>rfl
 refine((Qcr h).out w' #[v] ρ0 ⟨rfl,fun j u hj=>?_⟩ (Qrk ht hB)).mono ?_
 ·rcases j with _|j
  ·simp only[List.getElem?_cons_zero,Option.some.injEq] at hj;subst hj;exact hv'
  ·simp at hj
 ·rintro e w'' ⟨v,ρ,rfl,hp,hv,_⟩
  cases hv with
  |d hd=>cases hd with
   |bool=>exact⟨rfl,hp.below⟩
theorem key_all {xs ks:List Bt} (h3:∀i,i<xs.length→Zv (xs.getD i default)=some (ks.getD i default)) {w:World} (ρ0:Env) (ht:TabB prog (fun b=>b<w.heap.size) w) (w':World) (hB:Below w.heap.size w w') (i:Nat) (hi:i<xs.length):
  Calls prog 67 #[.string (xs.getD i default)] w' fun e w''=>e=.returned (.string (ks.getD i default))∧Below w'.heap.size w' w'':=Qpa (h3 i hi) ρ0 (Qrk ht hB)
theorem keys_app {xs ks ys ls:List Bt} (hl:ks.length=xs.length) (h:∀i,i<xs.length→Zv (xs.getD i default)=some (ks.getD i default)) (h':∀i,i<ys.length→Zv (ys.getD i default)=some (ls.getD i default)) (i:Nat) (hi:i<(xs++ys).length):
  Zv ((xs++ys).getD i default)=some ((ks++ls).getD i default):=by
 rw[List.length_append] at hi
 by_cases hx:i<xs.length
 ·have h1:=h i hx
  simp only[List.getD_eq_getElem?_getD] at h1⊢
  rw[List.getElem?_append_left hx,List.getElem?_append_left (by omega)]
  exact h1
 ·have h1:=h' (i-xs.length) (by omega)
  simp only[List.getD_eq_getElem?_getD] at h1⊢
  rw[List.getElem?_append_right (by omega),List.getElem?_append_right (by omega),hl]
  exact h1
end Mg
theorem QiS {a0:(List Bt)} {a1:(List Bt)} {a2:(List Bt)} {r:(List Bt)×Int} (h:QaO a0 a1 a2=some r):PureC prog 112 [.d (slD encSb a0),.d (slD encSb a1),.d (slD encSb a2)] (.tup [.osl 5001 0 r.1.length,dI r.2]) [⟨5001,9,1,r.1.length,rows encSb r.1⟩]:=by
 unfold QaO at h
 obtain⟨n0,hn0,h⟩:=Qc h
 obtain⟨e0,h⟩:=Qe h
 obtain⟨n1,hn1,h⟩:=Qc h
 obtain⟨e1,h⟩:=Qe h
 obtain⟨n2,hn2,h⟩:=Qc h
 obtain⟨e2,h⟩:=Qe h
 obtain⟨k0,hk0,h⟩:=Qc h
 obtain⟨k1,hk1,h⟩:=Qc h
 obtain⟨k2,hk2,h⟩:=Qc h
 obtain⟨⟨⟨p0,p1,p2⟩,⟨q0,q1,q2⟩,hz⟩,h⟩:=Qe h
 rw[e0] at hn0
 rw[e1] at hn1
 rw[e2] at hn2
 obtain rfl:=sj_ h
 obtain⟨a1',b1',c1'⟩:=Nc.keysM_some hk0
 obtain⟨a2',b2',c2'⟩:=Nc.keysM_some hk1
 obtain⟨a3',b3',c3'⟩:=Nc.keysM_some hk2
 refine⟨⟨f112,rfl,by kernel_rfl,by kernel_rfl⟩,rfl,?_,List.pairwise_singleton _ _,fun id h=>?_,fun w vals ρ0 hv ht=>?_⟩
 ·intro b hb i hi d hd
  obtain rfl:=List.mem_singleton.1 hb
  simp[Go.Ab.rows,encSb] at hd;subst hd;rfl
 ·simp[V.mentions,QN] at h
  have hq:Nat.beq 5001 id=true:=by cases hq:Nat.beq 5001 id<;>simp[hq] at h⊢
  exact⟨_,List.mem_singleton.2 rfl,Nat.eq_of_beq_eq_true hq⟩
 obtain⟨v1,v2⟩:=hv
 have e:vals=#[vals.getD 0 undef,vals.getD 1 undef,vals.getD 2 undef]:=by
  apply Array.ext
  ·simpa using v1
  ·intro i hi hi'
   have hi3:i<3:=by simpa using hi'
   rcases i with _|_|_|i
   ·simp[hi]
   ·simp[hi]
   ·simp[hi]
   ·omega
 have f0:=v2 0 _ rfl
 have f1:=v2 1 _ rfl
 have f2:=v2 2 _ rfl
 rw[e]
 generalize vals.getD 0 undef=u0 at f0⊢
 generalize vals.getD 1 undef=u1 at f1⊢
 generalize vals.getD 2 undef=u2 at f2⊢
 have N0:=fun w' hB=>Mg.neat_call hn0 (w':=w') f0 ht hB
 have N1:=fun w' hB=>Mg.neat_call hn1 (w':=w') f1 ht hB
 have N2:=fun w' hB=>Mg.neat_call hn2 (w':=w') f2 ht hB
 obtain⟨b0,o0,x0,rfl,s0,t0⟩:=Mg.str_form f0 p0
 obtain⟨b1,o1,x1,rfl,s1,t1⟩:=Mg.str_form f1 p1
 obtain⟨b2,o2,x2,rfl,s2,t2⟩:=Mg.str_form f2 p2
 refine(Mg.merge_walk w b0 o0 x0 _ b1 o1 x1 _ b2 o2 x2 _ a0 k0 a1 k1 a2 k2 rfl rfl rfl a1' a2' a3' (by omega) (by omega) (by omega) p0 (fun x hx=>hz x (by simp[hx])) (fun x hx=>hz x (by simp[hx])) (fun x hx=>hz x (by simp[hx])) b1' b2' b3' s0 s1 s2 t0 t1 t2 N0 N1 N2
  (Mg.key_all c1' ρ0 ht) (Mg.key_all c2' ρ0 ht) (Mg.key_all c3' ρ0 ht) (fun w' hB i hi=>Mg.key_all (Mg.keys_app (by simp[a1',a2']) (Mg.keys_app a1' c1' c2') c3') ρ0 ht w' hB i (by simp;omega))
  (fun g cap ss W hH hg hs=>AnyM.slices_Sort_string Lay.srts g 0 cap ss W hH hg hs) (fun p cap W=>AnyM.slices_Sort_string_none Lay.srts p cap W)).mono ?_
 rintro e w' ⟨⟨v,rfl,base,hbs,hrow⟩,hB⟩
 obtain⟨ρ,hv,hbr,hge⟩:=Mg.row_out (W:=w) hrow hbs
 refine⟨_,ρ,rfl,Below.pure hB,.tup rfl fun j u hj=>?_,?_,?_,?_⟩
 ·rcases j with _|_|j
  ·simp only[List.getElem?_cons_zero,Option.some.injEq] at hj;subst hj;exact hv
  ·simp only[List.getElem?_cons_succ,List.getElem?_cons_zero,Option.some.injEq] at hj;subst hj;exact .d .int
  ·simp at hj
 ·intro b hb
  obtain rfl:=List.mem_singleton.1 hb
  exact hbr
 ·intro x hx y hy _ _ _;rw[List.mem_singleton.1 hx,List.mem_singleton.1 hy]
 ·intro x hx hp;obtain rfl:=List.mem_singleton.1 hx;exact hge hp
def Zz (a0:Qyj) (a1:Bt):Option (Int×Qyj):=
 bd (lp (σ:=Int) (β:=(Nat⊕Unit)) (fun s1=>
(if(decide (s1<((a0.Box.Cands.length:Nat):Int)))=true then
 gd ((0:Int)≤s1∧s1<((a0.Box.Cands.length:Nat):Int))<|
(if(((a0.Box.Cands.getD s1.toNat default).User)==a1)=true then
 gd ((0:Int)≤s1∧s1<((a0.Box.Cands.length:Nat):Int))<|
 some (.inr (.inl s1.toNat))
else
 some (.inl (IntKind.i64.wrap (s1+1))))
else
 some (.inr (.inr ())))) 0) fun x4=>
(match x4 with
| .inl d7=>
 bd (QaO ((a0.Box.Cands.getD d7 default).From) ((a0.Box.Cands.getD d7 default).Lines) a0.Box.Lines) fun x8=>
(if(x8.2==2)=true then
 some (6,a0)
else
(if(x8.2==3)=true then
 some (4,a0)
else
 bd (QW a0.Box.Lines) fun x9=>
 bd (some (a0.Box.Cands.set d7 ({(a0.Box.Cands.getD d7 default) with Lines:=x8.1}))) fun x10=>
 bd (some (x10.set d7 ({(x10.getD d7 default) with Base:=a0.Box.Edition}))) fun x11=>
 bd (some (x11.set d7 ({(x11.getD d7 default) with From:=x9}))) fun x12=>
 some (0,{a0 with Box:={a0.Box with Cands:=x12}})))
| .inr d13=>
 some (3,a0))
theorem QeF {a0:Qyj} {a1:Bt} {r:Int×Qyj} (h:Zz a0 a1=some r):EffC prog 58 [.ref 9000 0 0,.d (.str a1)] [(9000,.box 33 [dB a0.Up,dI a0.Box.Edition,.d (slD encSb a0.Box.Lines),dI a0.Box.Trial,.d (slD encSb a0.Box.Back),.osl 9001 0 a0.Box.Cands.length,.d (slD Qyi.enc a0.Slots),dI a0.Live,dI a0.Last,dI a0.Job.Kind,dI a0.Job.Step,dI a0.Job.Edition,dI a0.Job.Ticks,.d (slD encSb a0.Job.Lines)]),(9001,.arr 76 4 a0.Box.Cands.length (rows Qyf.enc a0.Box.Cands))] (dI r.1) [(9000,.box 33 [dB a0.Up,dI a0.Box.Edition,.d (slD encSb a0.Box.Lines),dI a0.Box.Trial,.d (slD encSb a0.Box.Back),.osl 5001 0 r.2.Box.Cands.length,.d (slD Qyi.enc a0.Slots),dI a0.Live,dI a0.Last,dI a0.Job.Kind,dI a0.Job.Step,dI a0.Job.Edition,dI a0.Job.Ticks,.d (slD encSb a0.Job.Lines)]),(5001,.arr 76 4 r.2.Box.Cands.length (rows Qyf.enc r.2.Box.Cands))]:=by
 refine eY tOk f58 rfl (Qg7 tOk 20000 (fn:=f102) (c:=Jw f102) rfl rfl (by kernel_rfl) rfl (Qb tOk ?_));obtain⟨x4,hx4,h⟩:=Qc h;refine QJ tOk hx4 (fun s1=>⟨20000,34,[(0,.ref 9000 0 0),(1,.d (.str a1)),(11,dI ((a0.Box.Cands.length:Nat):Int)),(12,dI s1)],[],[(9000,.box 33 [dB a0.Up,dI a0.Box.Edition,.d (slD encSb a0.Box.Lines),dI a0.Box.Trial,.d (slD encSb a0.Box.Back),.osl 9001 0 a0.Box.Cands.length,.d (slD Qyi.enc a0.Slots),dI a0.Live,dI a0.Last,dI a0.Job.Kind,dI a0.Job.Step,dI a0.Job.Edition,dI a0.Job.Ticks,.d (slD encSb a0.Job.Lines)]),(9001,.arr 76 4 a0.Box.Cands.length (rows Qyf.enc a0.Box.Cands))],[⟨[(0,.ref 9000 0 0),(1,.d (.str a1)),(4,dI 0),(8,.ref 9000 0 0),(9,.d (.str a1))],[]⟩,⟨[(0,.ref 9000 0 0)],[]⟩]⟩) ?_ ?_
 ·exact leX []
 ·clear hx4;intro s1 y2 g3 hy2;refine Qb tOk ?_;apply Qr g3<;>intro _ g3
  ·refine Qb tOk (gdI g3 fun g3=>?_);apply Qr g3<;>intro _ g3
   ·refine gdI g3 fun g3=>?_;cases g3;cases hy2 _ rfl;refine Qb tOk (aI (fun e=>Bool.noConfusion e) (fun _=>?_));obtain⟨x8,hx8,h⟩:=Qc h;refine Q0 tOk [.u 13 1000 (.tup [.osl 5001 0 x8.1.length,dI x8.2]) [⟨5001,9,1,x8.1.length,rows encSb x8.1⟩]] 19 [] [0,1,3,7,0,16,48,112,0,256,768,1792,3840,8191,16383,32767,32767,65535,262143] [] (aI (QM (QiS hx8) (by kernel_rfl)) (aK (Qb tOk ?_)));apply Qr h<;>intro _ h
    ·cases h
     exact lfE [.s [(5001,9001),(9001,5001)]]
    ·apply Qr h<;>intro _ h
     ·cases h
      exact lfE [.s [(5001,9001),(9001,5001)]]
     ·obtain⟨x9,hx9,h⟩:=Qc h;obtain⟨x10,hx10,hlx10,h⟩:=Qiw h;obtain⟨x11,hx11,hlx11,h⟩:=Qiw h;obtain⟨x12,hx12,hlx12,h⟩:=Qiw h;refine Qux [6001] (QbY tOk [.e 14 [] (.d (slD encSb x9)) [] [],.a 17 [(9001,.arr 76 4 a0.Box.Cands.length (rows Qyf.enc a0.Box.Cands))] (.any) [(9001,.arr 76 4 a0.Box.Cands.length (rows Qyf.enc x10))],.a 20 [(9001,.arr 76 4 a0.Box.Cands.length (rows Qyf.enc x10))] (.any) [(9001,.arr 76 4 a0.Box.Cands.length (rows Qyf.enc x11))],.a 23 [(9001,.arr 76 4 a0.Box.Cands.length (rows Qyf.enc x11))] (.any) [(9001,.arr 76 4 a0.Box.Cands.length (rows Qyf.enc x12))]] 24 [] [0,0,0,0,0,16,48,112,240,0,512,1536,3584,7680,15872,32761,65529,131065,262139,524283,1048571,2097151,4194303,8388607] [] [9001] (aI (eD [] 0 (ZX hx9)) (aI (by(conv=>whnf);exact Quu (enc:=Qyf.enc) hx10 ⟨rfl,rfl⟩) (aI (by(conv=>whnf);exact Quu (enc:=Qyf.enc) hx11 ⟨rfl,rfl⟩) (aI (by(conv=>whnf);exact Quu (enc:=Qyf.enc) hx12 ⟨rfl,rfl⟩) (aK ?_))))));cases h;exact lfE [.s [(5001,9001),(9001,5001)]]
   ·exact eX g3 []
  ·cases g3
   cases hy2 _ rfl
   refine Qb tOk (aI (fun _=>?_) (fun e=>Bool.noConfusion e));cases h;exact lfE [.s [(5001,9001),(9001,5001)]]
def QcP (a0:(List Bt)) (a1:(List Bt)):Option ((List Bt)):=
 bd (Qs a0) fun x1=>
 gd (((x1.length)+(a1.length))*(16+1)≤70368744177664)<|
 bd (lp (σ:=List Bt×Int) (β:=(Nat×(List Bt))) (fun s2=>
(if(decide (s2.2<(((x1++a1).length:Nat):Int)))=true then
 gd ((0:Int)≤s2.2∧s2.2<(((x1++a1).length:Nat):Int))<|
 bd (Qq a0 ((x1++a1).getD s2.2.toNat default)) fun x7=>
 bd (Qq a1 ((x1++a1).getD s2.2.toNat default)) fun x8=>
(if(!(x7==x8))=true then
 gd (((s2.1.length)+(([((x1++a1).getD s2.2.toNat default)]:List Bt).length))*(16+1)≤70368744177664)<|
 some (.inl ((s2.1++([((x1++a1).getD s2.2.toNat default)]:List Bt)),IntKind.i64.wrap (s2.2+1)))
else
 some (.inl (s2.1,IntKind.i64.wrap (s2.2+1))))
else
 some (.inr (s2.1.length,s2.1)))) (([]:List Bt),0)) fun x5=>
 bd (QP x5.2) fun x11=>
 gd (x11.length=x5.1)<|
 some x11
theorem QkZ {a0:(List Bt)} {a1:(List Bt)} {r:(List Bt)} (h:QcP a0 a1=some r):PureC prog 139 [.d (slD encSb a0),.d (slD encSb a1)] (.osl 5001 0 r.length) [⟨5001,9,1,r.length,rows encSb r⟩]:=by
 refine pY tOk f139 rfl (Qb tOk (bC h 1000 (fun _=>QK) fun x1 h=>gdI h fun h=>Qiv (enc:=encSb) (xs:=x1) (ys:=a1) ?_));obtain⟨x5,hx5,h⟩:=Qc h;refine QJ tOk hx5 (fun s2=>⟨0,33,[(0,.d (slD encSb a0)),(1,.d (slD encSb a1)),(5,.osl 7001 0 s2.1.length),(12,.osl 6001 0 ((x1++a1).length)),(13,dI (((x1++a1).length:Nat):Int)),(14,dI s2.2)],[],[(7001,.arr 9 1 s2.1.length (rows encSb s2.1)),(6001,.arr 9 1 ((x1++a1).length) (rows encSb (x1++a1)))],[]⟩) ?_ ?_
 ·exact leX [.p 7001 9 1 (rows encSb ([]:List Bt))]
 ·clear hx5;intro s2 y3 g4 hy3;refine Qb tOk ?_;apply Qr g4<;>intro _ g4
  ·refine Qb tOk (gdI g4 fun g4=>bC g4 0 (fun _=>QV) fun x7 g4=>bC g4 0 (fun _=>QV) fun x8 g4=>?_);apply Qr g4<;>intro _ g4
   ·refine Qcl (enc:=encSb) ([((x1++a1).getD s2.2.toNat default)]:List Bt) (gdI g4 fun g4=>Qiv (enc:=encSb) (xs:=s2.1) (ys:=([((x1++a1).getD s2.2.toNat default)]:List Bt)) ?_);exact eX g4 []
   ·exact eX g4 []
  ·cases g4
   cases hy3 _ rfl
   obtain⟨x11,hx11,h⟩:=Qc h;obtain⟨g12,h⟩:=Qe h;refine cE [(9000,7001)] 0 (J4 hx11) ?_;cases h;exact lfP [.s [(5001,7001),(7001,5001)]]
def QcQ (a0:(List Bt)) (a1:(List Bt)) (a2:Bt):Option (Bool):=
 bd (JD a0) fun x1=>
 bd (gcall ((!x1)=false) (JD a1)) fun x2=>
(if((!x1)||(!x2))=true then
 some false
else
 bd (Qax a0 a2) fun x3=>
(if(!x3.2)=true then
 some false
else
 bd (QcP a0 a1) fun x4=>
 bd (lp (σ:=Int) (β:=(Unit⊕Unit)) (fun s5=>
(if(decide (s5<((x4.length:Nat):Int)))=true then
 gd ((0:Int)≤s5∧s5<((x4.length:Nat):Int))<|
 bd (Jj (x4.getD s5.toNat default) (⟨#[32]⟩:Bt)) fun x10=>
 bd (Qq x3.1 (⟨#[97,108,108]⟩:Bt)) fun x11=>
 bd (gcall ((!x11)=true) (Qq x3.1 x10.1)) fun x12=>
(if((!x11)&&(!x12))=true then
 some (.inr (.inl ()))
else
 some (.inl (IntKind.i64.wrap (s5+1))))
else
 some (.inr (.inr ())))) 0) fun x8=>
(match x8 with
| .inl d13=>
 some false
| .inr d14=>
 some true)))
theorem Qk0 {a0:(List Bt)} {a1:(List Bt)} {a2:Bt} {r:Bool} (h:QcQ a0 a1 a2=some r):PureC prog 113 [.d (slD encSb a0),.d (slD encSb a1),.d (.str a2)] (dB r) []:=by
 refine pY tOk f113 rfl (Qb tOk (bC h 0 (fun _=>Qcr) fun x1 h=>bG h (fun _=>Qcr) fun x2 h=>?_));apply Qr h<;>intro _ h
 ·cases h
  exact lfP []
 ·refine bC h 1000 (fun _=>QdF) fun x3 h=>Qb tOk ?_;apply Qr h<;>intro _ h
  ·cases h
   exact lfP []
  ·refine Qb tOk (bC h 2000 (fun _=>QkZ) fun x4 h=>?_);obtain⟨x8,hx8,h⟩:=Qc h;refine QJ tOk hx8 (fun s5=>⟨0,54,[(7,.osl 6001 0 x3.1.length),(32,.osl 7001 0 x4.length),(33,dI ((x4.length:Nat):Int)),(34,dI s5)],[],[(7001,.arr 9 1 x4.length (rows encSb x4)),(6001,.arr 9 1 x3.1.length (rows encSb x3.1))],[]⟩) ?_ ?_
   ·exact leX []
   ·clear hx8;intro s5 y6 g7 hy6;refine Qb tOk ?_;apply Qr g7<;>intro _ g7
    ·refine Qb tOk (gdI g7 fun g7=>bC g7 0 (fun _=>Qdl) fun x10 g7=>bC g7 0 (fun _=>QV) fun x11 g7=>bG g7 (fun _=>QV) fun x12 g7=>?_);apply Qr g7<;>intro _ g7
     ·cases g7
      cases hy6 _ rfl
      cases h
      exact lfP []
     ·exact eX g7 []
    ·cases g7
     cases hy6 _ rfl
     cases h
     exact lfP []
def Z9 (a0:Qyj) (a1:Bt) (a2:Int):Option (Int×Qyj):=
 bd (lp (σ:=Int) (β:=(Nat⊕Unit)) (fun s1=>
(if(decide (s1<((a0.Box.Cands.length:Nat):Int)))=true then
 gd ((0:Int)≤s1∧s1<((a0.Box.Cands.length:Nat):Int))<|
(if(((a0.Box.Cands.getD s1.toNat default).User)==a1)=true then
 gd ((0:Int)≤s1∧s1<((a0.Box.Cands.length:Nat):Int))<|
 some (.inr (.inl s1.toNat))
else
 some (.inl (IntKind.i64.wrap (s1+1))))
else
 some (.inr (.inr ())))) 0) fun x4=>
(match x4 with
| .inl d7=>
 bd (Qn a2 0 9) fun x8=>
(if(!x8)=true then
 some (2,a0)
else
(if(a0.Job.Kind !=0)=true then
 some (10,a0)
else
(if(decide (a0.Box.Trial>0))=true then
 some (8,a0)
else
(if(((a0.Box.Cands.getD d7 default).Base) !=a0.Box.Edition)=true then
 some (5,a0)
else
 bd (Zw ((a0.Box.Cands.getD d7 default).Lines)) fun x9=>
(if(x9 !=0)=true then
 some (6,a0)
else
 bd (QcQ a0.Box.Lines ((a0.Box.Cands.getD d7 default).Lines) a1) fun x10=>
(if(!x10)=true then
 some (7,a0)
else
(if(decide (a0.Box.Edition≥1000000))=true then
 some (9,a0)
else
 bd (Qs ((a0.Box.Cands.getD d7 default).Lines)) fun x11=>
 bd (Zm ({a0 with Job:=(⟨1,0,IntKind.i64.wrap (a0.Box.Edition+1),a2,x11⟩:Qyh)}) a1) fun x12=>
 some (0,{a0 with Box:={a0.Box with Cands:=x12.Box.Cands},Job:=(⟨1,0,IntKind.i64.wrap (a0.Box.Edition+1),a2,x11⟩:Qyh)}))))))))
| .inr d13=>
 some (3,a0))
theorem QeG {a0:Qyj} {a1:Bt} {a2:Int} {r:Int×Qyj} (h:Z9 a0 a1 a2=some r):EffC prog 59 [.ref 9000 0 0,.d (.str a1),dI a2] [(9000,.box 33 [dB a0.Up,dI a0.Box.Edition,.d (slD encSb a0.Box.Lines),dI a0.Box.Trial,.d (slD encSb a0.Box.Back),.osl 9001 0 a0.Box.Cands.length,.d (slD Qyi.enc a0.Slots),dI a0.Live,dI a0.Last,dI a0.Job.Kind,dI a0.Job.Step,dI a0.Job.Edition,dI a0.Job.Ticks,.d (slD encSb a0.Job.Lines)]),(9001,.arr 76 4 a0.Box.Cands.length (rows Qyf.enc a0.Box.Cands))] (dI r.1) [(9000,.box 33 [dB a0.Up,dI a0.Box.Edition,.d (slD encSb a0.Box.Lines),dI a0.Box.Trial,.d (slD encSb a0.Box.Back),.osl 5001 0 r.2.Box.Cands.length,.d (slD Qyi.enc a0.Slots),dI a0.Live,dI a0.Last,dI r.2.Job.Kind,dI r.2.Job.Step,dI r.2.Job.Edition,dI r.2.Job.Ticks,.d (slD encSb r.2.Job.Lines)]),(5001,.arr 76 4 r.2.Box.Cands.length (rows Qyf.enc r.2.Box.Cands))]:=by
 refine eY tOk f59 rfl (Qg7 tOk 20000 (fn:=f102) (c:=Jw f102) rfl rfl (by kernel_rfl) rfl (Qb tOk ?_));obtain⟨x4,hx4,h⟩:=Qc h;refine QJ tOk hx4 (fun s1=>⟨20000,34,[(0,.ref 9000 0 0),(1,.d (.str a1)),(11,dI ((a0.Box.Cands.length:Nat):Int)),(12,dI s1)],[],[(9000,.box 33 [dB a0.Up,dI a0.Box.Edition,.d (slD encSb a0.Box.Lines),dI a0.Box.Trial,.d (slD encSb a0.Box.Back),.osl 9001 0 a0.Box.Cands.length,.d (slD Qyi.enc a0.Slots),dI a0.Live,dI a0.Last,dI a0.Job.Kind,dI a0.Job.Step,dI a0.Job.Edition,dI a0.Job.Ticks,.d (slD encSb a0.Job.Lines)]),(9001,.arr 76 4 a0.Box.Cands.length (rows Qyf.enc a0.Box.Cands))],[⟨[(0,.ref 9000 0 0),(1,.d (.str a1)),(2,dI a2),(6,dI 0),(8,.ref 9000 0 0),(9,.d (.str a1))],[]⟩,⟨[(0,.ref 9000 0 0)],[]⟩]⟩) ?_ ?_
 ·exact leX []
 ·clear hx4;intro s1 y2 g3 hy2;refine Qb tOk ?_;apply Qr g3<;>intro _ g3
  ·refine Qb tOk (gdI g3 fun g3=>?_);apply Qr g3<;>intro _ g3
   ·refine gdI g3 fun g3=>?_;cases g3;cases hy2 _ rfl;refine Qb tOk (aI (fun e=>Bool.noConfusion e) (fun _=>bC h 0 (fun _=>QQ) fun x8 h=>?_));apply Qr h<;>intro _ h
    ·cases h
     exact lfE [.s [(5001,9001),(9001,5001)]]
    ·apply Qr h<;>intro _ h
     ·cases h
      exact lfE [.s [(5001,9001),(9001,5001)]]
     ·apply Qr h<;>intro _ h
      ·cases h
       exact lfE [.s [(5001,9001),(9001,5001)]]
      ·refine Q0 tOk [] 11 [] [0,1,3,7,0,16,48,112,240,511,1023] [] (aK ?_);apply Qr h<;>intro _ h
       ·cases h
        exact lfE [.s [(5001,9001),(9001,5001)]]
       ·refine bC h 0 (fun _=>Qag) fun x9 h=>?_;apply Qr h<;>intro _ h
        ·cases h
         exact lfE [.s [(5001,9001),(9001,5001)]]
        ·obtain⟨x10,hx10,h⟩:=Qc h;refine Q0 tOk [.u 10 0 (dB x10) []] 13 [] [0,1,3,7,15,0,32,96,224,0,1023,2047,4095] [] (aI (QM (Qk0 hx10) (by kernel_rfl)) (aK ?_));apply Qr h<;>intro _ h
         ·cases h
          exact lfE [.s [(5001,9001),(9001,5001)]]
         ·apply Qr h<;>intro _ h
          ·cases h
           exact lfE [.s [(5001,9001),(9001,5001)]]
          ·obtain⟨x11,hx11,h⟩:=Qc h;refine Q0 tOk [.u 12 1000 (.osl 5001 0 x11.length) [⟨5001,9,1,x11.length,rows encSb x11⟩]] 16 [] [0,0,2,6,14,30,62,0,0,256,768,1792,3840,8190,16383,32767] [65535] (aI (QM (QK hx11) (by kernel_rfl)) (aK ?_));obtain⟨x12,hx12,h⟩:=Qc h;refine ZV [6001] (cE [(9000,9000),(9001,9001)] 1000 (Qbt hx12) ?_);cases h;exact lfE [.s [(5001,6001),(6001,5001)]]
   ·exact eX g3 []
  ·cases g3
   cases hy2 _ rfl
   refine Qb tOk (aI (fun _=>?_) (fun e=>Bool.noConfusion e));cases h;exact lfE [.s [(5001,9001),(9001,5001)]]
def QbO (a0:Qyj) (a1:Bt) (a2:Int):Option (Int×Qyj):=
 bd (Qax a0.Box.Lines a1) fun x1=>
(if(a0.Box.Trial==0)=true then
 some (8,a0)
else
(if(a2 !=a0.Box.Edition)=true then
 some (5,a0)
else
(if(!x1.2)=true then
 some (3,a0)
else
(if(a0.Job.Kind !=0)=true then
 some (10,a0)
else
 some (0,{a0 with Job:=(⟨2,0,0,0,[]⟩:Qyh)})))))
theorem Qem {a0:Qyj} {a1:Bt} {a2:Int} {r:Int×Qyj} (h:QbO a0 a1 a2=some r):EffC prog 60 [.ref 9000 0 0,.d (.str a1),dI a2] [(9000,.box 33 [dB a0.Up,dI a0.Box.Edition,.d (slD encSb a0.Box.Lines),dI a0.Box.Trial,.d (slD encSb a0.Box.Back),.d (slD Qyf.enc a0.Box.Cands),.d (slD Qyi.enc a0.Slots),dI a0.Live,dI a0.Last,dI a0.Job.Kind,dI a0.Job.Step,dI a0.Job.Edition,dI a0.Job.Ticks,.d (slD encSb a0.Job.Lines)])] (dI r.1) [(9000,.box 33 [dB a0.Up,dI a0.Box.Edition,.d (slD encSb a0.Box.Lines),dI a0.Box.Trial,.d (slD encSb a0.Box.Back),.d (slD Qyf.enc a0.Box.Cands),.d (slD Qyi.enc a0.Slots),dI a0.Live,dI a0.Last,dI r.2.Job.Kind,dI r.2.Job.Step,dI r.2.Job.Edition,dI r.2.Job.Ticks,.d (slD encSb r.2.Job.Lines)])]:=by
 refine eY tOk f60 rfl (bC h 1000 (fun _=>QdF) fun x1 h=>Qb tOk ?_);apply Qr h<;>intro _ h
 ·cases h
  exact lfE []
 ·apply Qr h<;>intro _ h
  ·cases h
   exact lfE []
  ·apply Qr h<;>intro _ h
   ·cases h
    exact lfE []
   ·apply Qr h<;>intro _ h
    ·cases h
     exact lfE []
    ·cases h
     exact lfE []
def Qc0 (a0:Qyj):Option (Int×Qyj):=
(if(a0.Box.Trial==0)=true then
 some (0,a0)
else
(if((IntKind.i64.wrap (a0.Box.Trial-1))==0)=true then
 some (0,{a0 with Box:=(⟨IntKind.i64.wrap (a0.Box.Edition+1),a0.Box.Back,IntKind.i64.wrap (a0.Box.Trial-1),[],a0.Box.Cands⟩:Qyg),Job:=(⟨3,0,0,0,[]⟩:Qyh)})
else
 some (0,{a0 with Box:={a0.Box with Trial:=IntKind.i64.wrap (a0.Box.Trial-1)}})))
theorem Qfp {a0:Qyj} {r:Int×Qyj} (h:Qc0 a0=some r):EffC prog 61 [.ref 9000 0 0] [(9000,.box 33 [dB a0.Up,dI a0.Box.Edition,.d (slD encSb a0.Box.Lines),dI a0.Box.Trial,.d (slD encSb a0.Box.Back),.d (slD Qyf.enc a0.Box.Cands),.d (slD Qyi.enc a0.Slots),dI a0.Live,dI a0.Last,dI a0.Job.Kind,dI a0.Job.Step,dI a0.Job.Edition,dI a0.Job.Ticks,.d (slD encSb a0.Job.Lines)])] (dI r.1) [(9000,.box 33 [dB a0.Up,dI r.2.Box.Edition,.d (slD encSb r.2.Box.Lines),dI r.2.Box.Trial,.d (slD encSb r.2.Box.Back),.d (slD Qyf.enc a0.Box.Cands),.d (slD Qyi.enc a0.Slots),dI a0.Live,dI a0.Last,dI r.2.Job.Kind,dI r.2.Job.Step,dI r.2.Job.Edition,dI r.2.Job.Ticks,.d (slD encSb r.2.Job.Lines)])]:=by
 refine eY tOk f61 rfl (Qb tOk ?_);apply Qr h<;>intro _ h
 ·cases h
  exact lfE []
 ·refine Qb tOk ?_;apply Qr h<;>intro _ h
  ·cases h
   exact lfE []
  ·cases h
   exact lfE []
end
end Go.Proofs.YtmnnglbioibmfaaGreatDoor
