/-
  What some of the program's functions compute: their models, and that the functions compute these; no condition.
-/
import Derived.Test.YtjgjdobkahdgfaaGreatTyz
import Derived.Test.YtjgjdobkahdgfaaGreatTbz
import Derived.Test.YtjgjdobkahdgfaaGreatAbz7
import Derived.Test.YtjgjdobkahdgfaaGreatKz3
set_option linter.all false
namespace Go.Proofs.YtjgjdobkahdgfaaGreat
open Go Go.Ab
set_option maxRecDepth 100000
set_option maxHeartbeats 40000000
noncomputable def Zp (a0:(List Qwf)):Option ((List Qwf)) :=
 gd ((0:Int)≤0∧0≤((a0.length:Nat):Int)∧((a0.length:Nat):Int)*16≤140737488355328∧((a0.length:Nat):Int)≤140737488355328) <|
 gd ((((List.replicate (0:Int).toNat (default:Qwf)).length)+(a0.length))*(16+1)≤70368744177664) <|
 some ((List.replicate (0:Int).toNat (default:Qwf)) ++ a0)
theorem Qau {a0:(List Qwf)} {r:(List Qwf)} (h:Zp a0=some r):PureC Tryz.prog 65 [.d (slD Qwf.enc a0)] (.osl 5001 0 r.length) [⟨5001,93,2,r.length,rows Qwf.enc r⟩]:=by
  refine Qq tOk (fn:=Tryz.f65) (c:=Qj Tryz.f65) rfl rfl ?_;unfold Zp at h;(conv=>whnf);obtain ⟨g2,h⟩:=Qf h;refine And.intro g2 ?_;clear g2;refine ⟨(List.replicate (0:Int).toNat (default:Qwf)).length,rows Qwf.enc (List.replicate (0:Int).toNat (default:Qwf)),by simp,Qg1 rfl,?_⟩;(conv=>whnf);refine gdI h (fun h=>?_);refine Qj2 (enc:=Qwf.enc) (xs:=(List.replicate (0:Int).toNat (default:Qwf))) (ys:=a0) ?_;(conv=>whnf);obtain rfl:=sj_ h;exact lfP [.s [(5,5001),(5001,5)]]
noncomputable def Jr (a0:(List Qwl)):Option ((List Qwl)) :=
 gd ((0:Int)≤0∧0≤((a0.length:Nat):Int)∧((a0.length:Nat):Int)*112≤140737488355328∧((a0.length:Nat):Int)≤140737488355328) <|
 gd ((((List.replicate (0:Int).toNat (default:Qwl)).length)+(a0.length))*(112+1)≤70368744177664) <|
 some ((List.replicate (0:Int).toNat (default:Qwl)) ++ a0)
theorem Qfi {a0:(List Qwl)} {r:(List Qwl)} (h:Jr a0=some r):PureC Tryz.prog 47 [.d (slD Qwl.enc a0)] (.osl 5001 0 r.length) [⟨5001,42,14,r.length,rows Qwl.enc r⟩]:=by
  refine Qq tOk (fn:=Tryz.f47) (c:=Qj Tryz.f47) rfl rfl ?_;unfold Jr at h;(conv=>whnf);obtain ⟨g2,h⟩:=Qf h;refine And.intro g2 ?_;clear g2;refine ⟨(List.replicate (0:Int).toNat (default:Qwl)).length,rows Qwl.enc (List.replicate (0:Int).toNat (default:Qwl)),by simp,Qg1 rfl,?_⟩;(conv=>whnf);refine gdI h (fun h=>?_);refine Qj2 (enc:=Qwl.enc) (xs:=(List.replicate (0:Int).toNat (default:Qwl))) (ys:=a0) ?_;(conv=>whnf);obtain rfl:=sj_ h;exact lfP [.s [(5,5001),(5001,5)]]
noncomputable def ZO (a0:Qwj):Option (Bool) :=
 some (a0.Boot == 1000)
theorem Qcw {a0:Qwj} {r:Bool} (h:ZO a0=some r):PureC Tryz.prog 95 [.rp [.int .i64 a0.Name,.int .i64 a0.Peer,slD Qwf.enc a0.Keys,.int .i64 a0.Boot,slD Qwg.enc a0.Want,.int .i64 a0.Turn,.int .i64 a0.PeerBoot,.int .i64 a0.PeerTurn,.bool a0.Up,.int .i64 a0.Left,.int .i64 a0.Num,.int .i64 a0.Under.Kind,.int .i64 a0.Under.Entry.Addr,.int .i64 a0.Under.Entry.Len,.int .i64 a0.Under.Entry.Cost,.int .i64 a0.Under.Entry.Label,slD Qwg.enc a0.Told,.bool a0.All,.int .i64 a0.Got,.bool a0.Full,slD Qwi.enc a0.Heard,.int .i64 a0.Keep]] (dB r) []:=by
  refine Qq tOk (fn:=Tryz.f95) (c:=Qj Tryz.f95) rfl rfl ?_;unfold ZO at h;(conv=>whnf);obtain rfl:=sj_ h;exact lfP []
noncomputable def QbQ (a0:Int) (a1:(List Int)):Option (Int) :=
 bd (lp (σ:=Int × Int) (β:=(Int)) (fun s1 =>
(if (decide (s1.2<((a1.length:Nat):Int)))=true then
 gd ((0:Int)≤s1.2∧s1.2<((a1.length:Nat):Int)) <|
 gd ((2147483647:Int) ≠ 0) <|
 gd ((2147483647:Int) ≠ 0) <|
 gd ((2147483647:Int) ≠ 0) <|
 some (.inl (((IntKind.i64.wrap ((IntKind.i64.wrap ((IntKind.i64.wrap (48271*s1.1))+((IntKind.i64.wrap ((((a1.getD s1.2.toNat default):Int).tmod 2147483647)+2147483647):Int).tmod 2147483647)))+1):Int).tmod 2147483647),IntKind.i64.wrap (s1.2+1)))
else
 some (.inr s1.1))) (a0,0)) fun x4 =>
 some x4
theorem Qg2 {a0:Int} {a1:(List Int)} {r:Int} (h:QbQ a0 a1=some r):PureC Tryz.prog 135 [dI a0,.d (slD Qgb a1)] (dI r) []:=by
  refine Qq tOk (fn:=Tryz.f135) (c:=Qj Tryz.f135) rfl rfl ?_;unfold QbQ at h;(conv=>whnf);refine Qc tOk ?_;(conv=>whnf);obtain ⟨x4,hx4,h⟩:=Qa h;refine Zj tOk hx4 (fun s1=>⟨0,24,[(0,dI s1.1),(7,.d (slD Qgb a1)),(8,dI ((a1.length:Nat):Int)),(9,dI s1.2)],[],[],[]⟩) ?_ ?_
  · exact leX []
  · clear hx4;intro s1 y2 g3 hy2;(conv=>whnf);refine Qc tOk ?_;(conv=>whnf);refine Qz g3 (fun _ g3=>?_) (fun _ g3=>?_)
    · (conv=>whnf);refine Qc tOk ?_;(conv=>whnf);refine gdI g3 (fun g3=>?_);(conv=>whnf);refine gdI g3 (fun g3=>?_);(conv=>whnf);refine gdI g3 (fun g3=>?_);(conv=>whnf);refine gdI g3 (fun g3=>?_);(conv=>whnf);obtain rfl:=sj_ g3;exact ⟨_,rfl,leX []⟩
    · (conv=>whnf);obtain rfl:=sj_ g3;obtain rfl:=hy2 _ rfl;obtain rfl:=sj_ h;exact lfP []
noncomputable def QaO (a0:Int) (a1:Qwl):Option (Int) :=
 bd (QbQ 0 ([a0,a1.From,a1.To,a1.Key,a1.Boot,a1.Yours,a1.Turn,a1.Num,a1.Heard]:List Int)) fun x1 =>
 bd (QbQ x1 ([a1.Change.Kind,a1.Change.Entry.Addr,a1.Change.Entry.Len,a1.Change.Entry.Cost,a1.Change.Entry.Label,a0]:List Int)) fun x2 =>
 some x2
theorem Qfp {a0:Int} {a1:Qwl} {r:Int} (h:QaO a0 a1=some r):PureC Tryz.prog 94 [dI a0,.agg (hwC a1)] (dI r) []:=by
  refine Qq tOk (fn:=Tryz.f94) (c:=Qj Tryz.f94) rfl rfl ?_;unfold QaO at h;(conv=>whnf);refine Qj1 (enc:=Qgb) ([a0,a1.From,a1.To,a1.Key,a1.Boot,a1.Yours,a1.Turn,a1.Num,a1.Heard]:List Int) ?_;(conv=>whnf);obtain ⟨x1,hx1,h⟩:=Qa h;refine cC 0 (Qg2 hx1) ?_;clear hx1;(conv=>whnf);refine Qj1 (enc:=Qgb) ([a1.Change.Kind,a1.Change.Entry.Addr,a1.Change.Entry.Len,a1.Change.Entry.Cost,a1.Change.Entry.Label,a0]:List Int) ?_;(conv=>whnf);obtain ⟨x2,hx2,h⟩:=Qa h;refine cC 0 (Qg2 hx2) ?_;clear hx2;(conv=>whnf);obtain rfl:=sj_ h;exact lfP []
noncomputable def Qah (a0:Qwf) (a1:Qwl):Option (Bool) :=
 bd (gcall ((a0.Id == a1.Key)=true) (QaO a0.Secret a1)) fun x1 =>
 some ((a0.Id == a1.Key) && (x1 == a1.Sum))
theorem Qgu {a0:Qwf} {a1:Qwl} {r:Bool} (h:Qah a0 a1=some r):PureC Tryz.prog 93 [.agg [dI a0.Id,dI a0.Secret],.rp [.int .i64 a1.From,.int .i64 a1.To,.int .i64 a1.Key,.int .i64 a1.Boot,.int .i64 a1.Yours,.int .i64 a1.Turn,.int .i64 a1.Num,.int .i64 a1.Heard,.int .i64 a1.Change.Kind,.int .i64 a1.Change.Entry.Addr,.int .i64 a1.Change.Entry.Len,.int .i64 a1.Change.Entry.Cost,.int .i64 a1.Change.Entry.Label,.int .i64 a1.Sum]] (dB r) []:=by
  refine Qq tOk (fn:=Tryz.f93) (c:=Qj Tryz.f93) rfl rfl ?_;unfold Qah at h;(conv=>whnf);obtain ⟨x1,hx1,h⟩:=Qa h;refine QS tOk [.u 9 0 (dI x1) []] 15 [] [0,1,0,4,15,31,63,127,63,511,63,1087,4095,8191,16383] [] ?_;(conv=>whnf);refine And.intro (Q1 rfl rfl rfl rfl (by intro c0; exact Qfp (Qd hx1 c0))) ?_;(conv=>whnf);refine And.intro (by kernel_rfl) ?_;(conv=>whnf);obtain rfl:=sj_ h;exact lfP []
noncomputable def QA (a0:(List Qwf)) (a1c0:Qwl):Option (Int) :=
 bd (lp (σ:=Int) (β:=(Int ⊕ Unit)) (fun s1 =>
(if (decide (s1<((a0.length:Nat):Int)))=true then
 gd ((0:Int)≤s1∧s1<((a0.length:Nat):Int)) <|
 bd (Qah (a0.getD s1.toNat default) a1c0) fun x6 =>
(if x6=true then
 some (.inr (.inl s1))
else
 some (.inl (IntKind.i64.wrap (s1+1))))
else
 some (.inr (.inr ())))) 0) fun x4 =>
(match x4 with
| .inl d7 =>
 some d7
| .inr d8 =>
 some (-1))
theorem JW {a0:(List Qwf)} {a1c0:Qwl} {r:Int} (h:QA a0 a1c0=some r):PureC Tryz.prog 134 [.d (slD Qwf.enc a0),.fn 93 [.rp [.int .i64 a1c0.From,.int .i64 a1c0.To,.int .i64 a1c0.Key,.int .i64 a1c0.Boot,.int .i64 a1c0.Yours,.int .i64 a1c0.Turn,.int .i64 a1c0.Num,.int .i64 a1c0.Heard,.int .i64 a1c0.Change.Kind,.int .i64 a1c0.Change.Entry.Addr,.int .i64 a1c0.Change.Entry.Len,.int .i64 a1c0.Change.Entry.Cost,.int .i64 a1c0.Change.Entry.Label,.int .i64 a1c0.Sum]]] (dI r) []:=by
  refine Qq tOk (fn:=Tryz.f134) (c:=Qj Tryz.f134) rfl rfl ?_;unfold QA at h;(conv=>whnf);refine Qc tOk ?_;(conv=>whnf);obtain ⟨x4,hx4,h⟩:=Qa h;refine Zj tOk hx4 (fun s1=>⟨0,19,[(0,.d (slD Qwf.enc a0)),(1,.fn 93 [.rp [.int .i64 a1c0.From,.int .i64 a1c0.To,.int .i64 a1c0.Key,.int .i64 a1c0.Boot,.int .i64 a1c0.Yours,.int .i64 a1c0.Turn,.int .i64 a1c0.Num,.int .i64 a1c0.Heard,.int .i64 a1c0.Change.Kind,.int .i64 a1c0.Change.Entry.Addr,.int .i64 a1c0.Change.Entry.Len,.int .i64 a1c0.Change.Entry.Cost,.int .i64 a1c0.Change.Entry.Label,.int .i64 a1c0.Sum]]),(7,dI ((a0.length:Nat):Int)),(8,dI s1)],[],[],[]⟩) ?_ ?_
  · exact leX []
  · clear hx4;intro s1 y2 g3 hy2;(conv=>whnf);refine Qc tOk ?_;(conv=>whnf);refine Qz g3 (fun _ g3=>?_) (fun _ g3=>?_)
    · (conv=>whnf);refine Qc tOk ?_;(conv=>whnf);refine gdI g3 (fun g3=>?_);(conv=>whnf);obtain ⟨x6,hx6,g3⟩:=Qa g3;refine cC 0 (Qgu hx6) ?_;clear hx6;(conv=>whnf);refine Qz g3 (fun _ g3=>?_) (fun _ g3=>?_)
      · (conv=>whnf);obtain rfl:=sj_ g3;obtain rfl:=hy2 _ rfl;obtain rfl:=sj_ h;exact lfP []
      · (conv=>whnf);obtain rfl:=sj_ g3;exact ⟨_,rfl,leX []⟩
    · (conv=>whnf);obtain rfl:=sj_ g3;obtain rfl:=hy2 _ rfl;obtain rfl:=sj_ h;exact lfP []
noncomputable def QI (a0:(List Qwf)) (a1c0:Qwl):Option (Bool) :=
 bd (QA a0 a1c0) fun x1 =>
 some (decide (x1 ≥ 0))
theorem JB {a0:(List Qwf)} {a1c0:Qwl} {r:Bool} (h:QI a0 a1c0=some r):PureC Tryz.prog 92 [.d (slD Qwf.enc a0),.fn 93 [.rp [.int .i64 a1c0.From,.int .i64 a1c0.To,.int .i64 a1c0.Key,.int .i64 a1c0.Boot,.int .i64 a1c0.Yours,.int .i64 a1c0.Turn,.int .i64 a1c0.Num,.int .i64 a1c0.Heard,.int .i64 a1c0.Change.Kind,.int .i64 a1c0.Change.Entry.Addr,.int .i64 a1c0.Change.Entry.Len,.int .i64 a1c0.Change.Entry.Cost,.int .i64 a1c0.Change.Entry.Label,.int .i64 a1c0.Sum]]] (dB r) []:=by
  refine Qq tOk (fn:=Tryz.f92) (c:=Qj Tryz.f92) rfl rfl ?_;unfold QI at h;(conv=>whnf);obtain ⟨x1,hx1,h⟩:=Qa h;refine cC 0 (JW hx1) ?_;clear hx1;(conv=>whnf);obtain rfl:=sj_ h;exact lfP []
noncomputable def J8 (a0:(List Qwf)) (a1:Qwl):Option (Bool) :=
 bd (ZZ a0) fun x1 =>
 bd (gcall (x1=true) (Jl a1)) fun x2 =>
 bd (gcall ((x1 && x2)=true) (QI a0 a1)) fun x3 =>
 some ((x1 && x2) && x3)
theorem Qem {a0:(List Qwf)} {a1:Qwl} {r:Bool} (h:J8 a0 a1=some r):PureC Tryz.prog 55 [.d (slD Qwf.enc a0),.agg (hwC a1)] (dB r) []:=by
  refine Qq tOk (fn:=Tryz.f55) (c:=Qj Tryz.f55) rfl rfl ?_;unfold J8 at h;(conv=>whnf);obtain ⟨x1,hx1,h⟩:=Qa h;refine cC 0 (Qbq hx1) ?_;clear hx1;(conv=>whnf);obtain ⟨x2,hx2,h⟩:=Qa h;refine cG (fun c0=>Qcu (Qd hx2 c0)) ?_;(conv=>whnf);obtain ⟨x3,hx3,h⟩:=Qa h;refine cG (fun c0=>JB (Qd hx3 c0)) ?_;(conv=>whnf);obtain rfl:=sj_ h;exact lfP []
noncomputable def JC (a0:Qwj) (a1:Qwl):Option (Bool) :=
 bd (ZO a0) fun x1 =>
 bd (gcall (x1=false) (J8 a0.Keys a1)) fun x2 =>
(if (((x1 || (!x2)) || (a1.From != a0.Peer)) || (a1.To != a0.Name))=true then
 some false
else
 some ((decide (a1.Boot > a0.PeerBoot)) || ((a1.Boot == a0.PeerBoot) && (decide (a1.Turn > a0.PeerTurn)))))
theorem Qfq {a0:Qwj} {a1:Qwl} {r:Bool} (h:JC a0 a1=some r):PureC Tryz.prog 130 [.rp [.int .i64 a0.Name,.int .i64 a0.Peer,slD Qwf.enc a0.Keys,.int .i64 a0.Boot,slD Qwg.enc a0.Want,.int .i64 a0.Turn,.int .i64 a0.PeerBoot,.int .i64 a0.PeerTurn,.bool a0.Up,.int .i64 a0.Left,.int .i64 a0.Num,.int .i64 a0.Under.Kind,.int .i64 a0.Under.Entry.Addr,.int .i64 a0.Under.Entry.Len,.int .i64 a0.Under.Entry.Cost,.int .i64 a0.Under.Entry.Label,slD Qwg.enc a0.Told,.bool a0.All,.int .i64 a0.Got,.bool a0.Full,slD Qwi.enc a0.Heard,.int .i64 a0.Keep],.agg (hwC a1)] (dB r) []:=by
  refine Qq tOk (fn:=Tryz.f130) (c:=Qj Tryz.f130) rfl rfl ?_;unfold JC at h;(conv=>whnf);refine Qc tOk ?_;(conv=>whnf);obtain ⟨x1,hx1,h⟩:=Qa h;obtain ⟨x2,hx2,h⟩:=Qa h;refine QS tOk [.u 1 0 (dB x1) [],.u 8 0 (dB x2) []] 29 [] [0,1,3,7,15,31,63,7,255,511,1023,2047,4095,8191,4095,20479,53247,118783,262143,524287,1048575,2097151,4194303,2097151,10485759,27262975,60817407,134217727,268435455] [] ?_;(conv=>whnf);refine And.intro (QM (Qcw hx1) (by kernel_rfl)) ?_;(conv=>whnf);refine And.intro (Q1 rfl rfl rfl rfl (by intro c0; exact Qem (Qd hx2 c0))) ?_;(conv=>whnf);refine And.intro (by kernel_rfl) ?_;(conv=>whnf);refine Qz h (fun _ h=>?_) (fun _ h=>?_)
  · (conv=>whnf);obtain rfl:=sj_ h;exact lfP []
  · (conv=>whnf);refine QS tOk [] 26 [] [0,1,0,4,12,28,63,127,255,511,255,1279,3327,7423,16383,32767,65535,131071,65535,327679,851967,1900543,4194303,8388607,16777215,33554431] [] ?_;(conv=>whnf);refine And.intro (by kernel_rfl) ?_;(conv=>whnf);obtain rfl:=sj_ h;exact lfP []
noncomputable def Zx (a0:Qwj):Option (Qwj) :=
 bd (lp (σ:=List Qwi × Int) (β:=(Nat × (List Qwi))) (fun s1 =>
(if (decide (s1.2<((a0.Heard.length:Nat):Int)))=true then
 gd ((0:Int)≤s1.2∧s1.2<((s1.1.length:Nat):Int)) <|
 some (.inl (s1.1.set s1.2.toNat (⟨((s1.1.getD s1.2.toNat default).Entry),true⟩:Qwi),IntKind.i64.wrap (s1.2+1)))
else
 some (.inr (s1.1.length,s1.1)))) (a0.Heard,0)) fun x4 =>
(if ((decide (((x4.1:Nat):Int) > 0)) && (a0.Keep == 0))=true then
 some ({ a0 with Up:=false,Num:=0,Under:=(⟨0,(⟨0,0,0,0⟩:Qwg)⟩:Qwh),Told:=[],All:=false,Got:=0,Full:=false,Heard:=x4.2,Keep:=6 })
else
 some ({ a0 with Up:=false,Num:=0,Under:=(⟨0,(⟨0,0,0,0⟩:Qwg)⟩:Qwh),Told:=[],All:=false,Got:=0,Full:=false,Heard:=x4.2 }))
theorem Qb4 {a0:Qwj} {r:Qwj} (h:Zx a0=some r):EffC Tryz.prog 98 [.ref 9000 0 0] [(9000,.box 36 (heC a0 (.osl 9001 0 a0.Heard.length))),(9001,.arr 96 5 a0.Heard.length (rows Qwi.enc a0.Heard))] (.tup []) [(9000,.box 36 (dI a0.Name :: dI a0.Peer :: .d (slD Qwf.enc a0.Keys) :: dI a0.Boot :: .d (slD Qwg.enc a0.Want) :: dI a0.Turn :: dI a0.PeerBoot :: dI a0.PeerTurn :: dB r.Up :: dI a0.Left :: dI r.Num :: dI r.Under.Kind :: hnC r.Under.Entry ++ [.d (slD Qwg.enc r.Told),dB r.All,dI r.Got,dB r.Full,.osl 5001 0 r.Heard.length,dI r.Keep])),(5001,.arr 96 5 r.Heard.length (rows Qwi.enc r.Heard))]:=by
  refine Q7 tOk (fn:=Tryz.f98) (c:=Qj Tryz.f98) rfl rfl ?_;unfold Zx at h;(conv=>whnf);refine Qc tOk ?_;(conv=>whnf);obtain ⟨x4,hx4,h⟩:=Qa h;refine Zj tOk hx4 (fun s1=>⟨0,57,[(0,.ref 9000 0 0),(29,dI ((a0.Heard.length:Nat):Int)),(30,dI s1.2)],[],[(9000,.box 36 [dI a0.Name,dI a0.Peer,.d (slD Qwf.enc a0.Keys),dI a0.Boot,.d (slD Qwg.enc a0.Want),dI a0.Turn,dI a0.PeerBoot,dI a0.PeerTurn,dB false,dI a0.Left,dI 0,dI 0,dI 0,dI 0,dI 0,dI 0,.d (.nil),dB false,dI 0,dB false,.osl 9001 0 s1.1.length,dI a0.Keep]),(9001,.arr 96 5 s1.1.length (rows Qwi.enc s1.1))],[⟨[(0,.ref 9000 0 0)],[]⟩]⟩) ?_ ?_
  · exact leX []
  · clear hx4;intro s1 y2 g3 hy2;(conv=>whnf);refine Qc tOk ?_;(conv=>whnf);refine Qz g3 (fun _ g3=>?_) (fun _ g3=>?_)
    · (conv=>whnf);refine Qc tOk ?_;(conv=>whnf);refine gdI g3 (fun g3=>?_);(conv=>whnf);refine ⟨rows Qwi.enc (s1.1.set s1.2.toNat (⟨((s1.1.getD s1.2.toNat default).Entry),true⟩:Qwi)),Jg Qm7 rfl,?_⟩;(conv=>whnf);obtain rfl:=sj_ g3;exact ⟨_,rfl,leX []⟩
    · (conv=>whnf);obtain rfl:=sj_ g3;obtain rfl:=hy2 _ rfl;refine Qz h (fun _ h=>?_) (fun _ h=>?_)
      · (conv=>whnf);obtain rfl:=sj_ h;exact lfE [.s [(5001,9001),(9001,5001)]]
      · (conv=>whnf);obtain rfl:=sj_ h;exact lfE [.s [(5001,9001),(9001,5001)]]
noncomputable def Zk (a0:Qwi) (a1:Qwo):Option (Int) :=
 bd (Qr a0.Entry) fun x1 =>
 bd (Zy x1 a1) fun x2 =>
 some x2
theorem QbB {a0:Qwi} {a1:Qwo} {r:Int} (h:Zk a0 a1=some r):PureC Tryz.prog 169 [.agg (hnC a0.Entry ++ [dB a0.Stale]),.agg [dI a1.Addr,dI a1.Len]] (dI r) []:=by
  refine Qq tOk (fn:=Tryz.f169) (c:=Qj Tryz.f169) rfl rfl ?_;unfold Zk at h;(conv=>whnf);obtain ⟨x1,hx1,h⟩:=Qa h;obtain ⟨x2,hx2,h⟩:=Qa h;refine QS tOk [.u 2 0 (.agg [dI x1.Addr,dI x1.Len]) [],.u 4 0 (dI x2) []] 6 [] [0,1,3,0,15,31] [] ?_;(conv=>whnf);refine And.intro (QM (Qx hx1) (by kernel_rfl)) ?_;(conv=>whnf);refine And.intro (QM (QaF hx2) (by kernel_rfl)) ?_;(conv=>whnf);refine And.intro (by kernel_rfl) ?_;(conv=>whnf);obtain rfl:=sj_ h;exact lfP []
noncomputable def Qg (a0:(List Qwi)) (a1:Qwo):Option (Int × Bool) :=
 bd (lp (σ:=Int × Int) (β:=(Int)) (fun s1 =>
(if (decide (s1.2<s1.1))=true then
 gd ((0:Int)≤1) <|
 gd ((0:Int)≤IntKind.i64.wrap ((IntKind.u64.wrap (IntKind.i64.wrap (s1.2+s1.1)):Int).fdiv (2 ^ min (1:Int).toNat IntKind.u64.bits))∧IntKind.i64.wrap ((IntKind.u64.wrap (IntKind.i64.wrap (s1.2+s1.1)):Int).fdiv (2 ^ min (1:Int).toNat IntKind.u64.bits))<((a0.length:Nat):Int)) <|
 bd (Zk (⟨((a0.getD ((IntKind.i64.wrap ((IntKind.u64.wrap (IntKind.i64.wrap (s1.2+s1.1)):Int).fdiv (2 ^ min (1:Int).toNat IntKind.u64.bits))).toNat) default).Entry),(a0.getD ((IntKind.i64.wrap ((IntKind.u64.wrap (IntKind.i64.wrap (s1.2+s1.1)):Int).fdiv (2 ^ min (1:Int).toNat IntKind.u64.bits))).toNat) default).Stale⟩:Qwi) a1) fun x7 =>
(if (decide (x7<0))=true then
 some (.inl (s1.1,IntKind.i64.wrap ((IntKind.i64.wrap ((IntKind.u64.wrap (IntKind.i64.wrap (s1.2+s1.1)):Int).fdiv (2 ^ min (1:Int).toNat IntKind.u64.bits)))+1)))
else
 some (.inl (IntKind.i64.wrap ((IntKind.u64.wrap (IntKind.i64.wrap (s1.2+s1.1)):Int).fdiv (2 ^ min (1:Int).toNat IntKind.u64.bits)),s1.2)))
else
 some (.inr s1.2))) (((a0.length:Nat):Int),0)) fun x4 =>
 gd ((decide (x4<((a0.length:Nat):Int)))=true→((0:Int)≤x4∧x4<((a0.length:Nat):Int))) <|
 bd (gcall ((decide (x4<((a0.length:Nat):Int)))=true) (Zk (⟨((a0.getD x4.toNat default).Entry),(a0.getD x4.toNat default).Stale⟩:Qwi) a1)) fun x10 =>
 some (x4,((decide (x4<((a0.length:Nat):Int))) && (x10 == 0)))
theorem Zu {a0:(List Qwi)} {a1:Qwo} {r:Int × Bool} (h:Qg a0 a1=some r):PureC Tryz.prog 168 [.d (slD Qwi.enc a0),.agg [dI a1.Addr,dI a1.Len],.fn 169 []] (.tup [dI r.1,dB r.2]) []:=by
  refine Qq tOk (fn:=Tryz.f168) (c:=Qj Tryz.f168) rfl rfl ?_;unfold Qg at h;(conv=>whnf);refine Qc tOk ?_;(conv=>whnf);obtain ⟨x4,hx4,h⟩:=Qa h;refine Zj tOk hx4 (fun s1=>⟨0,49,[(0,.d (slD Qwi.enc a0)),(2,.fn 169 []),(4,.ref 4 0 0),(8,dI ((a0.length:Nat):Int)),(9,dI s1.2),(10,dI s1.1)],[],[(4,.box 112 [dI a1.Addr,dI a1.Len])],[]⟩) ?_ ?_
  · exact leX []
  · clear hx4;intro s1 y2 g3 hy2;(conv=>whnf);refine Qc tOk ?_;(conv=>whnf);refine Qz g3 (fun _ g3=>?_) (fun _ g3=>?_)
    · (conv=>whnf);refine gdI g3 (fun g3=>?_);(conv=>whnf);obtain ⟨g6,g3⟩:=Qf g3;obtain ⟨x7,hx7,g3⟩:=Qa g3;refine QS tOk [.u 6 0 (dI x7) []] 8 [] [0,0,0,6,14,0,63,127] [] ?_;(conv=>whnf);refine And.intro g6 ?_;clear g6;(conv=>whnf);refine And.intro (QM (QbB hx7) (by kernel_rfl)) ?_;(conv=>whnf);refine And.intro (by kernel_rfl) ?_;(conv=>whnf);refine Qz g3 (fun _ g3=>?_) (fun _ g3=>?_)
      · (conv=>whnf);obtain rfl:=sj_ g3;exact ⟨_,rfl,leX []⟩
      · (conv=>whnf);obtain rfl:=sj_ g3;exact ⟨_,rfl,leX []⟩
    · (conv=>whnf);obtain rfl:=sj_ g3;obtain rfl:=hy2 _ rfl;obtain ⟨g9,h⟩:=Qf h;obtain ⟨x10,hx10,h⟩:=Qa h;refine QS tOk [.u 11 0 (dI x10) []] 16 [] [0,0,0,6,14,30,30,30,222,478,30,2046,4094,8190,4095,32767] [] ?_;(conv=>whnf);refine And.intro g9 ?_;clear g9;(conv=>whnf);refine And.intro (Q1 rfl rfl rfl rfl (by intro c0; exact QbB (Qd hx10 c0))) ?_;(conv=>whnf);refine And.intro (by kernel_rfl) ?_;(conv=>whnf);obtain rfl:=sj_ h;exact lfP []
noncomputable def Zh (a0:Qwj) (a1:Qwo):Option (Int × Bool) :=
 bd (Qg a0.Heard a1) fun x1 =>
 some (x1.1,x1.2)
theorem QaB {a0:Qwj} {a1:Qwo} {r:Int × Bool} (h:Zh a0 a1=some r):PureC Tryz.prog 155 [.rp [.int .i64 a0.Name,.int .i64 a0.Peer,slD Qwf.enc a0.Keys,.int .i64 a0.Boot,slD Qwg.enc a0.Want,.int .i64 a0.Turn,.int .i64 a0.PeerBoot,.int .i64 a0.PeerTurn,.bool a0.Up,.int .i64 a0.Left,.int .i64 a0.Num,.int .i64 a0.Under.Kind,.int .i64 a0.Under.Entry.Addr,.int .i64 a0.Under.Entry.Len,.int .i64 a0.Under.Entry.Cost,.int .i64 a0.Under.Entry.Label,slD Qwg.enc a0.Told,.bool a0.All,.int .i64 a0.Got,.bool a0.Full,slD Qwi.enc a0.Heard,.int .i64 a0.Keep],.agg [dI a1.Addr,dI a1.Len]] (.tup [dI r.1,dB r.2]) []:=by
  refine Qq tOk (fn:=Tryz.f155) (c:=Qj Tryz.f155) rfl rfl ?_;unfold Zh at h;(conv=>whnf);obtain ⟨x1,hx1,h⟩:=Qa h;refine QS tOk [.u 5 0 (.tup [dI x1.1,dB x1.2]) []] 10 [] [0,1,3,7,0,31,63,63,255,511] [] ?_;(conv=>whnf);refine And.intro (QM (Zu hx1) (by kernel_rfl)) ?_;(conv=>whnf);refine And.intro (by kernel_rfl) ?_;(conv=>whnf);obtain rfl:=sj_ h;exact lfP []
noncomputable def J1 (a0:Qwi):Option (Bool) :=
 some a0.Stale
theorem QeI {a0:Qwi} {r:Bool} (h:J1 a0=some r):PureC Tryz.prog 166 [.agg (hnC a0.Entry ++ [dB a0.Stale])] (dB r) []:=by
  refine Qq tOk (fn:=Tryz.f166) (c:=Qj Tryz.f166) rfl rfl ?_;unfold J1 at h;(conv=>whnf);obtain rfl:=sj_ h;exact lfP []
noncomputable def Qt (a0:(List Qwi)):Option (Int) :=
 bd (lp (σ:=Int) (β:=(Int ⊕ Unit)) (fun s1 =>
(if (decide (s1<((a0.length:Nat):Int)))=true then
 gd ((0:Int)≤s1∧s1<((a0.length:Nat):Int)) <|
 bd (J1 (⟨((a0.getD s1.toNat default).Entry),(a0.getD s1.toNat default).Stale⟩:Qwi)) fun x6 =>
(if x6=true then
 some (.inr (.inl s1))
else
 some (.inl (IntKind.i64.wrap (s1+1))))
else
 some (.inr (.inr ())))) 0) fun x4 =>
(match x4 with
| .inl d7 =>
 some d7
| .inr d8 =>
 some (-1))
theorem Jn {a0:(List Qwi)} {r:Int} (h:Qt a0=some r):PureC Tryz.prog 122 [.d (slD Qwi.enc a0),.fn 166 []] (dI r) []:=by
  refine Qq tOk (fn:=Tryz.f122) (c:=Qj Tryz.f122) rfl rfl ?_;unfold Qt at h;(conv=>whnf);refine Qc tOk ?_;(conv=>whnf);obtain ⟨x4,hx4,h⟩:=Qa h;refine Zj tOk hx4 (fun s1=>⟨0,19,[(0,.d (slD Qwi.enc a0)),(1,.fn 166 []),(7,dI ((a0.length:Nat):Int)),(8,dI s1)],[],[],[]⟩) ?_ ?_
  · exact leX []
  · clear hx4;intro s1 y2 g3 hy2;(conv=>whnf);refine Qc tOk ?_;(conv=>whnf);refine Qz g3 (fun _ g3=>?_) (fun _ g3=>?_)
    · (conv=>whnf);refine Qc tOk ?_;(conv=>whnf);refine gdI g3 (fun g3=>?_);(conv=>whnf);obtain ⟨x6,hx6,g3⟩:=Qa g3;refine cC 0 (QeI hx6) ?_;clear hx6;(conv=>whnf);refine Qz g3 (fun _ g3=>?_) (fun _ g3=>?_)
      · (conv=>whnf);obtain rfl:=sj_ g3;obtain rfl:=hy2 _ rfl;obtain rfl:=sj_ h;exact lfP []
      · (conv=>whnf);obtain rfl:=sj_ g3;exact ⟨_,rfl,leX []⟩
    · (conv=>whnf);obtain rfl:=sj_ g3;obtain rfl:=hy2 _ rfl;obtain rfl:=sj_ h;exact lfP []
noncomputable def QL (a0:(List Qwi)) (a1:Int) (a2:Int):Option ((List Qwi)) :=
 gd (0≤a1∧a1≤a2∧a2≤a0.length) <|
 some (Qi4 a0 a1.toNat a2.toNat)
theorem JX {a0:(List Qwi)} {a1:Int} {a2:Int} {r:(List Qwi)} (h:QL a0 a1 a2=some r):EffC Tryz.prog 156 [.osl 9000 0 a0.length,dI a1,dI a2] [(9000,.arr 96 5 a0.length (rows Qwi.enc a0))] (.osl 5001 0 r.length) [(5001,.arr 96 5 r.length (rows Qwi.enc r))]:=by
  unfold QL at h;have L:LDel Tryz.prog ⟨fun x=>match x with | 45=>156 | _=>0,fun x=>match x with | 0=>0 | 3=>3 | 4=>4 | 22=>34 | 23=>96 | _=>0,fun x=>x⟩ 5 (.agg #[.int .i64 0,.int .i64 0,.int .i64 0,.int .i64 0,.bool false]):=⟨by kernel_rfl,⟨Tryz.f156.name,by kernel_rfl,by kernel_rfl⟩,by kernel_rfl,fun w=>by kernel_rfl,fun w=>by kernel_rfl,fun w=>by kernel_rfl,by kernel_rfl,fun w=>by kernel_rfl,fun w=>by kernel_rfl,fun w=>by kernel_rfl,by kernel_rfl,fun w=>by kernel_rfl,fun w=>by kernel_rfl,fun w=>by kernel_rfl,by kernel_rfl,fun w=>by kernel_rfl,fun w=>by kernel_rfl,fun w=>by kernel_rfl,⟨_,rfl,rfl⟩,fun w=>by kernel_rfl,fun w=>by kernel_rfl,by kernel_rfl,fun u hu=>List.all_eq_true.1 (by kernel_rfl:(List.all (Value.cells (.agg #[.int .i64 0,.int .i64 0,.int .i64 0,.int .i64 0,.bool false])).toList Value.oneCell')=true) u hu⟩;obtain ⟨g,h⟩:=Qf h;obtain rfl:=sj_ h;have k:=Qle (t:=96) (enc:=Qwi.enc) L (Qqg (fn:=Tryz.f156) (c:=Qj Tryz.f156) rfl rfl (by kernel_rfl)) (fun _=>rfl) (xs:=a0) (i:=a1.toNat) (j:=a2.toNat) (by omega) (by omega);rw [show ((a1.toNat:Nat):Int)=a1 by omega,show ((a2.toNat:Nat):Int)=a2 by omega] at k;exact k
noncomputable def QY (a0:(List Qwi)) (a1:Int) (a2:(List Qwi)):Option ((List Qwi)) :=
 gd ((0≤a1∧a1≤a0.length)∧0<a2.length∧(a0.length+a2.length)*(40+1)≤70368744177664) <|
 some (Qn9 a0 a1.toNat a2)
theorem Qb0 {a0:(List Qwi)} {a1:Int} {a2:(List Qwi)} {r:(List Qwi)} (h:QY a0 a1 a2=some r):EffC Tryz.prog 167 [.osl 9000 0 a0.length,dI a1,.osl 9001 0 a2.length] [(9000,.arr 96 5 a0.length (rows Qwi.enc a0)),(9001,.arr 96 5 a2.length (rows Qwi.enc a2))] (.osl 5001 0 r.length) [(5001,.arr 96 5 r.length (rows Qwi.enc r))]:=by
  unfold QY at h;have L:LIns Tryz.prog ⟨fun x=>match x with | 22=>167 | 29=>175 | 30=>176 | _=>0,fun x=>match x with | 0=>0 | 3=>3 | 4=>4 | 9=>96 | 24=>34 | _=>0,fun x=>x⟩ 5 40 (.agg #[.int .i64 0,.int .i64 0,.int .i64 0,.int .i64 0,.bool false]):=⟨by kernel_rfl,⟨Tryz.f167.name,by kernel_rfl,by kernel_rfl⟩,⟨Tryz.f175,by kernel_rfl,by kernel_rfl,by kernel_rfl,by kernel_rfl,by kernel_rfl⟩,by kernel_rfl,fun w=>by kernel_rfl,fun w=>by kernel_rfl,fun w=>by kernel_rfl,by kernel_rfl,fun w=>by kernel_rfl,fun w=>by kernel_rfl,fun w=>by kernel_rfl,by kernel_rfl,fun w=>by kernel_rfl,fun w=>by kernel_rfl,fun w=>by kernel_rfl,by kernel_rfl,fun w=>by kernel_rfl,fun w=>by kernel_rfl,fun w=>by kernel_rfl,⟨_,rfl,rfl,rfl,rfl⟩,fun w=>by kernel_rfl,by kernel_rfl,fun u hu=>List.all_eq_true.1 (by kernel_rfl:(List.all (Value.cells (.agg #[.int .i64 0,.int .i64 0,.int .i64 0,.int .i64 0,.bool false])).toList Value.oneCell')=true) u hu,by decide⟩;obtain ⟨g,h⟩:=Qf h;obtain rfl:=sj_ h;have k:=Qoa (t:=96) (enc:=Qwi.enc) L (Qqg (fn:=Tryz.f167) (c:=Qj Tryz.f167) rfl rfl (by kernel_rfl)) (fun _=>rfl) (xs:=a0) (ys:=a2) (i:=a1.toNat) (by omega) g.2.1 g.2.2;rw [show ((a1.toNat:Nat):Int)=a1 by omega] at k;exact k
noncomputable def JD (a0:Qwj) (a1:Qwg):Option (Bool × Qwj) :=
 bd (Qr a1) fun x1 =>
 bd (Zh a0 x1) fun x2 =>
(if x2.2=true then
 gd ((0:Int)≤x2.1∧x2.1<((a0.Heard.length:Nat):Int)) <|
 some (true,{ a0 with Heard:=a0.Heard.set x2.1.toNat (⟨a1,false⟩:Qwi) })
else
 bd (α:=(List Qwi) ⊕ Unit) ((if (((a0.Heard.length:Nat):Int) == 16)=true then
 bd (Qt a0.Heard) fun x7 =>
(if (decide (x7<0))=true then
 some (.inr ())
else
 bd (QL a0.Heard x7 (IntKind.i64.wrap (x7+1))) fun x8 =>
 some (.inl x8))
else
 some (.inl a0.Heard))) fun x4 =>
(match x4 with
| .inl d6 =>
 bd (Qr a1) fun x9 =>
 bd (Zh ({ a0 with Heard:=d6 }) x9) fun x10 =>
 bd (QY d6 x10.1 ([(⟨a1,false⟩:Qwi)]:List Qwi)) fun x11 =>
 some (true,{ a0 with Heard:=x11 })
| .inr d12 =>
 some (false,a0)))
theorem Qfr {a0:Qwj} {a1:Qwg} {r:Bool × Qwj} (h:JD a0 a1=some r):EffC Tryz.prog 154 [.ref 9000 0 0,.agg (hnC a1)] [(9000,.box 36 (heC a0 (.osl 9001 0 a0.Heard.length))),(9001,.arr 96 5 a0.Heard.length (rows Qwi.enc a0.Heard))] (dB r.1) [(9000,.box 36 (heC a0 (.osl 5001 0 r.2.Heard.length))),(5001,.arr 96 5 r.2.Heard.length (rows Qwi.enc r.2.Heard))]:=by
  refine Q7 tOk (fn:=Tryz.f154) (c:=Qj Tryz.f154) rfl rfl ?_;unfold JD at h;(conv=>whnf);refine Qc tOk ?_;(conv=>whnf);obtain ⟨x1,hx1,h⟩:=Qa h;refine cC 0 (Qx hx1) ?_;clear hx1;(conv=>whnf);obtain ⟨x2,hx2,h⟩:=Qa h;refine cC 0 (QaB hx2) ?_;clear hx2;(conv=>whnf);refine Qz h (fun _ h=>?_) (fun _ h=>?_)
  · (conv=>whnf);obtain ⟨g3,h⟩:=Qf h;refine QS tOk [] 8 [] [0,1,3,7,0,0,32,127] [255] ?_;(conv=>whnf);refine And.intro g3 ?_;clear g3;(conv=>whnf);refine And.intro (by kernel_rfl) ?_;(conv=>whnf);refine ⟨rows Qwi.enc (a0.Heard.set x2.1.toNat (⟨a1,false⟩:Qwi)),Jg Qm7 rfl,?_⟩;(conv=>whnf);obtain rfl:=sj_ h;exact lfE [.s [(5001,9001),(9001,5001)]]
  · (conv=>whnf);obtain ⟨x4,hx4,h⟩:=Qa h;refine JZ tOk (fun s5=>⟨0,69,[(0,.ref 9000 0 0),(3,.ref 3 0 0)],[],[(6001,.arr 96 5 s5.length (rows Qwi.enc s5)),(3,.box 31 (hnC a1)),(9000,.box 36 (heC a0 (.osl 6001 0 s5.length)))],[⟨[(0,.ref 9000 0 0)],[]⟩]⟩) (fun s5=>x4=.inl s5) ?_ ?_
    · (conv=>whnf);refine Qz hx4 (fun _ hx4=>?_) (fun _ hx4=>?_)
      · (conv=>whnf);obtain ⟨x7,hx7,hx4⟩:=Qa hx4;refine cC 0 (Jn hx7) ?_;clear hx7;(conv=>whnf);refine Qc tOk ?_;(conv=>whnf);refine Qz hx4 (fun _ hx4=>?_) (fun _ hx4=>?_)
        · (conv=>whnf);obtain rfl:=sj_ hx4;obtain rfl:=sj_ h;exact lfE [.s [(5001,9001),(9001,5001)]]
        · (conv=>whnf);obtain ⟨x8,hx8,hx4⟩:=Qa hx4;refine cE [(9000,9001)] 1000 (JX hx8) ?_;(conv=>whnf);obtain rfl:=sj_ hx4;exact ⟨_,rfl,leX []⟩
      · (conv=>whnf);obtain rfl:=sj_ hx4;exact ⟨_,rfl,leX [.s [(6001,9001),(9001,6001)]]⟩
    · intro d6 hdd6;subst hdd6;(conv=>whnf);obtain ⟨x9,hx9,h⟩:=Qa h;refine cC 0 (Qx hx9) ?_;clear hx9;(conv=>whnf);obtain ⟨x10,hx10,h⟩:=Qa h;refine cC 0 (QaB hx10) ?_;clear hx10;(conv=>whnf);obtain ⟨x11,hx11,h⟩:=Qa h;refine QaG tOk [.a 8 [] (.osl 65 0 (([(⟨a1,false⟩:Qwi)]:List Qwi).length)) [(65,.arr 96 5 (([(⟨a1,false⟩:Qwi)]:List Qwi).length) (rows Qwi.enc ([(⟨a1,false⟩:Qwi)]:List Qwi)))],.e 9 [(6001,.arr 96 5 d6.length (rows Qwi.enc d6)),(65,.arr 96 5 (([(⟨a1,false⟩:Qwi)]:List Qwi).length) (rows Qwi.enc ([(⟨a1,false⟩:Qwi)]:List Qwi)))] (.osl 7001 0 x11.length) [(7001,.arr 96 5 x11.length (rows Qwi.enc x11))] []] 12 [] [0,0,2,6,14,0,0,64,192,510,1023,2047] [4095] [6001] ?_;(conv=>whnf);refine And.intro (by (conv=>whnf); exact Qj1 (enc:=Qwi.enc) ([(⟨a1,false⟩:Qwi)]:List Qwi) ⟨rfl,rfl⟩) ?_;(conv=>whnf);refine And.intro (eD [(9000,6001),(9001,65)] 2000 (Qb0 hx11)) ?_;(conv=>whnf);refine And.intro (by kernel_rfl) ?_;(conv=>whnf);obtain rfl:=sj_ h;exact lfE [.s [(5001,7001),(7001,5001)]]
noncomputable def Za (a0:Qwi):Option (Bool) :=
 some a0.Stale
theorem QbC {a0:Qwi} {r:Bool} (h:Za a0=some r):PureC Tryz.prog 137 [.agg (hnC a0.Entry ++ [dB a0.Stale])] (dB r) []:=by
  refine Qq tOk (fn:=Tryz.f137) (c:=Qj Tryz.f137) rfl rfl ?_;unfold Za at h;(conv=>whnf);obtain rfl:=sj_ h;exact lfP []
noncomputable def Qs (a0:(List Qwi)):Option (Int) :=
 bd (lp (σ:=Int) (β:=(Int ⊕ Unit)) (fun s1 =>
(if (decide (s1<((a0.length:Nat):Int)))=true then
 gd ((0:Int)≤s1∧s1<((a0.length:Nat):Int)) <|
 bd (Za (⟨((a0.getD s1.toNat default).Entry),(a0.getD s1.toNat default).Stale⟩:Qwi)) fun x6 =>
(if x6=true then
 some (.inr (.inl s1))
else
 some (.inl (IntKind.i64.wrap (s1+1))))
else
 some (.inr (.inr ())))) 0) fun x4 =>
(match x4 with
| .inl d7 =>
 some d7
| .inr d8 =>
 some (-1))
theorem Z7 {a0:(List Qwi)} {r:Int} (h:Qs a0=some r):PureC Tryz.prog 122 [.d (slD Qwi.enc a0),.fn 137 []] (dI r) []:=by
  refine Qq tOk (fn:=Tryz.f122) (c:=Qj Tryz.f122) rfl rfl ?_;unfold Qs at h;(conv=>whnf);refine Qc tOk ?_;(conv=>whnf);obtain ⟨x4,hx4,h⟩:=Qa h;refine Zj tOk hx4 (fun s1=>⟨0,19,[(0,.d (slD Qwi.enc a0)),(1,.fn 137 []),(7,dI ((a0.length:Nat):Int)),(8,dI s1)],[],[],[]⟩) ?_ ?_
  · exact leX []
  · clear hx4;intro s1 y2 g3 hy2;(conv=>whnf);refine Qc tOk ?_;(conv=>whnf);refine Qz g3 (fun _ g3=>?_) (fun _ g3=>?_)
    · (conv=>whnf);refine Qc tOk ?_;(conv=>whnf);refine gdI g3 (fun g3=>?_);(conv=>whnf);obtain ⟨x6,hx6,g3⟩:=Qa g3;refine cC 0 (QbC hx6) ?_;clear hx6;(conv=>whnf);refine Qz g3 (fun _ g3=>?_) (fun _ g3=>?_)
      · (conv=>whnf);obtain rfl:=sj_ g3;obtain rfl:=hy2 _ rfl;obtain rfl:=sj_ h;exact lfP []
      · (conv=>whnf);obtain rfl:=sj_ g3;exact ⟨_,rfl,leX []⟩
    · (conv=>whnf);obtain rfl:=sj_ g3;obtain rfl:=hy2 _ rfl;obtain rfl:=sj_ h;exact lfP []
noncomputable def Qp (a0:(List Qwi)):Option ((List Qwi)) :=
 bd (Qs a0) fun x1 =>
(if (x1 == (-1))=true then
 some a0
else
 bd (lp (σ:=List Qwi × Int × Int) (β:=(Nat × Int × (List Qwi))) (fun s2 =>
(if (decide (s2.2.2<((s2.1.length:Nat):Int)))=true then
 gd ((0:Int)≤s2.2.2∧s2.2.2<((s2.1.length:Nat):Int)) <|
 bd (Za (⟨((s2.1.getD s2.2.2.toNat default).Entry),(s2.1.getD s2.2.2.toNat default).Stale⟩:Qwi)) fun x7 =>
(if (!x7)=true then
 gd ((0:Int)≤s2.2.1∧s2.2.1<((s2.1.length:Nat):Int)) <|
 bd (some (s2.1.set s2.2.1.toNat (⟨((s2.1.getD s2.2.2.toNat default).Entry),(s2.1.getD s2.2.2.toNat default).Stale⟩:Qwi))) fun x9 =>
 some (.inl (x9,IntKind.i64.wrap (s2.2.1+1),IntKind.i64.wrap (s2.2.2+1)))
else
 some (.inl (s2.1,s2.2.1,IntKind.i64.wrap (s2.2.2+1))))
else
 some (.inr (s2.1.length,s2.2.1,s2.1)))) (a0,x1,IntKind.i64.wrap (x1+1))) fun x5 =>
 gd ((0:Int)≤x5.2.1∧x5.2.1≤((x5.1:Nat):Int)∧((x5.1:Nat):Int)≤((x5.1:Nat):Int)) <|
 gd ((0:Int)≤(0:Int)∧(0:Int)≤x5.2.1∧x5.2.1≤((x5.1:Nat):Int)) <|
 some ((Qpk x5.2.2 x5.2.1.toNat (QcL ((x5.1:Nat):Int) x5.2.1)).take x5.2.1.toNat))
theorem ZU {a0:(List Qwi)} {r:(List Qwi)} (h:Qp a0=some r):EffC Tryz.prog 108 [.osl 9000 0 a0.length,.fn 137 []] [(9000,.arr 96 5 a0.length (rows Qwi.enc a0))] (.osl 5001 0 r.length) [(5001,.arr 96 5 r.length (rows Qwi.enc r))]:=by
  refine Q7 tOk (fn:=Tryz.f108) (c:=Qj Tryz.f108) rfl rfl ?_;unfold Qp at h;(conv=>whnf);obtain ⟨x1,hx1,h⟩:=Qa h;refine cC 0 (Z7 hx1) ?_;clear hx1;(conv=>whnf);refine Qc tOk ?_;(conv=>whnf);refine Qz h (fun _ h=>?_) (fun _ h=>?_)
  · (conv=>whnf);obtain rfl:=sj_ h;exact lfE [.s [(5001,9000),(9000,5001)]]
  · (conv=>whnf);refine Qc tOk ?_;(conv=>whnf);obtain ⟨x5,hx5,h⟩:=Qa h;refine Zj tOk hx5 (fun s2=>⟨0,42,[(0,.osl 9000 0 s2.1.length),(1,.fn 137 []),(5,dI s2.2.1),(6,dI s2.2.2)],[],[(9000,.arr 96 5 s2.1.length (rows Qwi.enc s2.1))],[⟨[],[]⟩]⟩) ?_ ?_
    · exact leX []
    · clear hx5;intro s2 y3 g4 hy3;(conv=>whnf);refine Qc tOk ?_;(conv=>whnf);refine Qz g4 (fun _ g4=>?_) (fun _ g4=>?_)
      · (conv=>whnf);refine Qc tOk ?_;(conv=>whnf);refine gdI g4 (fun g4=>?_);(conv=>whnf);obtain ⟨x7,hx7,g4⟩:=Qa g4;refine cC 0 (QbC hx7) ?_;clear hx7;(conv=>whnf);refine Qz g4 (fun _ g4=>?_) (fun _ g4=>?_)
        · (conv=>whnf);refine gdI g4 (fun g4=>?_);(conv=>whnf);obtain ⟨x9,hx9,hlx9,g4⟩:=Ql6 g4;refine Qu4 (enc:=Qwi.enc) hx9 ?_;(conv=>whnf);obtain rfl:=sj_ g4;exact ⟨_,rfl,leX []⟩
        · (conv=>whnf);obtain rfl:=sj_ g4;exact ⟨_,rfl,leX []⟩
      · (conv=>whnf);obtain rfl:=sj_ g4;obtain rfl:=hy3 _ rfl;dsimp only at h;obtain ⟨g11,h⟩:=Qf h;refine And.intro g11 ?_;(conv=>whnf);refine ⟨rows Qwi.enc (Qpk (s2.1.length,s2.2.1,s2.1).2.2 (s2.1.length,s2.2.1,s2.1).2.1.toNat (QcL (((s2.1.length,s2.2.1,s2.1).1:Nat):Int) (s2.1.length,s2.2.1,s2.1).2.1)),Qlf Qm7 rfl,?_⟩;(conv=>whnf);obtain ⟨g12,h⟩:=Qf h;refine And.intro g12 ?_;(conv=>whnf);obtain rfl:=sj_ h;exact lfE [.c 4,.s [(5001,9000),(9000,5001)]]
noncomputable def Q2 (a0:Qwj):Option (Qwj) :=
 bd (Qp a0.Heard) fun x1 =>
 some ({ a0 with Heard:=x1 })
theorem Qb5 {a0:Qwj} {r:Qwj} (h:Q2 a0=some r):EffC Tryz.prog 97 [.ref 9000 0 0] [(9000,.box 36 (heC a0 (.osl 9001 0 a0.Heard.length))),(9001,.arr 96 5 a0.Heard.length (rows Qwi.enc a0.Heard))] (.tup []) [(9000,.box 36 (heC a0 (.osl 5001 0 r.Heard.length))),(5001,.arr 96 5 r.Heard.length (rows Qwi.enc r.Heard))]:=by
  refine Q7 tOk (fn:=Tryz.f97) (c:=Qj Tryz.f97) rfl rfl ?_;unfold Q2 at h;(conv=>whnf);obtain ⟨x1,hx1,h⟩:=Qa h;refine cE [(9000,9001)] 1000 (ZU hx1) ?_;(conv=>whnf);obtain rfl:=sj_ h;exact lfE [.s [(5001,6001),(6001,5001)]]
noncomputable def ZV (a0:Qwj) (a1:Qwh):Option (Bool × Qwj) :=
(if (a1.Kind == 1)=true then
 bd (JD a0 a1.Entry) fun x1 =>
 some (x1.1,{ a0 with Heard:=x1.2.Heard })
else
(if (a1.Kind == 2)=true then
 bd (Qr a1.Entry) fun x2 =>
 bd (Zh a0 x2) fun x3 =>
(if x3.2=true then
 bd (QL a0.Heard x3.1 (IntKind.i64.wrap (x3.1+1))) fun x4 =>
 some (true,{ a0 with Heard:=x4 })
else
 some (true,a0))
else
(if (a1.Kind == 3)=true then
 bd (Q2 a0) fun x5 =>
 some (true,{ a0 with Full:=true,Heard:=x5.Heard })
else
 some (true,a0))))
theorem Qf7 {a0:Qwj} {a1:Qwh} {r:Bool × Qwj} (h:ZV a0 a1=some r):EffC Tryz.prog 132 [.ref 9000 0 0,.agg (dI a1.Kind :: hnC a1.Entry)] [(9000,.box 36 (heC a0 (.osl 9001 0 a0.Heard.length))),(9001,.arr 96 5 a0.Heard.length (rows Qwi.enc a0.Heard))] (dB r.1) [(9000,.box 36 (dI a0.Name :: dI a0.Peer :: .d (slD Qwf.enc a0.Keys) :: dI a0.Boot :: .d (slD Qwg.enc a0.Want) :: dI a0.Turn :: dI a0.PeerBoot :: dI a0.PeerTurn :: dB a0.Up :: dI a0.Left :: dI a0.Num :: dI a0.Under.Kind :: hnC a0.Under.Entry ++ [.d (slD Qwg.enc a0.Told),dB a0.All,dI a0.Got,dB r.2.Full,.osl 5001 0 r.2.Heard.length,dI a0.Keep])),(5001,.arr 96 5 r.2.Heard.length (rows Qwi.enc r.2.Heard))]:=by
  refine Q7 tOk (fn:=Tryz.f132) (c:=Qj Tryz.f132) rfl rfl ?_;unfold ZV at h;(conv=>whnf);refine Qc tOk ?_;(conv=>whnf);refine Qz h (fun _ h=>?_) (fun _ h=>?_)
  · (conv=>whnf);obtain ⟨x1,hx1,h⟩:=Qa h;refine cE [(9000,9000),(9001,9001)] 1000 (Qfr hx1) ?_;(conv=>whnf);obtain rfl:=sj_ h;exact lfE [.s [(5001,6001),(6001,5001)]]
  · (conv=>whnf);refine Qz h (fun _ h=>?_) (fun _ h=>?_)
    · (conv=>whnf);obtain ⟨x2,hx2,h⟩:=Qa h;refine cC 0 (Qx hx2) ?_;clear hx2;(conv=>whnf);obtain ⟨x3,hx3,h⟩:=Qa h;refine cC 0 (QaB hx3) ?_;clear hx3;(conv=>whnf);refine Qz h (fun _ h=>?_) (fun _ h=>?_)
      · (conv=>whnf);obtain ⟨x4,hx4,h⟩:=Qa h;refine cE [(9000,9001)] 1000 (JX hx4) ?_;(conv=>whnf);obtain rfl:=sj_ h;exact lfE [.s [(5001,6001),(6001,5001)]]
      · (conv=>whnf);obtain rfl:=sj_ h;exact lfE [.s [(5001,9001),(9001,5001)]]
    · (conv=>whnf);refine Qz h (fun _ h=>?_) (fun _ h=>?_)
      · (conv=>whnf);obtain ⟨x5,hx5,h⟩:=Qa h;refine cE [(9000,9000),(9001,9001)] 1000 (Qb5 hx5) ?_;(conv=>whnf);obtain rfl:=sj_ h;exact lfE [.s [(5001,6001),(6001,5001)]]
      · (conv=>whnf);obtain rfl:=sj_ h;exact lfE [.s [(5001,9001),(9001,5001)]]
noncomputable def Ze (a0:Qwj):Option (Qwj) :=
 bd (α:=Bool) ((if (a0.Under.Kind == 3)=true then
 some true
else
 some a0.All)) fun x1 =>
 bd (Qb3 a0.Told a0.Under) fun x4 =>
 some ({ a0 with Under:=(⟨0,(⟨0,0,0,0⟩:Qwg)⟩:Qwh),Told:=x4,All:=x1 })
theorem Qdn {a0:Qwj} {r:Qwj} (h:Ze a0=some r):EffC Tryz.prog 131 [.ref 9000 0 0] [(9000,.box 36 (heC a0 (.osl 9001 0 a0.Heard.length))),(9001,.arr 96 5 a0.Heard.length (rows Qwi.enc a0.Heard))] (.tup []) [(9000,.box 36 (dI a0.Name :: dI a0.Peer :: .d (slD Qwf.enc a0.Keys) :: dI a0.Boot :: .d (slD Qwg.enc a0.Want) :: dI a0.Turn :: dI a0.PeerBoot :: dI a0.PeerTurn :: dB a0.Up :: dI a0.Left :: dI a0.Num :: dI r.Under.Kind :: hnC r.Under.Entry ++ [.d (slD Qwg.enc r.Told),dB r.All,dI a0.Got,dB a0.Full,.osl 5001 0 r.Heard.length,dI a0.Keep])),(5001,.arr 96 5 r.Heard.length (rows Qwi.enc r.Heard))]:=by
  refine Q7 tOk (fn:=Tryz.f131) (c:=Qj Tryz.f131) rfl rfl ?_;unfold Ze at h;(conv=>whnf);obtain ⟨x1,hx1,h⟩:=Qa h;refine JZ tOk (fun s2=>⟨0,27,[(0,.ref 9000 0 0)],[],[(9000,.box 36 (dI a0.Name :: dI a0.Peer :: .d (slD Qwf.enc a0.Keys) :: dI a0.Boot :: .d (slD Qwg.enc a0.Want) :: dI a0.Turn :: dI a0.PeerBoot :: dI a0.PeerTurn :: dB a0.Up :: dI a0.Left :: dI a0.Num :: dI a0.Under.Kind :: hnC a0.Under.Entry ++ [.d (slD Qwg.enc a0.Told),dB s2,dI a0.Got,dB a0.Full,.osl 9001 0 a0.Heard.length,dI a0.Keep])),(9001,.arr 96 5 a0.Heard.length (rows Qwi.enc a0.Heard))],[⟨[(0,.ref 9000 0 0)],[]⟩]⟩) (fun s2=>x1=s2) ?_ ?_
  · (conv=>whnf);refine Qz hx1 (fun _ hx1=>?_) (fun _ hx1=>?_)
    · (conv=>whnf);obtain rfl:=sj_ hx1;exact ⟨_,rfl,leX []⟩
    · (conv=>whnf);obtain rfl:=sj_ hx1;exact ⟨_,rfl,leX []⟩
  · rintro _ rfl;(conv=>whnf);obtain ⟨x4,hx4,h⟩:=Qa h;refine QS tOk [.u 9 1000 (.osl 5001 0 x4.length) [⟨5001,31,4,x4.length,rows Qwg.enc x4⟩]] 12 [] [0,0,2,6,14,0,32,96,224,510,1023,2047] [4095] ?_;(conv=>whnf);refine And.intro (QM (Qkc hx4) (by kernel_rfl)) ?_;(conv=>whnf);refine And.intro (by kernel_rfl) ?_;(conv=>whnf);obtain rfl:=sj_ h;exact lfE [.f [6001],.s [(5001,9001),(9001,5001)]]
noncomputable def ZW (a0:Qwj) (a1:Qwl):Option (Qwj) :=
 bd (JC a0 a1) fun x1 =>
(if (!x1)=true then
 some a0
else
 bd (α:=List Qwi × Int × Int × Int × Int × Int × Int × List Qwg × Bool × Int × Bool × Int × Int × Bool) ((if (decide (a1.Boot > a0.PeerBoot))=true then
 bd (Zx a0) fun x5 =>
 some (x5.Heard,x5.Num,x5.Under.Kind,x5.Under.Entry.Addr,x5.Under.Entry.Len,x5.Under.Entry.Cost,x5.Under.Entry.Label,x5.Told,x5.All,x5.Got,x5.Full,x5.Keep,a1.Boot,x5.Up)
else
 some (a0.Heard,a0.Num,a0.Under.Kind,a0.Under.Entry.Addr,a0.Under.Entry.Len,a0.Under.Entry.Cost,a0.Under.Entry.Label,a0.Told,a0.All,a0.Got,a0.Full,a0.Keep,a0.PeerBoot,a0.Up))) fun x2 =>
(if (!(a1.Yours == a0.Boot))=true then
 some ({ a0 with PeerBoot:=x2.2.2.2.2.2.2.2.2.2.2.2.2.1,PeerTurn:=a1.Turn,Up:=(a1.Yours == a0.Boot),Left:=4,Num:=x2.2.1,Under:=(⟨x2.2.2.1,(⟨x2.2.2.2.1,x2.2.2.2.2.1,x2.2.2.2.2.2.1,x2.2.2.2.2.2.2.1⟩:Qwg)⟩:Qwh),Told:=x2.2.2.2.2.2.2.2.1,All:=x2.2.2.2.2.2.2.2.2.1,Got:=x2.2.2.2.2.2.2.2.2.2.1,Full:=x2.2.2.2.2.2.2.2.2.2.2.1,Heard:=x2.1,Keep:=x2.2.2.2.2.2.2.2.2.2.2.2.1 })
else
 bd (α:=List Qwi × Int × Int × Int × Int × Int × List Qwg × Bool) ((if ((x2.2.2.1 != 0) && (a1.Heard == x2.2.1))=true then
 bd (Ze ({ a0 with PeerBoot:=x2.2.2.2.2.2.2.2.2.2.2.2.2.1,PeerTurn:=a1.Turn,Up:=(a1.Yours == a0.Boot),Left:=4,Num:=x2.2.1,Under:=(⟨x2.2.2.1,(⟨x2.2.2.2.1,x2.2.2.2.2.1,x2.2.2.2.2.2.1,x2.2.2.2.2.2.2.1⟩:Qwg)⟩:Qwh),Told:=x2.2.2.2.2.2.2.2.1,All:=x2.2.2.2.2.2.2.2.2.1,Got:=x2.2.2.2.2.2.2.2.2.2.1,Full:=x2.2.2.2.2.2.2.2.2.2.2.1,Heard:=x2.1,Keep:=x2.2.2.2.2.2.2.2.2.2.2.2.1 })) fun x9 =>
 some (x9.Heard,x9.Under.Kind,x9.Under.Entry.Addr,x9.Under.Entry.Len,x9.Under.Entry.Cost,x9.Under.Entry.Label,x9.Told,x9.All)
else
 some (x2.1,x2.2.2.1,x2.2.2.2.1,x2.2.2.2.2.1,x2.2.2.2.2.2.1,x2.2.2.2.2.2.2.1,x2.2.2.2.2.2.2.2.1,x2.2.2.2.2.2.2.2.2.1))) fun x6 =>
 bd (α:=List Qwi × Int × Bool) ((if ((a1.Change.Kind != 0) && (a1.Num == (IntKind.i64.wrap (x2.2.2.2.2.2.2.2.2.2.1+1))))=true then
 bd (ZV ({ a0 with PeerBoot:=x2.2.2.2.2.2.2.2.2.2.2.2.2.1,PeerTurn:=a1.Turn,Up:=(a1.Yours == a0.Boot),Left:=4,Num:=x2.2.1,Under:=(⟨x6.2.1,(⟨x6.2.2.1,x6.2.2.2.1,x6.2.2.2.2.1,x6.2.2.2.2.2.1⟩:Qwg)⟩:Qwh),Told:=x6.2.2.2.2.2.2.1,All:=x6.2.2.2.2.2.2.2,Got:=x2.2.2.2.2.2.2.2.2.2.1,Full:=x2.2.2.2.2.2.2.2.2.2.2.1,Heard:=x6.1,Keep:=x2.2.2.2.2.2.2.2.2.2.2.2.1 }) a1.Change) fun x14 =>
(if (((a1.Change.Kind != 0) && (a1.Num == (IntKind.i64.wrap (x2.2.2.2.2.2.2.2.2.2.1+1)))) && x14.1)=true then
 some (x14.2.Heard,a1.Num,x14.2.Full)
else
 some (x14.2.Heard,x2.2.2.2.2.2.2.2.2.2.1,x14.2.Full))
else
(if (((a1.Change.Kind != 0) && (a1.Num == (IntKind.i64.wrap (x2.2.2.2.2.2.2.2.2.2.1+1)))) && false)=true then
 some (x6.1,a1.Num,x2.2.2.2.2.2.2.2.2.2.2.1)
else
 some (x6.1,x2.2.2.2.2.2.2.2.2.2.1,x2.2.2.2.2.2.2.2.2.2.2.1)))) fun x10 =>
 bd (Jj x10.1) fun x15 =>
(if (!x15)=true then
 some ({ a0 with PeerBoot:=x2.2.2.2.2.2.2.2.2.2.2.2.2.1,PeerTurn:=a1.Turn,Up:=(a1.Yours == a0.Boot),Left:=4,Num:=x2.2.1,Under:=(⟨x6.2.1,(⟨x6.2.2.1,x6.2.2.2.1,x6.2.2.2.2.1,x6.2.2.2.2.2.1⟩:Qwg)⟩:Qwh),Told:=x6.2.2.2.2.2.2.1,All:=x6.2.2.2.2.2.2.2,Got:=x10.2.1,Full:=x10.2.2,Heard:=x10.1,Keep:=0 })
else
 some ({ a0 with PeerBoot:=x2.2.2.2.2.2.2.2.2.2.2.2.2.1,PeerTurn:=a1.Turn,Up:=(a1.Yours == a0.Boot),Left:=4,Num:=x2.2.1,Under:=(⟨x6.2.1,(⟨x6.2.2.1,x6.2.2.2.1,x6.2.2.2.2.1,x6.2.2.2.2.2.1⟩:Qwg)⟩:Qwh),Told:=x6.2.2.2.2.2.2.1,All:=x6.2.2.2.2.2.2.2,Got:=x10.2.1,Full:=x10.2.2,Heard:=x10.1,Keep:=x2.2.2.2.2.2.2.2.2.2.2.2.1 }))))
theorem Qdq {a0:Qwj} {a1:Qwl} {r:Qwj} (h:ZW a0 a1=some r):EffC Tryz.prog 87 [.ref 9000 0 0,.agg (hwC a1)] [(9000,.box 36 (heC a0 (.osl 9001 0 a0.Heard.length))),(9001,.arr 96 5 a0.Heard.length (rows Qwi.enc a0.Heard))] (.tup []) [(9000,.box 36 (dI a0.Name :: dI a0.Peer :: .d (slD Qwf.enc a0.Keys) :: dI a0.Boot :: .d (slD Qwg.enc a0.Want) :: dI a0.Turn :: dI r.PeerBoot :: dI r.PeerTurn :: dB r.Up :: dI r.Left :: dI r.Num :: dI r.Under.Kind :: hnC r.Under.Entry ++ [.d (slD Qwg.enc r.Told),dB r.All,dI r.Got,dB r.Full,.osl 5001 0 r.Heard.length,dI r.Keep])),(5001,.arr 96 5 r.Heard.length (rows Qwi.enc r.Heard))]:=by
  refine Q7 tOk (fn:=Tryz.f87) (c:=Qj Tryz.f87) rfl rfl ?_;unfold ZW at h;(conv=>whnf);refine Qc tOk ?_;(conv=>whnf);obtain ⟨x1,hx1,h⟩:=Qa h;refine cC 0 (Qfq hx1) ?_;clear hx1;(conv=>whnf);refine Qz h (fun _ h=>?_) (fun _ h=>?_)
  · (conv=>whnf);obtain rfl:=sj_ h;exact lfE [.s [(5001,9001),(9001,5001)]]
  · (conv=>whnf);obtain ⟨x2,hx2,h⟩:=Qa h;refine JZ tOk (fun s3=>⟨0,96,[(0,.ref 9000 0 0),(3,.ref 3 0 0)],[],[(6001,.arr 96 5 s3.1.length (rows Qwi.enc s3.1)),(3,.box 42 (hwC a1)),(9000,.box 36 [dI a0.Name,dI a0.Peer,.d (slD Qwf.enc a0.Keys),dI a0.Boot,.d (slD Qwg.enc a0.Want),dI a0.Turn,dI s3.2.2.2.2.2.2.2.2.2.2.2.2.1,dI a0.PeerTurn,dB s3.2.2.2.2.2.2.2.2.2.2.2.2.2,dI a0.Left,dI s3.2.1,dI s3.2.2.1,dI s3.2.2.2.1,dI s3.2.2.2.2.1,dI s3.2.2.2.2.2.1,dI s3.2.2.2.2.2.2.1,.d (slD Qwg.enc s3.2.2.2.2.2.2.2.1),dB s3.2.2.2.2.2.2.2.2.1,dI s3.2.2.2.2.2.2.2.2.2.1,dB s3.2.2.2.2.2.2.2.2.2.2.1,.osl 6001 0 s3.1.length,dI s3.2.2.2.2.2.2.2.2.2.2.2.1])],[⟨[(0,.ref 9000 0 0)],[]⟩]⟩) (fun s3=>x2=s3) ?_ ?_
    · (conv=>whnf);refine QS tOk [] 7 [] [0,1,0,4,12,28,63] [] ?_;(conv=>whnf);refine And.intro (by kernel_rfl) ?_;(conv=>whnf);refine Qz hx2 (fun _ hx2=>?_) (fun _ hx2=>?_)
      · (conv=>whnf);obtain ⟨x5,hx5,hx2⟩:=Qa hx2;refine cE [(9000,9000),(9001,9001)] 1000 (Qb4 hx5) ?_;(conv=>whnf);obtain rfl:=sj_ hx2;exact ⟨_,rfl,leX []⟩
      · (conv=>whnf);obtain rfl:=sj_ hx2;exact ⟨_,rfl,leX [.s [(6001,9001),(9001,6001)]]⟩
    · rintro _ rfl;(conv=>whnf);refine QaG tOk [.l 10 [(9000,.box 36 [dI a0.Name,dI a0.Peer,.d (slD Qwf.enc a0.Keys),dI a0.Boot,.d (slD Qwg.enc a0.Want),dI a0.Turn,dI x2.2.2.2.2.2.2.2.2.2.2.2.2.1,dI a0.PeerTurn,dB x2.2.2.2.2.2.2.2.2.2.2.2.2.2,dI a0.Left,dI x2.2.1,dI x2.2.2.1,dI x2.2.2.2.1,dI x2.2.2.2.2.1,dI x2.2.2.2.2.2.1,dI x2.2.2.2.2.2.2.1,.d (slD Qwg.enc x2.2.2.2.2.2.2.2.1),dB x2.2.2.2.2.2.2.2.2.1,dI x2.2.2.2.2.2.2.2.2.2.1,dB x2.2.2.2.2.2.2.2.2.2.2.1,.osl 6001 0 x2.1.length,dI x2.2.2.2.2.2.2.2.2.2.2.2.1])] (dI a0.Boot),.a 14 [(9000,.box 36 [dI a0.Name,dI a0.Peer,.d (slD Qwf.enc a0.Keys),dI a0.Boot,.d (slD Qwg.enc a0.Want),dI a0.Turn,dI x2.2.2.2.2.2.2.2.2.2.2.2.2.1,dI a0.PeerTurn,dB x2.2.2.2.2.2.2.2.2.2.2.2.2.2,dI a0.Left,dI x2.2.1,dI x2.2.2.1,dI x2.2.2.2.1,dI x2.2.2.2.2.1,dI x2.2.2.2.2.2.1,dI x2.2.2.2.2.2.2.1,.d (slD Qwg.enc x2.2.2.2.2.2.2.2.1),dB x2.2.2.2.2.2.2.2.2.1,dI x2.2.2.2.2.2.2.2.2.2.1,dB x2.2.2.2.2.2.2.2.2.2.2.1,.osl 6001 0 x2.1.length,dI x2.2.2.2.2.2.2.2.2.2.2.2.1])] (.any) [(9000,.box 36 [dI a0.Name,dI a0.Peer,.d (slD Qwf.enc a0.Keys),dI a0.Boot,.d (slD Qwg.enc a0.Want),dI a0.Turn,dI x2.2.2.2.2.2.2.2.2.2.2.2.2.1,dI a1.Turn,dB x2.2.2.2.2.2.2.2.2.2.2.2.2.2,dI a0.Left,dI x2.2.1,dI x2.2.2.1,dI x2.2.2.2.1,dI x2.2.2.2.2.1,dI x2.2.2.2.2.2.1,dI x2.2.2.2.2.2.2.1,.d (slD Qwg.enc x2.2.2.2.2.2.2.2.1),dB x2.2.2.2.2.2.2.2.2.1,dI x2.2.2.2.2.2.2.2.2.2.1,dB x2.2.2.2.2.2.2.2.2.2.2.1,.osl 6001 0 x2.1.length,dI x2.2.2.2.2.2.2.2.2.2.2.2.1])],.a 17 [(9000,.box 36 [dI a0.Name,dI a0.Peer,.d (slD Qwf.enc a0.Keys),dI a0.Boot,.d (slD Qwg.enc a0.Want),dI a0.Turn,dI x2.2.2.2.2.2.2.2.2.2.2.2.2.1,dI a1.Turn,dB x2.2.2.2.2.2.2.2.2.2.2.2.2.2,dI a0.Left,dI x2.2.1,dI x2.2.2.1,dI x2.2.2.2.1,dI x2.2.2.2.2.1,dI x2.2.2.2.2.2.1,dI x2.2.2.2.2.2.2.1,.d (slD Qwg.enc x2.2.2.2.2.2.2.2.1),dB x2.2.2.2.2.2.2.2.2.1,dI x2.2.2.2.2.2.2.2.2.2.1,dB x2.2.2.2.2.2.2.2.2.2.2.1,.osl 6001 0 x2.1.length,dI x2.2.2.2.2.2.2.2.2.2.2.2.1])] (.any) [(9000,.box 36 [dI a0.Name,dI a0.Peer,.d (slD Qwf.enc a0.Keys),dI a0.Boot,.d (slD Qwg.enc a0.Want),dI a0.Turn,dI x2.2.2.2.2.2.2.2.2.2.2.2.2.1,dI a1.Turn,dB x2.2.2.2.2.2.2.2.2.2.2.2.2.2,dI 4,dI x2.2.1,dI x2.2.2.1,dI x2.2.2.2.1,dI x2.2.2.2.2.1,dI x2.2.2.2.2.2.1,dI x2.2.2.2.2.2.2.1,.d (slD Qwg.enc x2.2.2.2.2.2.2.2.1),dB x2.2.2.2.2.2.2.2.2.1,dI x2.2.2.2.2.2.2.2.2.2.1,dB x2.2.2.2.2.2.2.2.2.2.2.1,.osl 6001 0 x2.1.length,dI x2.2.2.2.2.2.2.2.2.2.2.2.1])],.a 20 [(9000,.box 36 [dI a0.Name,dI a0.Peer,.d (slD Qwf.enc a0.Keys),dI a0.Boot,.d (slD Qwg.enc a0.Want),dI a0.Turn,dI x2.2.2.2.2.2.2.2.2.2.2.2.2.1,dI a1.Turn,dB x2.2.2.2.2.2.2.2.2.2.2.2.2.2,dI 4,dI x2.2.1,dI x2.2.2.1,dI x2.2.2.2.1,dI x2.2.2.2.2.1,dI x2.2.2.2.2.2.1,dI x2.2.2.2.2.2.2.1,.d (slD Qwg.enc x2.2.2.2.2.2.2.2.1),dB x2.2.2.2.2.2.2.2.2.1,dI x2.2.2.2.2.2.2.2.2.2.1,dB x2.2.2.2.2.2.2.2.2.2.2.1,.osl 6001 0 x2.1.length,dI x2.2.2.2.2.2.2.2.2.2.2.2.1])] (.any) [(9000,.box 36 [dI a0.Name,dI a0.Peer,.d (slD Qwf.enc a0.Keys),dI a0.Boot,.d (slD Qwg.enc a0.Want),dI a0.Turn,dI x2.2.2.2.2.2.2.2.2.2.2.2.2.1,dI a1.Turn,dB (a1.Yours == a0.Boot),dI 4,dI x2.2.1,dI x2.2.2.1,dI x2.2.2.2.1,dI x2.2.2.2.2.1,dI x2.2.2.2.2.2.1,dI x2.2.2.2.2.2.2.1,.d (slD Qwg.enc x2.2.2.2.2.2.2.2.1),dB x2.2.2.2.2.2.2.2.2.1,dI x2.2.2.2.2.2.2.2.2.2.1,dB x2.2.2.2.2.2.2.2.2.2.2.1,.osl 6001 0 x2.1.length,dI x2.2.2.2.2.2.2.2.2.2.2.2.1])]] 21 [] [0,0,0,0,8,0,32,0,128,384,896,2016,1945,6041,14233,30619,63387,128923,262143,524287,1048575] [] [9000] ?_;(conv=>whnf);refine And.intro (by (conv=>whnf); exact ⟨rfl,rfl⟩) ?_;(conv=>whnf);refine And.intro (by (conv=>whnf); exact ⟨rfl,rfl⟩) ?_;(conv=>whnf);refine And.intro (by (conv=>whnf); exact ⟨rfl,rfl⟩) ?_;(conv=>whnf);refine And.intro (by (conv=>whnf); exact ⟨rfl,rfl⟩) ?_;(conv=>whnf);refine And.intro (by kernel_rfl) ?_;(conv=>whnf);refine Qc tOk ?_;(conv=>whnf);refine Qz h (fun _ h=>?_) (fun _ h=>?_)
      · (conv=>whnf);obtain rfl:=sj_ h;exact lfE [.s [(5001,6001),(6001,5001)]]
      · (conv=>whnf);obtain ⟨x6,hx6,h⟩:=Qa h;refine JZ tOk (fun s7=>⟨0,96,[(0,.ref 9000 0 0),(3,.ref 3 0 0)],[],[(7001,.arr 96 5 s7.1.length (rows Qwi.enc s7.1)),(3,.box 42 (hwC a1)),(9000,.box 36 [dI a0.Name,dI a0.Peer,.d (slD Qwf.enc a0.Keys),dI a0.Boot,.d (slD Qwg.enc a0.Want),dI a0.Turn,dI x2.2.2.2.2.2.2.2.2.2.2.2.2.1,dI a1.Turn,dB (a1.Yours == a0.Boot),dI 4,dI x2.2.1,dI s7.2.1,dI s7.2.2.1,dI s7.2.2.2.1,dI s7.2.2.2.2.1,dI s7.2.2.2.2.2.1,.d (slD Qwg.enc s7.2.2.2.2.2.2.1),dB s7.2.2.2.2.2.2.2,dI x2.2.2.2.2.2.2.2.2.2.1,dB x2.2.2.2.2.2.2.2.2.2.2.1,.osl 7001 0 s7.1.length,dI x2.2.2.2.2.2.2.2.2.2.2.2.1])],[⟨[(0,.ref 9000 0 0)],[]⟩]⟩) (fun s7=>x6=s7) ?_ ?_
        · (conv=>whnf);refine QS tOk [] 15 [] [0,1,3,7,15,31,63,127,255,127,639,1663,3711,8191,16383] [] ?_;(conv=>whnf);refine And.intro (by kernel_rfl) ?_;(conv=>whnf);refine Qz hx6 (fun _ hx6=>?_) (fun _ hx6=>?_)
          · (conv=>whnf);obtain ⟨x9,hx9,hx6⟩:=Qa hx6;refine cE [(9000,9000),(9001,6001)] 2000 (Qdn hx9) ?_;(conv=>whnf);obtain rfl:=sj_ hx6;exact ⟨_,rfl,leX []⟩
          · (conv=>whnf);obtain rfl:=sj_ hx6;exact ⟨_,rfl,leX [.s [(6001,7001),(7001,6001)]]⟩
        · rintro _ rfl;(conv=>whnf);obtain ⟨x10,hx10,h⟩:=Qa h;refine JZ tOk (fun s11=>⟨0,96,[(0,.ref 9000 0 0)],[],[(6001,.arr 96 5 s11.1.length (rows Qwi.enc s11.1)),(9000,.box 36 [dI a0.Name,dI a0.Peer,.d (slD Qwf.enc a0.Keys),dI a0.Boot,.d (slD Qwg.enc a0.Want),dI a0.Turn,dI x2.2.2.2.2.2.2.2.2.2.2.2.2.1,dI a1.Turn,dB (a1.Yours == a0.Boot),dI 4,dI x2.2.1,dI x6.2.1,dI x6.2.2.1,dI x6.2.2.2.1,dI x6.2.2.2.2.1,dI x6.2.2.2.2.2.1,.d (slD Qwg.enc x6.2.2.2.2.2.2.1),dB x6.2.2.2.2.2.2.2,dI s11.2.1,dB s11.2.2,.osl 6001 0 s11.1.length,dI x2.2.2.2.2.2.2.2.2.2.2.2.1])],[⟨[(0,.ref 9000 0 0)],[]⟩]⟩) (fun s11=>x10=s11) ?_ ?_
          · (conv=>whnf);refine QS tOk [] 18 [] [0,1,3,7,15,31,63,31,159,415,927,1951,4095,8191,16383,32767,32767,98303] [262143,524287] ?_;(conv=>whnf);refine And.intro (by kernel_rfl) ?_;(conv=>whnf);refine spI hx10 (fun hb13 hx10=>?_) (fun hb13 hx10=>?_)
            · obtain ⟨x14,hx14,hx10⟩:=Qa hx10;refine Qna [(9000,9000),(9001,7001)] 1000 (Qf7 hx14) (by (conv=>whnf); exact fun q=>absurd (q.symm.trans hb13) (by decide)) ?_;(conv=>whnf);refine Qz hx10 (fun _ hx10=>?_) (fun _ hx10=>?_)
              · (conv=>whnf);obtain rfl:=sj_ hx10;exact ⟨_,rfl,leX []⟩
              · (conv=>whnf);obtain rfl:=sj_ hx10;exact ⟨_,rfl,leX []⟩
            · refine Qlc (dB false) ?_ (by (conv=>whnf); exact fun q=>absurd (hb13.symm.trans q) (by decide));(conv=>whnf);refine Qz hx10 (fun _ hx10=>?_) (fun _ hx10=>?_)
              · (conv=>whnf);obtain rfl:=sj_ hx10;exact ⟨_,rfl,leX [.s [(6001,7001),(7001,6001)]]⟩
              · (conv=>whnf);obtain rfl:=sj_ hx10;exact ⟨_,rfl,leX [.s [(6001,7001),(7001,6001)]]⟩
          · rintro _ rfl;(conv=>whnf);obtain ⟨x15,hx15,h⟩:=Qa h;refine cC 0 (QdN hx15) ?_;clear hx15;(conv=>whnf);refine Qz h (fun _ h=>?_) (fun _ h=>?_)
            · (conv=>whnf);obtain rfl:=sj_ h;exact lfE [.s [(5001,6001),(6001,5001)]]
            · (conv=>whnf);obtain rfl:=sj_ h;exact lfE [.s [(5001,6001),(6001,5001)]]
noncomputable def Zc (a0:Qwj):Option (Qwj) :=
 bd (Zx ({ a0 with Boot:=(if 1000<(IntKind.i64.wrap (a0.Boot+1)) then 1000 else IntKind.i64.wrap (a0.Boot+1)),Turn:=0,Left:=0 })) fun x1 =>
 some ({ x1 with Name:=a0.Name,Peer:=a0.Peer,Keys:=a0.Keys,Boot:=(if 1000<(IntKind.i64.wrap (a0.Boot+1)) then 1000 else IntKind.i64.wrap (a0.Boot+1)),Want:=a0.Want,Turn:=0,PeerBoot:=a0.PeerBoot,PeerTurn:=a0.PeerTurn,Left:=0 })
theorem JN {a0:Qwj} {r:Qwj} (h:Zc a0=some r):EffC Tryz.prog 59 [.ref 9000 0 0] [(9000,.box 36 (heC a0 (.osl 9001 0 a0.Heard.length))),(9001,.arr 96 5 a0.Heard.length (rows Qwi.enc a0.Heard))] (.tup []) [(9000,.box 36 (dI a0.Name :: dI a0.Peer :: .d (slD Qwf.enc a0.Keys) :: dI r.Boot :: .d (slD Qwg.enc a0.Want) :: dI r.Turn :: dI a0.PeerBoot :: dI a0.PeerTurn :: dB r.Up :: dI r.Left :: dI r.Num :: dI r.Under.Kind :: hnC r.Under.Entry ++ [.d (slD Qwg.enc r.Told),dB r.All,dI r.Got,dB r.Full,.osl 5001 0 r.Heard.length,dI r.Keep])),(5001,.arr 96 5 r.Heard.length (rows Qwi.enc r.Heard))]:=by
  refine Q7 tOk (fn:=Tryz.f59) (c:=Qj Tryz.f59) rfl rfl ?_;unfold Zc at h;(conv=>whnf);obtain ⟨x1,hx1,h⟩:=Qa h;refine cE [(9000,9000),(9001,9001)] 1000 (Qb4 hx1) ?_;(conv=>whnf);obtain rfl:=sj_ h;exact lfE [.s [(5001,6001),(6001,5001)]]
noncomputable def Q3 (a0:(List Qwg)) (a1:Qwg):Option (Int) :=
 bd (lp (σ:=Int) (β:=(Int ⊕ Unit)) (fun s1 =>
(if (decide (s1<((a0.length:Nat):Int)))=true then
 gd ((0:Int)≤s1∧s1<((a0.length:Nat):Int)) <|
(if ((a1.Addr == ((a0.getD s1.toNat default).Addr)) && ((a1.Len == ((a0.getD s1.toNat default).Len)) && ((a1.Cost == ((a0.getD s1.toNat default).Cost)) && ((a1.Label == ((a0.getD s1.toNat default).Label)) && true))))=true then
 some (.inr (.inl s1))
else
 some (.inl (IntKind.i64.wrap (s1+1))))
else
 some (.inr (.inr ())))) 0) fun x4 =>
(match x4 with
| .inl d6 =>
 some d6
| .inr d7 =>
 some (-1))
theorem Qb6 {a0:(List Qwg)} {a1:Qwg} {r:Int} (h:Q3 a0 a1=some r):PureC Tryz.prog 157 [.d (slD Qwg.enc a0),.agg (hnC a1)] (dI r) []:=by
  refine Qq tOk (fn:=Tryz.f157) (c:=Qj Tryz.f157) rfl rfl ?_;unfold Q3 at h;(conv=>whnf);refine Qc tOk ?_;(conv=>whnf);obtain ⟨x4,hx4,h⟩:=Qa h;refine Zj tOk hx4 (fun s1=>⟨0,19,[(0,.d (slD Qwg.enc a0)),(3,.ref 3 0 0),(7,dI ((a0.length:Nat):Int)),(8,dI s1)],[],[(3,.box 31 (hnC a1))],[]⟩) ?_ ?_
  · exact leX []
  · clear hx4;intro s1 y2 g3 hy2;(conv=>whnf);refine Qc tOk ?_;(conv=>whnf);refine Qz g3 (fun _ g3=>?_) (fun _ g3=>?_)
    · (conv=>whnf);refine Qc tOk ?_;(conv=>whnf);obtain ⟨g5,g3⟩:=Qf g3;refine QS tOk [] 6 [] [0,0,0,6,14,31] [] ?_;(conv=>whnf);refine And.intro g5 ?_;clear g5;(conv=>whnf);refine And.intro (by kernel_rfl) ?_;(conv=>whnf);refine Qz g3 (fun _ g3=>?_) (fun _ g3=>?_)
      · (conv=>whnf);obtain rfl:=sj_ g3;obtain rfl:=hy2 _ rfl;obtain rfl:=sj_ h;exact lfP []
      · (conv=>whnf);obtain rfl:=sj_ g3;exact ⟨_,rfl,leX []⟩
    · (conv=>whnf);obtain rfl:=sj_ g3;obtain rfl:=hy2 _ rfl;obtain rfl:=sj_ h;exact lfP []
noncomputable def QT (a0:(List Qwg)) (a1:Qwg):Option (Bool) :=
 bd (Q3 a0 a1) fun x1 =>
 some (decide (x1 ≥ 0))
theorem QbD {a0:(List Qwg)} {a1:Qwg} {r:Bool} (h:QT a0 a1=some r):PureC Tryz.prog 136 [.d (slD Qwg.enc a0),.agg (hnC a1)] (dB r) []:=by
  refine Qq tOk (fn:=Tryz.f136) (c:=Qj Tryz.f136) rfl rfl ?_;unfold QT at h;(conv=>whnf);obtain ⟨x1,hx1,h⟩:=Qa h;refine cC 0 (Qb6 hx1) ?_;clear hx1;(conv=>whnf);obtain rfl:=sj_ h;exact lfP []
noncomputable def JY (a0:Qwj):Option (Qwh) :=
 bd (lp (σ:=Int) (β:=((Int × Int) ⊕ Unit)) (fun s1 =>
(if (decide (s1<((a0.Told.length:Nat):Int)))=true then
 gd ((0:Int)≤s1∧s1<((a0.Told.length:Nat):Int)) <|
 bd (Qr (a0.Told.getD s1.toNat default)) fun x6 =>
 bd (JR a0.Want x6) fun x7 =>
(if (!x7.2)=true then
 some (.inr (.inl ((a0.Told.getD s1.toNat default).Addr,(a0.Told.getD s1.toNat default).Len)))
else
 some (.inl (IntKind.i64.wrap (s1+1))))
else
 some (.inr (.inr ())))) 0) fun x4 =>
(match x4 with
| .inl d8 =>
 some (⟨2,(⟨d8.1,d8.2,0,0⟩:Qwg)⟩:Qwh)
| .inr d9 =>
 bd (lp (σ:=Int) (β:=((Int × Int × Int × Int) ⊕ Unit)) (fun s10 =>
(if (decide (s10<((a0.Want.length:Nat):Int)))=true then
 gd ((0:Int)≤s10∧s10<((a0.Want.length:Nat):Int)) <|
 bd (QT a0.Told (a0.Want.getD s10.toNat default)) fun x15 =>
(if (!x15)=true then
 some (.inr (.inl ((a0.Want.getD s10.toNat default).Addr,(a0.Want.getD s10.toNat default).Len,(a0.Want.getD s10.toNat default).Cost,(a0.Want.getD s10.toNat default).Label)))
else
 some (.inl (IntKind.i64.wrap (s10+1))))
else
 some (.inr (.inr ())))) 0) fun x13 =>
(match x13 with
| .inl d16 =>
 some (⟨1,(⟨d16.1,d16.2.1,d16.2.2.1,d16.2.2.2⟩:Qwg)⟩:Qwh)
| .inr d17 =>
(if (!a0.All)=true then
 some (⟨3,(⟨0,0,0,0⟩:Qwg)⟩:Qwh)
else
 some (⟨0,(⟨0,0,0,0⟩:Qwg)⟩:Qwh))))
theorem Qf8 {a0:Qwj} {r:Qwh} (h:JY a0=some r):PureC Tryz.prog 96 [.agg (heC a0 (.d (slD Qwi.enc a0.Heard)))] (.agg (dI r.Kind :: hnC r.Entry)) []:=by
  refine Qq tOk (fn:=Tryz.f96) (c:=Qj Tryz.f96) rfl rfl ?_;unfold JY at h;(conv=>whnf);refine Qc tOk ?_;(conv=>whnf);obtain ⟨x4,hx4,h⟩:=Qa h;refine Zj tOk hx4 (fun s1=>⟨0,53,[(1,.ref 1 0 0),(2,.ref 2 0 0),(10,.d (slD Qwg.enc a0.Told)),(11,dI ((a0.Told.length:Nat):Int)),(12,dI s1)],[],[(2,.box 33 [dI 0,dI 0,dI 0,dI 0,dI 0]),(1,.box 36 (heC a0 (.d (slD Qwi.enc a0.Heard))))],[]⟩) ?_ ?_
  · exact leX []
  · clear hx4;intro s1 y2 g3 hy2;(conv=>whnf);refine Qc tOk ?_;(conv=>whnf);refine Qz g3 (fun _ g3=>?_) (fun _ g3=>?_)
    · (conv=>whnf);refine Qc tOk ?_;(conv=>whnf);refine gdI g3 (fun g3=>?_);(conv=>whnf);obtain ⟨x6,hx6,g3⟩:=Qa g3;obtain ⟨x7,hx7,g3⟩:=Qa g3;refine QS tOk [.u 3 0 (.agg [dI x6.Addr,dI x6.Len]) [],.u 4 0 (.tup [dI x7.1,dB x7.2]) []] 10 [] [0,1,0,4,15,31,63,63,127,511] [] ?_;(conv=>whnf);refine And.intro (QM (Qx hx6) (by kernel_rfl)) ?_;(conv=>whnf);refine And.intro (QM (Qdm hx7) (by kernel_rfl)) ?_;(conv=>whnf);refine And.intro (by kernel_rfl) ?_;(conv=>whnf);refine Qz g3 (fun _ g3=>?_) (fun _ g3=>?_)
      · (conv=>whnf);obtain rfl:=sj_ g3;obtain rfl:=hy2 _ rfl;obtain rfl:=sj_ h;exact lfP []
      · (conv=>whnf);obtain rfl:=sj_ g3;exact ⟨_,rfl,leX []⟩
    · (conv=>whnf);obtain rfl:=sj_ g3;obtain rfl:=hy2 _ rfl;refine Qc tOk ?_;(conv=>whnf);obtain ⟨x13,hx13,h⟩:=Qa h;refine Zj tOk hx13 (fun s10=>⟨0,53,[(1,.ref 1 0 0),(2,.ref 2 0 0),(34,.d (slD Qwg.enc a0.Want)),(35,dI ((a0.Want.length:Nat):Int)),(36,dI s10)],[],[(2,.box 33 [dI 0,dI 0,dI 0,dI 0,dI 0]),(1,.box 36 (heC a0 (.d (slD Qwi.enc a0.Heard))))],[]⟩) ?_ ?_
      · exact leX []
      · clear hx13;intro s10 y11 g12 hy11;(conv=>whnf);refine Qc tOk ?_;(conv=>whnf);refine Qz g12 (fun _ g12=>?_) (fun _ g12=>?_)
        · (conv=>whnf);refine Qc tOk ?_;(conv=>whnf);refine gdI g12 (fun g12=>?_);(conv=>whnf);obtain ⟨x15,hx15,g12⟩:=Qa g12;refine cC 0 (QbD hx15) ?_;clear hx15;(conv=>whnf);refine Qz g12 (fun _ g12=>?_) (fun _ g12=>?_)
          · (conv=>whnf);obtain rfl:=sj_ g12;obtain rfl:=hy11 _ rfl;obtain rfl:=sj_ h;exact lfP []
          · (conv=>whnf);obtain rfl:=sj_ g12;exact ⟨_,rfl,leX []⟩
        · (conv=>whnf);obtain rfl:=sj_ g12;obtain rfl:=hy11 _ rfl;refine Qc tOk ?_;(conv=>whnf);refine Qz h (fun _ h=>?_) (fun _ h=>?_)
          · (conv=>whnf);obtain rfl:=sj_ h;exact lfP []
          · (conv=>whnf);obtain rfl:=sj_ h;exact lfP []
noncomputable def Jw (a0:Qwj):Option (Qwl × Bool × Qwj) :=
 bd (ZO a0) fun x1 =>
(if x1=true then
 some ((⟨0,0,0,0,0,0,0,0,(⟨0,(⟨0,0,0,0⟩:Qwg)⟩:Qwh),0⟩:Qwl),false,a0)
else
(if (a0.Turn == 1000000)=true then
 bd (Zc a0) fun x2 =>
 some ((⟨0,0,0,0,0,0,0,0,(⟨0,(⟨0,0,0,0⟩:Qwg)⟩:Qwh),0⟩:Qwl),false,{ x2 with Name:=a0.Name,Peer:=a0.Peer,Keys:=a0.Keys,Want:=a0.Want,PeerBoot:=a0.PeerBoot,PeerTurn:=a0.PeerTurn })
else
 bd (α:=Int × Int × Int × Int × Int × Int) ((if (a0.Up && (a0.Under.Kind == 0))=true then
 bd (JY ({ a0 with Turn:=IntKind.i64.wrap (a0.Turn+1) })) fun x6 =>
(if (x6.Kind != 0)=true then
 some (IntKind.i64.wrap (a0.Num+1),x6.Kind,x6.Entry.Addr,x6.Entry.Len,x6.Entry.Cost,x6.Entry.Label)
else
 some (a0.Num,x6.Kind,x6.Entry.Addr,x6.Entry.Len,x6.Entry.Cost,x6.Entry.Label))
else
 some (a0.Num,a0.Under.Kind,a0.Under.Entry.Addr,a0.Under.Entry.Len,a0.Under.Entry.Cost,a0.Under.Entry.Label))) fun x3 =>
 gd ((0:Int)≤IntKind.i64.wrap (((a0.Keys.length:Nat):Int) - 1)∧IntKind.i64.wrap (((a0.Keys.length:Nat):Int) - 1)<((a0.Keys.length:Nat):Int)) <|
 bd (QaO ((a0.Keys.getD ((IntKind.i64.wrap (((a0.Keys.length:Nat):Int) - 1)).toNat) default).Secret) (⟨a0.Name,a0.Peer,(a0.Keys.getD ((IntKind.i64.wrap (((a0.Keys.length:Nat):Int) - 1)).toNat) default).Id,a0.Boot,a0.PeerBoot,IntKind.i64.wrap (a0.Turn+1),x3.1,a0.Got,(⟨x3.2.1,(⟨x3.2.2.1,x3.2.2.2.1,x3.2.2.2.2.1,x3.2.2.2.2.2⟩:Qwg)⟩:Qwh),0⟩:Qwl)) fun x8 =>
 some ((⟨a0.Name,a0.Peer,(a0.Keys.getD ((IntKind.i64.wrap (((a0.Keys.length:Nat):Int) - 1)).toNat) default).Id,a0.Boot,a0.PeerBoot,IntKind.i64.wrap (a0.Turn+1),x3.1,a0.Got,(⟨x3.2.1,(⟨x3.2.2.1,x3.2.2.2.1,x3.2.2.2.2.1,x3.2.2.2.2.2⟩:Qwg)⟩:Qwh),x8⟩:Qwl),true,{ a0 with Turn:=IntKind.i64.wrap (a0.Turn+1),Num:=x3.1,Under:=(⟨x3.2.1,(⟨x3.2.2.1,x3.2.2.2.1,x3.2.2.2.2.1,x3.2.2.2.2.2⟩:Qwg)⟩:Qwh) })))
theorem QdO {a0:Qwj} {r:Qwl × Bool × Qwj} (h:Jw a0=some r):EffC Tryz.prog 56 [.ref 9000 0 0] [(9000,.box 36 (heC a0 (.osl 9001 0 a0.Heard.length))),(9001,.arr 96 5 a0.Heard.length (rows Qwi.enc a0.Heard))] (.tup [.agg (hwC r.1),dB r.2.1]) [(9000,.box 36 (dI a0.Name :: dI a0.Peer :: .d (slD Qwf.enc a0.Keys) :: dI r.2.2.Boot :: .d (slD Qwg.enc a0.Want) :: dI r.2.2.Turn :: dI a0.PeerBoot :: dI a0.PeerTurn :: dB r.2.2.Up :: dI r.2.2.Left :: dI r.2.2.Num :: dI r.2.2.Under.Kind :: hnC r.2.2.Under.Entry ++ [.d (slD Qwg.enc r.2.2.Told),dB r.2.2.All,dI r.2.2.Got,dB r.2.2.Full,.osl 5001 0 r.2.2.Heard.length,dI r.2.2.Keep])),(5001,.arr 96 5 r.2.2.Heard.length (rows Qwi.enc r.2.2.Heard))]:=by
  refine Q7 tOk (fn:=Tryz.f56) (c:=Qj Tryz.f56) rfl rfl ?_;unfold Jw at h;(conv=>whnf);refine Qc tOk ?_;(conv=>whnf);obtain ⟨x1,hx1,h⟩:=Qa h;refine cC 0 (Qcw hx1) ?_;clear hx1;(conv=>whnf);refine Qz h (fun _ h=>?_) (fun _ h=>?_)
  · (conv=>whnf);obtain rfl:=sj_ h;exact lfE [.s [(5001,9001),(9001,5001)]]
  · (conv=>whnf);refine Qc tOk ?_;(conv=>whnf);refine Qz h (fun _ h=>?_) (fun _ h=>?_)
    · (conv=>whnf);obtain ⟨x2,hx2,h⟩:=Qa h;refine cE [(9000,9000),(9001,9001)] 1000 (JN hx2) ?_;(conv=>whnf);obtain rfl:=sj_ h;exact lfE [.s [(5001,6001),(6001,5001)]]
    · (conv=>whnf);obtain ⟨x3,hx3,h⟩:=Qa h;refine JZ tOk (fun s4=>⟨0,109,[(0,.ref 9000 0 0),(2,.ref 2 0 0)],[],[(2,.box 42 [dI 0,dI 0,dI 0,dI 0,dI 0,dI 0,dI 0,dI 0,dI 0,dI 0,dI 0,dI 0,dI 0,dI 0]),(9000,.box 36 [dI a0.Name,dI a0.Peer,.d (slD Qwf.enc a0.Keys),dI a0.Boot,.d (slD Qwg.enc a0.Want),dI (IntKind.i64.wrap (a0.Turn+1)),dI a0.PeerBoot,dI a0.PeerTurn,dB a0.Up,dI a0.Left,dI s4.1,dI s4.2.1,dI s4.2.2.1,dI s4.2.2.2.1,dI s4.2.2.2.2.1,dI s4.2.2.2.2.2,.d (slD Qwg.enc a0.Told),dB a0.All,dI a0.Got,dB a0.Full,.osl 9001 0 a0.Heard.length,dI a0.Keep]),(9001,.arr 96 5 a0.Heard.length (rows Qwi.enc a0.Heard))],[⟨[(0,.ref 9000 0 0)],[]⟩]⟩) (fun s4=>x3=s4) ?_ ?_
      · (conv=>whnf);refine Qz hx3 (fun _ hx3=>?_) (fun _ hx3=>?_)
        · (conv=>whnf);obtain ⟨x6,hx6,hx3⟩:=Qa hx3;refine cC 0 (Qf8 hx6) ?_;clear hx6;(conv=>whnf);refine Qz hx3 (fun _ hx3=>?_) (fun _ hx3=>?_)
          · (conv=>whnf);obtain rfl:=sj_ hx3;exact ⟨_,rfl,leX []⟩
          · (conv=>whnf);obtain rfl:=sj_ hx3;exact ⟨_,rfl,leX []⟩
        · (conv=>whnf);obtain rfl:=sj_ hx3;exact ⟨_,rfl,leX []⟩
      · rintro _ rfl;(conv=>whnf);obtain ⟨g7,h⟩:=Qf h;refine QS tOk [] 13 [] [0,1,3,7,0,16,48,112,240,496,1023,2047,0] [8191] ?_;(conv=>whnf);refine And.intro g7 ?_;clear g7;(conv=>whnf);refine And.intro (by kernel_rfl) ?_;(conv=>whnf);refine QS tOk [] 36 [] [0,1,3,7,0,16,48,112,0,256,0,1024,3072,7168,0,16384,49152,114688,0,262144,786432,1835008,0,4194304,12582912,29360128,0,67108864,201326592,469762048,0,1073741824,3221225472,7516192768,17179869183,0] [68719476735] ?_;(conv=>whnf);refine And.intro (by kernel_rfl) ?_;(conv=>whnf);obtain ⟨x8,hx8,h⟩:=Qa h;refine cC 0 (Qfp hx8) ?_;clear hx8;(conv=>whnf);obtain rfl:=sj_ h;exact lfE [.s [(5001,9001),(9001,5001)]]
noncomputable def ZX (a0:Qwj):Option (Qwj) :=
 bd (α:=List Qwi × Int) ((if (decide (a0.Keep > 0))=true then
(if ((IntKind.i64.wrap (a0.Keep - 1)) == 0)=true then
 bd (Q2 ({ a0 with Keep:=IntKind.i64.wrap (a0.Keep - 1) })) fun x4 =>
 some (x4.Heard,IntKind.i64.wrap (a0.Keep - 1))
else
 some (a0.Heard,IntKind.i64.wrap (a0.Keep - 1)))
else
 some (a0.Heard,a0.Keep))) fun x1 =>
(if (decide (a0.Left > 0))=true then
(if ((IntKind.i64.wrap (a0.Left - 1)) == 0)=true then
 bd (Zc ({ a0 with Left:=IntKind.i64.wrap (a0.Left - 1),Heard:=x1.1,Keep:=x1.2 })) fun x5 =>
 some ({ x5 with Name:=a0.Name,Peer:=a0.Peer,Keys:=a0.Keys,Want:=a0.Want,PeerBoot:=a0.PeerBoot,PeerTurn:=a0.PeerTurn })
else
 some ({ a0 with Left:=IntKind.i64.wrap (a0.Left - 1),Heard:=x1.1,Keep:=x1.2 }))
else
 some ({ a0 with Heard:=x1.1,Keep:=x1.2 }))
theorem Qdr {a0:Qwj} {r:Qwj} (h:ZX a0=some r):EffC Tryz.prog 57 [.ref 9000 0 0] [(9000,.box 36 (heC a0 (.osl 9001 0 a0.Heard.length))),(9001,.arr 96 5 a0.Heard.length (rows Qwi.enc a0.Heard))] (.tup []) [(9000,.box 36 (dI a0.Name :: dI a0.Peer :: .d (slD Qwf.enc a0.Keys) :: dI r.Boot :: .d (slD Qwg.enc a0.Want) :: dI r.Turn :: dI a0.PeerBoot :: dI a0.PeerTurn :: dB r.Up :: dI r.Left :: dI r.Num :: dI r.Under.Kind :: hnC r.Under.Entry ++ [.d (slD Qwg.enc r.Told),dB r.All,dI r.Got,dB r.Full,.osl 5001 0 r.Heard.length,dI r.Keep])),(5001,.arr 96 5 r.Heard.length (rows Qwi.enc r.Heard))]:=by
  refine Q7 tOk (fn:=Tryz.f57) (c:=Qj Tryz.f57) rfl rfl ?_;unfold ZX at h;(conv=>whnf);obtain ⟨x1,hx1,h⟩:=Qa h;refine JZ tOk (fun s2=>⟨0,40,[(0,.ref 9000 0 0)],[],[(6001,.arr 96 5 s2.1.length (rows Qwi.enc s2.1)),(9000,.box 36 (dI a0.Name :: dI a0.Peer :: .d (slD Qwf.enc a0.Keys) :: dI a0.Boot :: .d (slD Qwg.enc a0.Want) :: dI a0.Turn :: dI a0.PeerBoot :: dI a0.PeerTurn :: dB a0.Up :: dI a0.Left :: dI a0.Num :: dI a0.Under.Kind :: hnC a0.Under.Entry ++ [.d (slD Qwg.enc a0.Told),dB a0.All,dI a0.Got,dB a0.Full,.osl 6001 0 s2.1.length,dI s2.2]))],[⟨[(0,.ref 9000 0 0)],[]⟩]⟩) (fun s2=>x1=s2) ?_ ?_
  · (conv=>whnf);refine Qz hx1 (fun _ hx1=>?_) (fun _ hx1=>?_)
    · (conv=>whnf);refine Qz hx1 (fun _ hx1=>?_) (fun _ hx1=>?_)
      · (conv=>whnf);obtain ⟨x4,hx4,hx1⟩:=Qa hx1;refine cE [(9000,9000),(9001,9001)] 1000 (Qb5 hx4) ?_;(conv=>whnf);obtain rfl:=sj_ hx1;exact ⟨_,rfl,leX []⟩
      · (conv=>whnf);obtain rfl:=sj_ hx1;exact ⟨_,rfl,leX [.s [(6001,9001),(9001,6001)]]⟩
    · (conv=>whnf);obtain rfl:=sj_ hx1;exact ⟨_,rfl,leX [.s [(6001,9001),(9001,6001)]]⟩
  · rintro _ rfl;(conv=>whnf);refine Qz h (fun _ h=>?_) (fun _ h=>?_)
    · (conv=>whnf);refine Qz h (fun _ h=>?_) (fun _ h=>?_)
      · (conv=>whnf);obtain ⟨x5,hx5,h⟩:=Qa h;refine cE [(9000,9000),(9001,6001)] 2000 (JN hx5) ?_;(conv=>whnf);obtain rfl:=sj_ h;exact lfE [.s [(5001,7001),(7001,5001)]]
      · (conv=>whnf);obtain rfl:=sj_ h;exact lfE [.s [(5001,6001),(6001,5001)]]
    · (conv=>whnf);obtain rfl:=sj_ h;exact lfE [.s [(5001,6001),(6001,5001)]]
noncomputable def Zv (a0:Qwk) (a1:Qwl):Option (Bool) :=
 bd (J8 a0.End.Keys a1) fun x1 =>
 some x1
theorem Qcf {a0:Qwk} {a1:Qwl} {r:Bool} (h:Zv a0 a1=some r):PureC Tryz.prog 54 [.agg (dB a0.Up :: heC a0.End (.d (slD Qwi.enc a0.End.Heard))),.rp [.int .i64 a1.From,.int .i64 a1.To,.int .i64 a1.Key,.int .i64 a1.Boot,.int .i64 a1.Yours,.int .i64 a1.Turn,.int .i64 a1.Num,.int .i64 a1.Heard,.int .i64 a1.Change.Kind,.int .i64 a1.Change.Entry.Addr,.int .i64 a1.Change.Entry.Len,.int .i64 a1.Change.Entry.Cost,.int .i64 a1.Change.Entry.Label,.int .i64 a1.Sum]] (dB r) []:=by
  refine Qq tOk (fn:=Tryz.f54) (c:=Qj Tryz.f54) rfl rfl ?_;unfold Zv at h;(conv=>whnf);obtain ⟨x1,hx1,h⟩:=Qa h;refine cC 0 (Qem hx1) ?_;clear hx1;(conv=>whnf);obtain rfl:=sj_ h;exact lfP []
noncomputable def Qo (a0:(List Qwk)) (a1c0:Qwl):Option (Int) :=
 bd (lp (σ:=Int) (β:=(Int ⊕ Unit)) (fun s1 =>
(if (decide (s1<((a0.length:Nat):Int)))=true then
 gd ((0:Int)≤s1∧s1<((a0.length:Nat):Int)) <|
 bd (Zv (⟨(a0.getD s1.toNat default).Up,{ ((a0.getD s1.toNat default).End) with Under:=(⟨(((a0.getD s1.toNat default).End).Under).Kind,((((a0.getD s1.toNat default).End).Under).Entry)⟩:Qwh) }⟩:Qwk) a1c0) fun x6 =>
(if x6=true then
 some (.inr (.inl s1))
else
 some (.inl (IntKind.i64.wrap (s1+1))))
else
 some (.inr (.inr ())))) 0) fun x4 =>
(match x4 with
| .inl d7 =>
 some d7
| .inr d8 =>
 some (-1))
theorem ZR {a0:(List Qwk)} {a1c0:Qwl} {r:Int} (h:Qo a0 a1c0=some r):PureC Tryz.prog 91 [.d (slD Qwk.enc a0),.fn 54 [.rp [.int .i64 a1c0.From,.int .i64 a1c0.To,.int .i64 a1c0.Key,.int .i64 a1c0.Boot,.int .i64 a1c0.Yours,.int .i64 a1c0.Turn,.int .i64 a1c0.Num,.int .i64 a1c0.Heard,.int .i64 a1c0.Change.Kind,.int .i64 a1c0.Change.Entry.Addr,.int .i64 a1c0.Change.Entry.Len,.int .i64 a1c0.Change.Entry.Cost,.int .i64 a1c0.Change.Entry.Label,.int .i64 a1c0.Sum]]] (dI r) []:=by
  refine Qq tOk (fn:=Tryz.f91) (c:=Qj Tryz.f91) rfl rfl ?_;unfold Qo at h;(conv=>whnf);refine Qc tOk ?_;(conv=>whnf);obtain ⟨x4,hx4,h⟩:=Qa h;refine Zj tOk hx4 (fun s1=>⟨0,19,[(0,.d (slD Qwk.enc a0)),(1,.fn 54 [.rp [.int .i64 a1c0.From,.int .i64 a1c0.To,.int .i64 a1c0.Key,.int .i64 a1c0.Boot,.int .i64 a1c0.Yours,.int .i64 a1c0.Turn,.int .i64 a1c0.Num,.int .i64 a1c0.Heard,.int .i64 a1c0.Change.Kind,.int .i64 a1c0.Change.Entry.Addr,.int .i64 a1c0.Change.Entry.Len,.int .i64 a1c0.Change.Entry.Cost,.int .i64 a1c0.Change.Entry.Label,.int .i64 a1c0.Sum]]),(7,dI ((a0.length:Nat):Int)),(8,dI s1)],[],[],[]⟩) ?_ ?_
  · exact leX []
  · clear hx4;intro s1 y2 g3 hy2;(conv=>whnf);refine Qc tOk ?_;(conv=>whnf);refine Qz g3 (fun _ g3=>?_) (fun _ g3=>?_)
    · (conv=>whnf);refine Qc tOk ?_;(conv=>whnf);refine gdI g3 (fun g3=>?_);(conv=>whnf);obtain ⟨x6,hx6,g3⟩:=Qa g3;refine cC 0 (Qcf hx6) ?_;clear hx6;(conv=>whnf);refine Qz g3 (fun _ g3=>?_) (fun _ g3=>?_)
      · (conv=>whnf);obtain rfl:=sj_ g3;obtain rfl:=hy2 _ rfl;obtain rfl:=sj_ h;exact lfP []
      · (conv=>whnf);obtain rfl:=sj_ g3;exact ⟨_,rfl,leX []⟩
    · (conv=>whnf);obtain rfl:=sj_ g3;obtain rfl:=hy2 _ rfl;obtain rfl:=sj_ h;exact lfP []
noncomputable def Qk (a0:(List Qwk)) (a1c0:Qwl):Option (Bool) :=
 bd (Qo a0 a1c0) fun x1 =>
 some (decide (x1 ≥ 0))
theorem ZH {a0:(List Qwk)} {a1c0:Qwl} {r:Bool} (h:Qk a0 a1c0=some r):PureC Tryz.prog 53 [.d (slD Qwk.enc a0),.fn 54 [.rp [.int .i64 a1c0.From,.int .i64 a1c0.To,.int .i64 a1c0.Key,.int .i64 a1c0.Boot,.int .i64 a1c0.Yours,.int .i64 a1c0.Turn,.int .i64 a1c0.Num,.int .i64 a1c0.Heard,.int .i64 a1c0.Change.Kind,.int .i64 a1c0.Change.Entry.Addr,.int .i64 a1c0.Change.Entry.Len,.int .i64 a1c0.Change.Entry.Cost,.int .i64 a1c0.Change.Entry.Label,.int .i64 a1c0.Sum]]] (dB r) []:=by
  refine Qq tOk (fn:=Tryz.f53) (c:=Qj Tryz.f53) rfl rfl ?_;unfold Qk at h;(conv=>whnf);obtain ⟨x1,hx1,h⟩:=Qa h;refine cC 0 (ZR hx1) ?_;clear hx1;(conv=>whnf);obtain rfl:=sj_ h;exact lfP []
noncomputable def ZD (a0:Qwm) (a1:Qwl):Option (Bool) :=
 bd (Qk a0.Sides a1) fun x1 =>
 some x1
theorem Qcx {a0:Qwm} {a1:Qwl} {r:Bool} (h:ZD a0 a1=some r):PureC Tryz.prog 28 [.rp [slD Qwk.enc a0.Sides,slD Qwl.enc a0.Radio],.agg (hwC a1)] (dB r) []:=by
  refine Qq tOk (fn:=Tryz.f28) (c:=Qj Tryz.f28) rfl rfl ?_;unfold ZD at h;(conv=>whnf);obtain ⟨x1,hx1,h⟩:=Qa h;refine cC 0 (ZH hx1) ?_;clear hx1;(conv=>whnf);obtain rfl:=sj_ h;exact lfP []
noncomputable def QbR (a0:Qwj):Option (Qwj) :=
 bd (Zp a0.Keys) fun x1 =>
 bd (QF a0.Want) fun x2 =>
 some ({ a0 with Keys:=x1,Want:=x2,Turn:=0,PeerBoot:=0,PeerTurn:=0,Up:=false,Left:=0,Num:=0,Under:=(⟨0,(⟨0,0,0,0⟩:Qwg)⟩:Qwh),Told:=[],All:=false,Got:=0,Full:=false,Heard:=[],Keep:=0 })
theorem Qg3 {a0:Qwj} {r:Qwj} (h:QbR a0=some r):PureC Tryz.prog 58 [.agg (heC a0 (.d (slD Qwi.enc a0.Heard)))] (.agg (dI r.Name :: dI r.Peer :: .osl 5001 0 r.Keys.length :: dI r.Boot :: .osl 5002 0 r.Want.length :: dI r.Turn :: dI r.PeerBoot :: dI r.PeerTurn :: dB r.Up :: dI r.Left :: dI r.Num :: dI r.Under.Kind :: hnC r.Under.Entry ++ [.osl 5003 0 r.Told.length,dB r.All,dI r.Got,dB r.Full,.osl 5004 0 r.Heard.length,dI r.Keep])) [⟨5001,93,2,r.Keys.length,rows Qwf.enc r.Keys⟩,⟨5002,31,4,r.Want.length,rows Qwg.enc r.Want⟩,⟨5003,31,4,r.Told.length,rows Qwg.enc r.Told⟩,⟨5004,96,5,r.Heard.length,rows Qwi.enc r.Heard⟩]:=by
  refine Qq tOk (fn:=Tryz.f58) (c:=Qj Tryz.f58) rfl rfl ?_;unfold QbR at h;(conv=>whnf);obtain ⟨x1,hx1,h⟩:=Qa h;obtain ⟨x2,hx2,h⟩:=Qa h;refine QS tOk [.u 6 1000 (.osl 5001 0 x1.length) [⟨5001,93,2,x1.length,rows Qwf.enc x1⟩],.u 11 2000 (.osl 5001 0 x2.length) [⟨5001,31,4,x2.length,rows Qwg.enc x2⟩]] 13 [] [0,1,0,4,0,16,48,0,128,0,512,1648,4095] [8191] ?_;(conv=>whnf);refine And.intro (QM (Qau hx1) (by kernel_rfl)) ?_;(conv=>whnf);refine And.intro (QM (Zs hx2) (by kernel_rfl)) ?_;(conv=>whnf);refine And.intro (by kernel_rfl) ?_;(conv=>whnf);obtain rfl:=sj_ h;exact lfP [.k [1],.s [(5001,6001),(5002,7001),(6001,5001),(7001,5002)],.p 5003 31 4 (rows Qwg.enc ([]:List Qwg)),.p 5004 96 5 (rows Qwi.enc ([]:List Qwi))]
noncomputable def Zb (a0:(List Qwl)) (a1:Int) (a2:Int):Option ((List Qwl)) :=
 gd (0≤a1∧a1≤a2∧a2≤a0.length) <|
 some (Qi4 a0 a1.toNat a2.toNat)
theorem Qcg {a0:(List Qwl)} {a1:Int} {a2:Int} {r:(List Qwl)} (h:Zb a0 a1 a2=some r):EffC Tryz.prog 50 [.osl 9000 0 a0.length,dI a1,dI a2] [(9000,.arr 42 14 a0.length (rows Qwl.enc a0))] (.osl 5001 0 r.length) [(5001,.arr 42 14 r.length (rows Qwl.enc r))]:=by
  unfold Zb at h;have L:LDel Tryz.prog ⟨fun x=>match x with | 45=>50 | _=>0,fun x=>match x with | 0=>0 | 3=>3 | 4=>4 | 22=>24 | 23=>42 | _=>0,fun x=>x⟩ 14 (.agg #[.int .i64 0,.int .i64 0,.int .i64 0,.int .i64 0,.int .i64 0,.int .i64 0,.int .i64 0,.int .i64 0,.int .i64 0,.int .i64 0,.int .i64 0,.int .i64 0,.int .i64 0,.int .i64 0]):=⟨by kernel_rfl,⟨Tryz.f50.name,by kernel_rfl,by kernel_rfl⟩,by kernel_rfl,fun w=>by kernel_rfl,fun w=>by kernel_rfl,fun w=>by kernel_rfl,by kernel_rfl,fun w=>by kernel_rfl,fun w=>by kernel_rfl,fun w=>by kernel_rfl,by kernel_rfl,fun w=>by kernel_rfl,fun w=>by kernel_rfl,fun w=>by kernel_rfl,by kernel_rfl,fun w=>by kernel_rfl,fun w=>by kernel_rfl,fun w=>by kernel_rfl,⟨_,rfl,rfl⟩,fun w=>by kernel_rfl,fun w=>by kernel_rfl,by kernel_rfl,fun u hu=>List.all_eq_true.1 (by kernel_rfl:(List.all (Value.cells (.agg #[.int .i64 0,.int .i64 0,.int .i64 0,.int .i64 0,.int .i64 0,.int .i64 0,.int .i64 0,.int .i64 0,.int .i64 0,.int .i64 0,.int .i64 0,.int .i64 0,.int .i64 0,.int .i64 0])).toList Value.oneCell')=true) u hu⟩;obtain ⟨g,h⟩:=Qf h;obtain rfl:=sj_ h;have k:=Qle (t:=42) (enc:=Qwl.enc) L (Qqg (fn:=Tryz.f50) (c:=Qj Tryz.f50) rfl rfl (by kernel_rfl)) (fun _=>rfl) (xs:=a0) (i:=a1.toNat) (j:=a2.toNat) (by omega) (by omega);rw [show ((a1.toNat:Nat):Int)=a1 by omega,show ((a2.toNat:Nat):Int)=a2 by omega] at k;exact k
noncomputable def Zi (a0:Qwj):Option (Qwj) :=
 bd (Zp a0.Keys) fun x1 =>
 bd (QF a0.Want) fun x2 =>
 bd (QF a0.Told) fun x3 =>
 bd (Zt a0.Heard) fun x4 =>
 some ({ a0 with Keys:=x1,Want:=x2,Told:=x3,Heard:=x4 })
theorem Qbr {a0:Qwj} {r:Qwj} (h:Zi a0=some r):EffC Tryz.prog 48 [.agg (heC a0 (.d (slD Qwi.enc a0.Heard)))] [] (.agg (heC r (.osl 5001 0 r.Heard.length))) [(5001,.arr 96 5 r.Heard.length (rows Qwi.enc r.Heard))]:=by
  refine Q7 tOk (fn:=Tryz.f48) (c:=Qj Tryz.f48) rfl rfl ?_;unfold Zi at h;(conv=>whnf);obtain ⟨x1,hx1,h⟩:=Qa h;obtain ⟨x2,hx2,h⟩:=Qa h;obtain ⟨x3,hx3,h⟩:=Qa h;obtain ⟨x4,hx4,h⟩:=Qa h;refine QS tOk [.u 2 1000 (.osl 5001 0 x1.length) [⟨5001,93,2,x1.length,rows Qwf.enc x1⟩],.u 5 2000 (.osl 5001 0 x2.length) [⟨5001,31,4,x2.length,rows Qwg.enc x2⟩],.u 8 3000 (.osl 5001 0 x3.length) [⟨5001,31,4,x3.length,rows Qwg.enc x3⟩],.u 11 4000 (.osl 5001 0 x4.length) [⟨5001,96,5,x4.length,rows Qwi.enc x4⟩]] 13 [] [0,1,3,0,8,31,0,64,255,0,512,2047,1759] [8191,16383,32767,65535,131071,262143,524287] ?_;(conv=>whnf);refine And.intro (QM (Qau hx1) (by kernel_rfl)) ?_;(conv=>whnf);refine And.intro (QM (Zs hx2) (by kernel_rfl)) ?_;(conv=>whnf);refine And.intro (QM (Zs hx3) (by kernel_rfl)) ?_;(conv=>whnf);refine And.intro (QM (QaX hx4) (by kernel_rfl)) ?_;(conv=>whnf);refine And.intro (by kernel_rfl) ?_;(conv=>whnf);obtain rfl:=sj_ h;exact lfE [.f [6001,7001,8001],.s [(5001,9001),(9001,5001)]]
@[reducible] def hsC (s:Qwk) (h:V):List V:=.d (.bool s.Up) :: heC s.End h
@[reducible] def heA (e:Qwj):Blk:=.arr 96 5 e.Heard.length (rows Qwi.enc e.Heard)
noncomputable def Qen (p q:Qwk) (rd:List Qwl):Option (Qwk × Qwk × List Qwl) :=
 bd (Jr rd) fun x1 =>
 bd (Zi p.End) fun x2 =>
 bd (Zi q.End) fun x3 =>
 some (⟨p.Up,x2⟩,⟨q.Up,x3⟩,x1)
theorem Ql9 {p q:Qwk} {rd:List Qwl} {r:Qwk × Qwk × List Qwl} (h:Qen p q rd=some r):EffC Tryz.prog 25 [.agg [.d (slD Qwk.enc [p,q]),.d (slD Qwl.enc rd)]] [] (.agg [.osl 5001 0 2,.osl 5002 0 r.2.2.length])
    [(5001,.box 2000038 (hsC r.1 (.osl 5003 0 r.1.End.Heard.length) ++ hsC r.2.1 (.osl 5004 0 r.2.1.End.Heard.length))),(5002,.arr 42 14 r.2.2.length (rows Qwl.enc r.2.2)),(5003,.arr 96 5 r.1.End.Heard.length (rows Qwi.enc r.1.End.Heard)),(5004,.arr 96 5 r.2.1.End.Heard.length (rows Qwi.enc r.2.1.End.Heard))]:=by
  refine Q7 tOk (fn:=Tryz.f25) (c:=Qj Tryz.f25) rfl rfl ?_;unfold Qen at h;(conv=>whnf);obtain ⟨x1,hx1,h⟩:=Qa h;obtain ⟨x2,hx2,h⟩:=Qa h;obtain ⟨x3,hx3,h⟩:=Qa h;obtain rfl:=sj_ h;refine cC 1000 (Qfi hx1) ?_;clear hx1;(conv=>whnf);refine Qc tOk ?_;(conv=>whnf);refine Qob tOk 3 ?_;(conv=>whnf);refine Qc tOk ?_;(conv=>whnf);refine ⟨fun _=>?_,fun h0=>by cases h0⟩;(conv=>whnf);refine Qc tOk ?_;(conv=>whnf);refine ⟨by simp,?_⟩;(conv=>whnf);refine QaG tOk [.e 6 [] (.agg (heC x2 (.osl 6003 0 x2.Heard.length))) [] [(6003,heA x2)],.a 8 [(6003,heA x2)] (.osl 25 0 1) [(25,(.box 1000038 (hsC ⟨p.Up,x2⟩ (.osl 6003 0 x2.Heard.length)))),(6003,heA x2)],.a 9 [(25,(.box 1000038 (hsC ⟨p.Up,x2⟩ (.osl 6003 0 x2.Heard.length)))),(6003,heA x2)] (.osl 26 0 1) [(26,(.box 1000038 (hsC ⟨p.Up,x2⟩ (.osl 6003 0 x2.Heard.length)))),(25,(.box 1000038 (hsC ⟨p.Up,x2⟩ (.osl 6003 0 x2.Heard.length)))),(6003,heA x2)]] 10 [] [0,1,0,4,0,16,48,124,252,511] [1023,2047] [] ?_;(conv=>whnf);refine And.intro (eH [(5001,6003)] 0 (Qbr hx2)) ?_;(conv=>whnf);refine And.intro (by (conv=>whnf); exact ⟨by kernel_rfl,by kernel_rfl⟩) ?_;(conv=>whnf);refine And.intro (by (conv=>whnf); exact ⟨by kernel_rfl,by kernel_rfl⟩) ?_;(conv=>whnf);refine And.intro (by kernel_rfl) ?_;(conv=>whnf);refine Qtm [1,2,3,11,12,13,14] [.s [(26,7001),(7001,26)],.k [25,5]] ?_;(conv=>whnf);refine ⟨⟨by kernel_rfl⟩,?_⟩;(conv=>whnf);refine Qc tOk ?_;(conv=>whnf);refine ⟨fun _=>?_,fun h0=>by cases h0⟩;(conv=>whnf);refine Qc tOk ?_;(conv=>whnf);refine ⟨⟨(by decide:(0:Int)≤IntKind.i64.wrap (0+1)),(by decide:IntKind.i64.wrap (0+1)<(2:Int))⟩,?_⟩;(conv=>whnf);refine QaG tOk [.e 6 [] (.agg (heC x3 (.osl 6004 0 x3.Heard.length))) [] [(6004,heA x3)],.a 8 [(6004,heA x3)] (.osl 25 0 1) [(25,(.box 1000038 (hsC ⟨q.Up,x3⟩ (.osl 6004 0 x3.Heard.length)))),(6004,heA x3)],.a 9 [(25,(.box 1000038 (hsC ⟨q.Up,x3⟩ (.osl 6004 0 x3.Heard.length)))),(7001,(.box 1000038 (hsC ⟨p.Up,x2⟩ (.osl 6003 0 x2.Heard.length)))),(6004,heA x3)] (.osl 26 0 2) [(26,(.box 2000038 (hsC ⟨p.Up,x2⟩ (.osl 6003 0 x2.Heard.length) ++ hsC ⟨q.Up,x3⟩ (.osl 6004 0 x3.Heard.length)))),(25,(.box 1000038 (hsC ⟨q.Up,x3⟩ (.osl 6004 0 x3.Heard.length)))),(6004,heA x3)]] 10 [] [0,1,0,4,0,16,48,124,252,511] [1023,2047] [7001] ?_;(conv=>whnf);refine And.intro (eH [(5001,6004)] 0 (Qbr hx3)) ?_;(conv=>whnf);refine And.intro (by (conv=>whnf); exact ⟨by kernel_rfl,by kernel_rfl⟩) ?_;(conv=>whnf);refine And.intro (by (conv=>whnf); exact ⟨by kernel_rfl,by kernel_rfl⟩) ?_;(conv=>whnf);refine And.intro (by kernel_rfl) ?_;(conv=>whnf);refine Qtm [1,2,3,11,12,13,14] [] ?_;(conv=>whnf);refine Qc tOk ?_;(conv=>whnf);refine ⟨fun h0=>(by cases h0),fun _=>?_⟩;(conv=>whnf);exact lfE [.s [(26,5001),(5001,26),(6001,5002),(5002,6001),(6003,5003),(5003,6003),(6004,5004),(5004,6004)]]
@[reducible] def hwR (rd:List Qwl):Blk:=.arr 42 14 rd.length (rows Qwl.enc rd)
@[reducible] def hwS (h0 h1:Nat) (s0 s1:Qwk):Blk:=.box 2000038 (hsC s0 (.osl h0 0 s0.End.Heard.length) ++ hsC s1 (.osl h1 0 s1.End.Heard.length))
@[reducible] def hwB (q S R h0 h1:Nat) (s0 s1:Qwk) (rd:List Qwl):List (Nat × Blk):=[(q,.box 26 [.osl S 0 2,.osl R 0 rd.length]),(S,hwS h0 h1 s0 s1),(R,hwR rd),(h0,heA s0.End),(h1,heA s1.End)]
noncomputable def Qd5 (rd:List Qwl) (x:Qwl):Option (List Qwl) :=
(if (decide (((rd.length:Nat):Int)<12))=true then
 gd (((rd.length)+(([x]:List Qwl).length))*(112+1)≤70368744177664) <|
 some (rd ++ ([x]:List Qwl))
else
 some rd)
theorem QiB {s0 s1:Qwk} {rd r:List Qwl} {x:Qwl} (h:Qd5 rd x=some r):EffC Tryz.prog 29 [.ref 9000 0 0,.agg (hwC x)] (hwB 9000 9001 9002 9003 9004 s0 s1 rd) (.tup []) (hwB 9000 9001 5002 9003 9004 s0 s1 r):=by
  refine Q7 tOk (fn:=Tryz.f29) (c:=Qj Tryz.f29) rfl rfl ?_;unfold Qd5 at h;(conv=>whnf);refine Qz h (fun _ h=>?_) (fun _ h=>?_)
  · (conv=>whnf);obtain ⟨g1,h⟩:=Qf h;refine QaG tOk [.a 7 [(9002,hwR rd)] (.osl 17 0 ((rd ++ ([x]:List Qwl)).length)) [(17,hwR (rd ++ [x]))]] 10 [] [0,0,2,6,14,0,32,126,255,511] [1023] [9002] ?_;(conv=>whnf);refine Qj1 (enc:=Qwl.enc) ([x]:List Qwl) ?_;(conv=>whnf);refine And.intro (by (conv=>whnf); exact ⟨g1,Qj2 (enc:=Qwl.enc) (xs:=rd) (ys:=([x]:List Qwl)) ⟨rfl,rfl⟩⟩) ?_;(conv=>whnf);refine And.intro (by kernel_rfl) ?_;(conv=>whnf);obtain rfl:=sj_ h;exact lfE [.s [(17,5002),(5002,17)]]
  · (conv=>whnf);obtain rfl:=sj_ h;exact lfE [.s [(5002,9002),(9002,5002)]]
@[reducible] def Qpl (e r:Qwj):Qwj:={ r with Name:=e.Name,Peer:=e.Peer,Keys:=e.Keys,Boot:=e.Boot,Want:=e.Want,Turn:=e.Turn }
noncomputable def Qeo (s0 s1:Qwk) (x:Qwl):Option (Qwk × Qwk) :=
(if (s0.Up && (s0.End.Name == x.To))=true then
 bd (ZW s0.End x) fun r=>some (⟨s0.Up,Qpl s0.End r⟩,s1)
else
(if (s1.Up && (s1.End.Name == x.To))=true then
 bd (ZW s1.End x) fun r=>some (s0,⟨s1.Up,Qpl s1.End r⟩)
else
 some (s0,s1)))
theorem Qpm {s0 s1:Qwk} {rd:List Qwl} {r:Qwk × Qwk} {x:Qwl} (h:Qeo s0 s1 x=some r):EffC Tryz.prog 51 [.ref 9000 0 0,.agg (hwC x)] (hwB 9000 9001 9002 9003 9004 s0 s1 rd) (.tup []) (hwB 9000 9001 9002 5003 5004 r.1 r.2 rd):=by
  refine Q7 tOk (fn:=Tryz.f51) (c:=Qj Tryz.f51) rfl rfl ?_;unfold Qeo at h;(conv=>whnf);refine Qob tOk 3 ?_;(conv=>whnf);refine Qc tOk ?_;(conv=>whnf);refine ⟨fun _=>?_,fun h0=>by cases h0⟩;(conv=>whnf);refine Qc tOk ?_;(conv=>whnf);refine ⟨⟨by decide,by decide⟩,?_⟩;(conv=>whnf);refine QS tOk [] 14 [] [0,1,3,7,15,31,63,127,255,511,31,1055,4095,8191] [] ?_;(conv=>whnf);refine And.intro (by kernel_rfl) ?_;(conv=>whnf);refine Qz h (fun _ h=>?_) (fun _ h=>?_)
  · (conv=>whnf);obtain ⟨x1,hx1,h⟩:=Qa h;obtain rfl:=sj_ h;refine QaG tOk [.e 4 [(9001,hwS 9003 9004 s0 s1),(9003,heA s0.End),(9004,heA s1.End)] (.tup []) [] [(6003,heA x1),(9001,hwS 6003 9004 ⟨s0.Up,Qpl s0.End x1⟩ s1),(9004,heA s1.End)]] 5 [] [0,1,3,0,15] [] [9001,9003,9004] ?_;(conv=>whnf);refine And.intro (eH [(9002,9001),(9001,9003),(9003,9004),(5001,6003)] 0 (Qtn 9002 2000038 [.d (.bool s0.Up)] (hsC s1 (.osl 9003 0 s1.End.Heard.length)) [(9003,heA s1.End)] (Qdq hx1))) ?_;(conv=>whnf);refine And.intro (by kernel_rfl) ?_;(conv=>whnf);exact lfE [.s [(6003,5003),(5003,6003),(9004,5004),(5004,9004)]]
  · (conv=>whnf);refine Qc tOk ?_;(conv=>whnf);refine ⟨fun _=>?_,fun h0=>by cases h0⟩;(conv=>whnf);refine Qc tOk ?_;(conv=>whnf);refine ⟨⟨by decide,by decide⟩,?_⟩;(conv=>whnf);refine QS tOk [] 14 [] [0,1,3,7,15,31,63,127,255,511,31,1055,4095,8191] [] ?_;(conv=>whnf);refine And.intro (by kernel_rfl) ?_;(conv=>whnf);refine Qz h (fun _ h=>?_) (fun _ h=>?_)
    · (conv=>whnf);obtain ⟨x1,hx1,h⟩:=Qa h;obtain rfl:=sj_ h;refine QaG tOk [.e 4 [(9001,hwS 9003 9004 s0 s1),(9003,heA s0.End),(9004,heA s1.End)] (.tup []) [] [(6003,heA x1),(9001,hwS 9003 6003 s0 ⟨s1.Up,Qpl s1.End x1⟩),(9003,heA s0.End)]] 5 [] [0,1,3,0,15] [] [9001,9003,9004] ?_;(conv=>whnf);refine And.intro (eH [(9002,9001),(9001,9004),(9003,9003),(5001,6003)] 0 (Qtn 9002 2000038 (hsC s0 (.osl 9003 0 s0.End.Heard.length) ++ [.d (.bool s1.Up)]) [] [(9003,heA s0.End)] (Qdq hx1))) ?_;(conv=>whnf);refine And.intro (by kernel_rfl) ?_;(conv=>whnf);exact lfE [.s [(9003,5003),(5003,9003),(6003,5004),(5004,6003)]]
    · (conv=>whnf);obtain rfl:=sj_ h;refine Qc tOk ?_;(conv=>whnf);refine ⟨fun h0=>(by cases h0),fun _=>?_⟩;(conv=>whnf);exact lfE [.s [(9003,5003),(5003,9003),(9004,5004),(5004,9004)]]
end Go.Proofs.YtjgjdobkahdgfaaGreat
