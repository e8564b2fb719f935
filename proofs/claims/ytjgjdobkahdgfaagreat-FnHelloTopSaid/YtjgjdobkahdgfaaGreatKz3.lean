/-
  What some of the program's functions compute: their models, and that the functions compute these; no condition.
-/
import Derived.Test.YtjgjdobkahdgfaaGreatTyz
import Derived.Test.YtjgjdobkahdgfaaGreatTbz
import Derived.Test.YtjgjdobkahdgfaaGreatAbz7
import Derived.Test.YtjgjdobkahdgfaaGreatKz2
set_option linter.all false
namespace Go.Proofs.YtjgjdobkahdgfaaGreat
open Go Go.Ab
set_option maxRecDepth 100000
set_option maxHeartbeats 40000000
noncomputable def JT (a0:Qwj):Option (Qwj) :=
 bd (lp (σ:=Unit) (β:=(Unit)) (fun s1 =>
(if (decide ((0:Int)<((a0.Heard.length:Nat):Int)))=true then
 none
else
 some (.inr ()))) ()) fun x4 =>
(if ((decide (((a0.Heard.length:Nat):Int) > 0)) && (a0.Keep == 0))=true then
 some ({ a0 with Keep:=6 })
else
 some a0)
theorem Qf6 {a0:Qwj} {r:Qwj} (h:JT a0=some r):EffC Tryz.prog 161 [.agg (heC a0 (.d (slD Qwi.enc a0.Heard)))] [] (.agg (heC r (.d (slD Qwi.enc r.Heard)))) []:=by
  refine Q7 tOk (fn:=Tryz.f161) (c:=Qj Tryz.f161) rfl rfl ?_;unfold JT at h;(conv=>whnf);refine Qc tOk ?_;(conv=>whnf);obtain ⟨x4,hx4,h⟩:=Qa h;refine Zj tOk hx4 (fun s1=>⟨0,27,[(1,.ref 1 0 0),(2,.ref 2 0 0),(3,dI 0)],[],[(2,.box 36 [dI 0,dI 0,.d (.nil),dI 0,.d (.nil),dI 0,dI 0,dI 0,dB false,dI 0,dI 0,dI 0,dI 0,dI 0,dI 0,dI 0,.d (.nil),dB false,dI 0,dB false,.d (.nil),dI 0]),(1,.box 36 (heC a0 (.d (slD Qwi.enc a0.Heard))))],[⟨[],[]⟩]⟩) ?_ ?_
  · exact leX []
  · clear hx4;intro s1 y2 g3 hy2;(conv=>whnf);refine Qc tOk ?_;(conv=>whnf);refine Qz g3 (fun _ g3=>?_) (fun _ g3=>?_)
    · (conv=>whnf);refine Qc tOk ?_;(conv=>whnf);cases g3
    · (conv=>whnf);obtain rfl:=sj_ g3;obtain rfl:=hy2 _ rfl;refine Qc tOk ?_;(conv=>whnf);refine Qz h (fun _ h=>?_) (fun _ h=>?_)
      · (conv=>whnf);obtain rfl:=sj_ h;exact lfE []
      · (conv=>whnf);obtain rfl:=sj_ h;exact lfE []
noncomputable def Jt (a0:Qwj):Option (Qwj) :=
 bd (JT ({ a0 with Up:=false,Num:=0,Under:=(⟨0,(⟨0,0,0,0⟩:Qwg)⟩:Qwh),Told:=[],All:=false,Got:=0,Full:=false })) fun x1 =>
 some x1
theorem QdM {a0:Qwj} {r:Qwj} (h:Jt a0=some r):EffC Tryz.prog 147 [.agg (heC a0 (.d (slD Qwi.enc a0.Heard)))] [] (.agg (heC r (.d (slD Qwi.enc r.Heard)))) []:=by
  refine Q7 tOk (fn:=Tryz.f147) (c:=Qj Tryz.f147) rfl rfl ?_;unfold Jt at h;(conv=>whnf);obtain ⟨x1,hx1,h⟩:=Qa h;refine cE [] 0 (Qf6 hx1) ?_;(conv=>whnf);obtain rfl:=sj_ h;exact lfE []
noncomputable def Qaf (a0:Qwj):Option (Qwj) :=
(if (decide (a0.Boot<1000))=true then
 bd (Jt ({ a0 with Boot:=IntKind.i64.wrap (a0.Boot+1),Turn:=0,Left:=0 })) fun x1 =>
 some x1
else
 bd (Jt ({ a0 with Turn:=0,Left:=0 })) fun x2 =>
 some x2)
theorem Qgt {a0:Qwj} {r:Qwj} (h:Qaf a0=some r):EffC Tryz.prog 118 [.agg (heC a0 (.d (slD Qwi.enc a0.Heard)))] [] (.agg (heC r (.d (slD Qwi.enc r.Heard)))) []:=by
  refine Q7 tOk (fn:=Tryz.f118) (c:=Qj Tryz.f118) rfl rfl ?_;unfold Qaf at h;(conv=>whnf);refine Qc tOk ?_;(conv=>whnf);refine Qz h (fun _ h=>?_) (fun _ h=>?_)
  · (conv=>whnf);obtain ⟨x1,hx1,h⟩:=Qa h;refine cE [] 0 (QdM hx1) ?_;(conv=>whnf);obtain rfl:=sj_ h;exact lfE []
  · (conv=>whnf);obtain ⟨x2,hx2,h⟩:=Qa h;refine cE [] 0 (QdM hx2) ?_;(conv=>whnf);obtain rfl:=sj_ h;exact lfE []
noncomputable def Qbh (a0:Qwm):Option ((List Qwl)) :=
 bd (lp (σ:=List Qwl × Int) (β:=(Nat × (List Qwl))) (fun s1 =>
(if (decide (s1.2<((a0.Radio.length:Nat):Int)))=true then
 gd ((0:Int)≤0∧0<((a0.Sides.length:Nat):Int)) <|
 gd ((0:Int)≤s1.2∧s1.2<((a0.Radio.length:Nat):Int)) <|
 bd (ZN (((a0.Sides.getD 0 default).End).Keys) ({ (a0.Radio.getD s1.2.toNat default) with Change:=(⟨((a0.Radio.getD s1.2.toNat default).Change).Kind,(((a0.Radio.getD s1.2.toNat default).Change).Entry)⟩:Qwh) })) fun x7 =>
 gd (x7=false→((0:Int)≤1∧1<((a0.Sides.length:Nat):Int))) <|
 gd (x7=false→((0:Int)≤s1.2∧s1.2<((a0.Radio.length:Nat):Int))) <|
 bd (gcall (x7=false) (ZN (((a0.Sides.getD 1 default).End).Keys) ({ (a0.Radio.getD s1.2.toNat default) with Change:=(⟨((a0.Radio.getD s1.2.toNat default).Change).Kind,(((a0.Radio.getD s1.2.toNat default).Change).Entry)⟩:Qwh) }))) fun x10 =>
(if (x7 || x10)=true then
 gd ((0:Int)≤s1.2∧s1.2<((a0.Radio.length:Nat):Int)) <|
 gd (((s1.1.length)+(([{ (a0.Radio.getD s1.2.toNat default) with Change:=(⟨((a0.Radio.getD s1.2.toNat default).Change).Kind,(((a0.Radio.getD s1.2.toNat default).Change).Entry)⟩:Qwh) }]:List Qwl).length))*(112+1)≤70368744177664) <|
 some (.inl ((s1.1 ++ ([{ (a0.Radio.getD s1.2.toNat default) with Change:=(⟨((a0.Radio.getD s1.2.toNat default).Change).Kind,(((a0.Radio.getD s1.2.toNat default).Change).Entry)⟩:Qwh) }]:List Qwl)),IntKind.i64.wrap (s1.2+1)))
else
 some (.inl (s1.1,IntKind.i64.wrap (s1.2+1))))
else
 some (.inr (s1.1.length,s1.1)))) (([]:List Qwl),0)) fun x4 =>
 some x4.2
theorem Qka {a0:Qwm} {r:(List Qwl)} (h:Qbh a0=some r):PureC Tryz.prog 121 [.agg [.d (slD Qwk.enc a0.Sides),.d (slD Qwl.enc a0.Radio)]] (.osl 5001 0 r.length) [⟨5001,42,14,r.length,rows Qwl.enc r⟩]:=by
  refine Qq tOk (fn:=Tryz.f121) (c:=Qj Tryz.f121) rfl rfl ?_;unfold Qbh at h;(conv=>whnf);refine Qc tOk ?_;(conv=>whnf);obtain ⟨x4,hx4,h⟩:=Qa h;refine Zj tOk hx4 (fun s1=>⟨0,48,[(1,.ref 1 0 0),(3,.osl 7001 0 s1.1.length),(4,dI s1.2)],[],[(7001,.arr 42 14 s1.1.length (rows Qwl.enc s1.1)),(1,.box 26 [.d (slD Qwk.enc a0.Sides),.d (slD Qwl.enc a0.Radio)])],[]⟩) ?_ ?_
  · exact leX [.p 7001 42 14 (rows Qwl.enc ([]:List Qwl))]
  · clear hx4;intro s1 y2 g3 hy2;(conv=>whnf);refine Qc tOk ?_;(conv=>whnf);refine Qz g3 (fun _ g3=>?_) (fun _ g3=>?_)
    · (conv=>whnf);refine Qc tOk ?_;(conv=>whnf);obtain ⟨g5,g3⟩:=Qf g3;obtain ⟨g6,g3⟩:=Qf g3;obtain ⟨x7,hx7,g3⟩:=Qa g3;obtain ⟨g8,g3⟩:=Qf g3;obtain ⟨g9,g3⟩:=Qf g3;obtain ⟨x10,hx10,g3⟩:=Qa g3;refine QS tOk [.u 11 0 (dB x7) [],.u 24 0 (dB x10) []] 26 [] [0,1,3,7,15,31,0,64,0,448,960,2047,4095,8191,16383,32767,65535,131071,262143,8191,532479,8191,3678207,7872511,16777215,33554431] [] ?_;(conv=>whnf);refine And.intro g5 ?_;clear g5;(conv=>whnf);refine And.intro g6 ?_;clear g6;(conv=>whnf);refine And.intro (QM (QaK hx7) (by kernel_rfl)) ?_;(conv=>whnf);refine And.intro g8 ?_;clear g8;(conv=>whnf);refine And.intro g9 ?_;clear g9;(conv=>whnf);refine And.intro (Q1 rfl rfl rfl rfl (by intro c0; exact QaK (Qd hx10 c0))) ?_;(conv=>whnf);refine And.intro (by kernel_rfl) ?_;(conv=>whnf);refine Qz g3 (fun _ g3=>?_) (fun _ g3=>?_)
      · (conv=>whnf);refine gdI g3 (fun g3=>?_);(conv=>whnf);refine Qj1 (enc:=Qwl.enc) ([{ (a0.Radio.getD s1.2.toNat default) with Change:=(⟨((a0.Radio.getD s1.2.toNat default).Change).Kind,(((a0.Radio.getD s1.2.toNat default).Change).Entry)⟩:Qwh) }]:List Qwl) ?_;(conv=>whnf);refine gdI g3 (fun g3=>?_);refine Qj2 (enc:=Qwl.enc) (xs:=s1.1) (ys:=([{ (a0.Radio.getD s1.2.toNat default) with Change:=(⟨((a0.Radio.getD s1.2.toNat default).Change).Kind,(((a0.Radio.getD s1.2.toNat default).Change).Entry)⟩:Qwh) }]:List Qwl)) ?_;(conv=>whnf);obtain rfl:=sj_ g3;exact ⟨_,rfl,leX []⟩
      · (conv=>whnf);obtain rfl:=sj_ g3;exact ⟨_,rfl,leX []⟩
    · (conv=>whnf);obtain rfl:=sj_ g3;obtain rfl:=hy2 _ rfl;obtain rfl:=sj_ h;exact lfP [.s [(5001,7001),(7001,5001)]]
noncomputable def Qbi (a0:Qwm) (a1:Qwn):Option (Qwm) :=
 bd (QB a1.At 0 1) fun x1 =>
(if (!x1)=true then
 some a0
else
 gd ((0:Int)≤a1.At∧a1.At<((a0.Sides.length:Nat):Int)) <|
 bd (α:=(List Qwk × List Qwl) ⊕ ((List Qwl) × Nat × (List Qwk))) ((if (a1.Kind == 1)=true then
(if (a0.Sides.getD a1.At.toNat default).Up=true then
 bd (Qae ({ ((a0.Sides.getD a1.At.toNat default).End) with Under:=(⟨(((a0.Sides.getD a1.At.toNat default).End).Under).Kind,((((a0.Sides.getD a1.At.toNat default).End).Under).Entry)⟩:Qwh) })) fun x6 =>
 gd ((0:Int)≤a1.At∧a1.At<((a0.Sides.length:Nat):Int)) <|
(if x6.2.2=true then
 bd (Jz (⟨a0.Sides.set a1.At.toNat (⟨(a0.Sides.getD a1.At.toNat default).Up,x6.1⟩:Qwk),a0.Radio⟩:Qwm) x6.2.1) fun x8 =>
 some (.inr (x8.Radio,x8.Radio.length,x8.Sides))
else
 some (.inl (a0.Sides.set a1.At.toNat (⟨(a0.Sides.getD a1.At.toNat default).Up,x6.1⟩:Qwk),a0.Radio)))
else
 some (.inl (a0.Sides,a0.Radio)))
else
(if (a1.Kind == 5)=true then
(if (a0.Sides.getD a1.At.toNat default).Up=true then
 bd (Qa6 ({ ((a0.Sides.getD a1.At.toNat default).End) with Under:=(⟨(((a0.Sides.getD a1.At.toNat default).End).Under).Kind,((((a0.Sides.getD a1.At.toNat default).End).Under).Entry)⟩:Qwh) })) fun x9 =>
 gd ((0:Int)≤a1.At∧a1.At<((a0.Sides.length:Nat):Int)) <|
 some (.inl (a0.Sides.set a1.At.toNat (⟨(a0.Sides.getD a1.At.toNat default).Up,x9⟩:Qwk),a0.Radio))
else
 some (.inl (a0.Sides,a0.Radio)))
else
(if (a1.Kind == 6)=true then
 bd (QcX ({ ((a0.Sides.getD a1.At.toNat default).End) with Under:=(⟨(((a0.Sides.getD a1.At.toNat default).End).Under).Kind,((((a0.Sides.getD a1.At.toNat default).End).Under).Entry)⟩:Qwh) })) fun x11 =>
 gd ((0:Int)≤a1.At∧a1.At<((a0.Sides.length:Nat):Int)) <|
 some (.inl (a0.Sides.set a1.At.toNat (⟨false,x11⟩:Qwk),a0.Radio))
else
(if (a1.Kind == 7)=true then
(if (!((a0.Sides.getD a1.At.toNat default).Up))=true then
 bd (Qaf ({ ((a0.Sides.getD a1.At.toNat default).End) with Under:=(⟨(((a0.Sides.getD a1.At.toNat default).End).Under).Kind,((((a0.Sides.getD a1.At.toNat default).End).Under).Entry)⟩:Qwh) })) fun x13 =>
 gd ((0:Int)≤a1.At∧a1.At<((a0.Sides.length:Nat):Int)) <|
 some (.inl (a0.Sides.set a1.At.toNat (⟨true,x13⟩:Qwk),a0.Radio))
else
 some (.inl (a0.Sides,a0.Radio)))
else
(if (a1.Kind == 8)=true then
 bd (ZG a1.Want) fun x15 =>
(if x15=true then
 bd (Q8 a1.Want) fun x16 =>
 gd ((0:Int)≤a1.At∧a1.At<((a0.Sides.length:Nat):Int)) <|
 bd (some (a0.Sides.set a1.At.toNat (⟨(a0.Sides.getD a1.At.toNat default).Up,{ ((a0.Sides.getD a1.At.toNat default).End) with Want:=x16,Under:=(⟨(((a0.Sides.getD a1.At.toNat default).End).Under).Kind,((((a0.Sides.getD a1.At.toNat default).End).Under).Entry)⟩:Qwh) }⟩:Qwk))) fun x18 =>
 some (.inl (x18,a0.Radio))
else
 some (.inl (a0.Sides,a0.Radio)))
else
(if (a1.Kind == 9)=true then
 bd (Jh a1.Keys) fun x19 =>
(if x19=true then
 bd (Qbh a0) fun x20 =>
 bd (Qaw a1.Keys) fun x21 =>
 gd ((0:Int)≤a1.At∧a1.At<((a0.Sides.length:Nat):Int)) <|
 bd (some (a0.Sides.set a1.At.toNat (⟨(a0.Sides.getD a1.At.toNat default).Up,{ ((a0.Sides.getD a1.At.toNat default).End) with Keys:=x21,Under:=(⟨(((a0.Sides.getD a1.At.toNat default).End).Under).Kind,((((a0.Sides.getD a1.At.toNat default).End).Under).Entry)⟩:Qwh) }⟩:Qwk))) fun x23 =>
 some (.inl (x23,x20))
else
 some (.inl (a0.Sides,a0.Radio)))
else
 some (.inl (a0.Sides,a0.Radio))))))))) fun x3 =>
(match x3 with
| .inl d5 =>
 some (⟨d5.1,d5.2⟩:Qwm)
| .inr d24 =>
 some (⟨d24.2.2,d24.1⟩:Qwm)))
theorem Qkb {a0:Qwm} {a1:Qwn} {r:Qwm} (h:Qbi a0 a1=some r):EffC Tryz.prog 78 [.agg [.osl 9000 0 a0.Sides.length,.osl 9001 0 a0.Radio.length],.agg (dI a1.Kind :: dI a1.At :: .d (slD Qwg.enc a1.Want) :: .d (slD Qwf.enc a1.Keys) :: hwC a1.Word)] [(9000,.arr 38 23 a0.Sides.length (rows Qwk.enc a0.Sides)),(9001,.arr 42 14 a0.Radio.length (rows Qwl.enc a0.Radio))] (.agg [.d (slD Qwk.enc r.Sides),.d (slD Qwl.enc r.Radio)]) []:=by
  refine Q7 tOk (fn:=Tryz.f78) (c:=Qj Tryz.f78) rfl rfl ?_;unfold Qbi at h;(conv=>whnf);refine Qc tOk ?_;(conv=>whnf);obtain ⟨x1,hx1,h⟩:=Qa h;refine cC 0 (QK hx1) ?_;clear hx1;(conv=>whnf);refine Qz h (fun _ h=>?_) (fun _ h=>?_)
  · (conv=>whnf);obtain rfl:=sj_ h;exact lfE [.f [9000,9001]]
  · (conv=>whnf);refine gdI h (fun h=>?_);(conv=>whnf);obtain ⟨x3,hx3,h⟩:=Qa h;refine JZ tOk (fun s4=>⟨0,116,[(2,.ref 2 0 0),(4,.ref 4 0 0)],[],[(4,.box 26 [.d (.nil),.d (.nil)]),(2,.box 26 [.osl 9000 0 s4.1.length,.osl 9001 0 s4.2.length]),(9000,.arr 38 23 s4.1.length (rows Qwk.enc s4.1)),(9001,.arr 42 14 s4.2.length (rows Qwl.enc s4.2))],[⟨[],[]⟩]⟩) (fun s4=>x3=.inl s4) ?_ ?_
    · (conv=>whnf);refine Qz hx3 (fun _ hx3=>?_) (fun _ hx3=>?_)
      · (conv=>whnf);refine Qz hx3 (fun _ hx3=>?_) (fun _ hx3=>?_)
        · (conv=>whnf);obtain ⟨x6,hx6,hx3⟩:=Qa hx3;refine cC 1000 (Qi3 hx6) ?_;clear hx6;(conv=>whnf);refine gdI hx3 (fun hx3=>?_);(conv=>whnf);refine ⟨rows Qwk.enc (a0.Sides.set a1.At.toNat (⟨(a0.Sides.getD a1.At.toNat default).Up,x6.1⟩:Qwk)),Jg Qm7 rfl,?_⟩;(conv=>whnf);refine Qz hx3 (fun _ hx3=>?_) (fun _ hx3=>?_)
          · (conv=>whnf);obtain ⟨x8,hx8,hx3⟩:=Qa hx3;refine Qgd [9000] ?_;(conv=>whnf);refine cE [(9000,9001)] 1000 (QeG hx8) ?_;(conv=>whnf);obtain rfl:=sj_ hx3;obtain rfl:=sj_ h;exact lfE [.f [6001]]
          · (conv=>whnf);obtain rfl:=sj_ hx3;exact ⟨_,rfl,leX []⟩
        · (conv=>whnf);obtain rfl:=sj_ hx3;exact ⟨_,rfl,leX []⟩
      · (conv=>whnf);refine Qz hx3 (fun _ hx3=>?_) (fun _ hx3=>?_)
        · (conv=>whnf);refine Qz hx3 (fun _ hx3=>?_) (fun _ hx3=>?_)
          · (conv=>whnf);obtain ⟨x9,hx9,hx3⟩:=Qa hx3;obtain ⟨g10,hx3⟩:=Qf hx3;refine QS tOk [.u 6 1000 (.agg (dI x9.Name :: dI x9.Peer :: .osl 5001 0 x9.Keys.length :: dI x9.Boot :: .osl 5002 0 x9.Want.length :: dI x9.Turn :: dI x9.PeerBoot :: dI x9.PeerTurn :: dB x9.Up :: dI x9.Left :: dI x9.Num :: dI x9.Under.Kind :: hnC x9.Under.Entry ++ [.osl 5003 0 x9.Told.length,dB x9.All,dI x9.Got,dB x9.Full,.osl 5004 0 x9.Heard.length,dI x9.Keep])) [⟨5001,93,2,x9.Keys.length,rows Qwf.enc x9.Keys⟩,⟨5002,31,4,x9.Want.length,rows Qwg.enc x9.Want⟩,⟨5003,31,4,x9.Told.length,rows Qwg.enc x9.Told⟩,⟨5004,96,5,x9.Heard.length,rows Qwi.enc x9.Heard⟩]] 9 [] [0,1,0,4,0,16,48,127,255] [511] ?_;(conv=>whnf);refine And.intro (QM (Qiv hx9) (by kernel_rfl)) ?_;(conv=>whnf);refine And.intro g10 ?_;clear g10;(conv=>whnf);refine And.intro (by kernel_rfl) ?_;(conv=>whnf);refine ⟨rows Qwk.enc (a0.Sides.set a1.At.toNat (⟨(a0.Sides.getD a1.At.toNat default).Up,x9⟩:Qwk)),Jg Qm7 rfl,?_⟩;(conv=>whnf);obtain rfl:=sj_ hx3;exact ⟨_,rfl,leX []⟩
          · (conv=>whnf);obtain rfl:=sj_ hx3;exact ⟨_,rfl,leX []⟩
        · (conv=>whnf);refine Qz hx3 (fun _ hx3=>?_) (fun _ hx3=>?_)
          · (conv=>whnf);obtain ⟨x11,hx11,hx3⟩:=Qa hx3;obtain ⟨g12,hx3⟩:=Qf hx3;refine QS tOk [.u 6 1000 (.agg (dI x11.Name :: dI x11.Peer :: .osl 5001 0 x11.Keys.length :: dI x11.Boot :: .osl 5002 0 x11.Want.length :: dI x11.Turn :: dI x11.PeerBoot :: dI x11.PeerTurn :: dB x11.Up :: dI x11.Left :: dI x11.Num :: dI x11.Under.Kind :: hnC x11.Under.Entry ++ [.osl 5003 0 x11.Told.length,dB x11.All,dI x11.Got,dB x11.Full,.osl 5004 0 x11.Heard.length,dI x11.Keep])) [⟨5001,93,2,x11.Keys.length,rows Qwf.enc x11.Keys⟩,⟨5002,31,4,x11.Want.length,rows Qwg.enc x11.Want⟩,⟨5003,31,4,x11.Told.length,rows Qwg.enc x11.Told⟩,⟨5004,96,5,x11.Heard.length,rows Qwi.enc x11.Heard⟩]] 9 [] [0,1,0,4,0,16,48,112,255] [511] ?_;(conv=>whnf);refine And.intro (QM (Qj9 hx11) (by kernel_rfl)) ?_;(conv=>whnf);refine And.intro g12 ?_;clear g12;(conv=>whnf);refine And.intro (by kernel_rfl) ?_;(conv=>whnf);refine ⟨rows Qwk.enc (a0.Sides.set a1.At.toNat (⟨false,x11⟩:Qwk)),Jg Qm7 rfl,?_⟩;(conv=>whnf);obtain rfl:=sj_ hx3;exact ⟨_,rfl,leX []⟩
          · (conv=>whnf);refine Qz hx3 (fun _ hx3=>?_) (fun _ hx3=>?_)
            · (conv=>whnf);refine Qz hx3 (fun _ hx3=>?_) (fun _ hx3=>?_)
              · (conv=>whnf);obtain ⟨x13,hx13,hx3⟩:=Qa hx3;obtain ⟨g14,hx3⟩:=Qf hx3;refine QaG tOk [.e 6 [] (.agg (heC x13 (.d (slD Qwi.enc x13.Heard)))) [] []] 9 [] [0,1,0,4,0,16,48,112,255] [511] [] ?_;(conv=>whnf);refine And.intro (eD [] 0 (Qgt hx13)) ?_;(conv=>whnf);refine And.intro g14 ?_;clear g14;(conv=>whnf);refine And.intro (by kernel_rfl) ?_;(conv=>whnf);refine ⟨rows Qwk.enc (a0.Sides.set a1.At.toNat (⟨true,x13⟩:Qwk)),Jg Qm7 rfl,?_⟩;(conv=>whnf);obtain rfl:=sj_ hx3;exact ⟨_,rfl,leX []⟩
              · (conv=>whnf);obtain rfl:=sj_ hx3;exact ⟨_,rfl,leX []⟩
            · (conv=>whnf);refine Qz hx3 (fun _ hx3=>?_) (fun _ hx3=>?_)
              · (conv=>whnf);obtain ⟨x15,hx15,hx3⟩:=Qa hx3;refine cC 0 (QaW hx15) ?_;clear hx15;(conv=>whnf);refine Qz hx3 (fun _ hx3=>?_) (fun _ hx3=>?_)
                · (conv=>whnf);obtain ⟨x16,hx16,hx3⟩:=Qa hx3;obtain ⟨g17,hx3⟩:=Qf hx3;refine QS tOk [.u 6 1000 (.osl 5001 0 x16.length) [⟨5001,31,4,x16.length,rows Qwg.enc x16⟩]] 10 [] [0,1,0,4,0,16,48,127,255,511] [1023] ?_;(conv=>whnf);refine And.intro (QM (ZF hx16) (by kernel_rfl)) ?_;(conv=>whnf);refine And.intro g17 ?_;clear g17;(conv=>whnf);refine And.intro (by kernel_rfl) ?_;(conv=>whnf);obtain ⟨x18,hx18,hlx18,hx3⟩:=Ql6 hx3;refine Qu4 (enc:=Qwk.enc) hx18 ?_;(conv=>whnf);obtain rfl:=sj_ hx3;exact ⟨_,rfl,leX []⟩
                · (conv=>whnf);obtain rfl:=sj_ hx3;exact ⟨_,rfl,leX []⟩
              · (conv=>whnf);refine Qz hx3 (fun _ hx3=>?_) (fun _ hx3=>?_)
                · (conv=>whnf);obtain ⟨x19,hx19,hx3⟩:=Qa hx3;refine cC 0 (Qcq hx19) ?_;clear hx19;(conv=>whnf);refine Qz hx3 (fun _ hx3=>?_) (fun _ hx3=>?_)
                  · (conv=>whnf);obtain ⟨x20,hx20,hx3⟩:=Qa hx3;refine cC 1000 (Qka hx20) ?_;clear hx20;(conv=>whnf);obtain ⟨x21,hx21,hx3⟩:=Qa hx3;obtain ⟨g22,hx3⟩:=Qf hx3;refine QS tOk [.u 6 2000 (.osl 5001 0 x21.length) [⟨5001,93,2,x21.length,rows Qwf.enc x21⟩]] 10 [] [0,1,0,4,0,16,48,127,255,511] [1023] ?_;(conv=>whnf);refine And.intro (QM (Qec hx21) (by kernel_rfl)) ?_;(conv=>whnf);refine And.intro g22 ?_;clear g22;(conv=>whnf);refine And.intro (by kernel_rfl) ?_;(conv=>whnf);obtain ⟨x23,hx23,hlx23,hx3⟩:=Ql6 hx3;refine Qu4 (enc:=Qwk.enc) hx23 ?_;(conv=>whnf);obtain rfl:=sj_ hx3;exact ⟨_,rfl,leX [.s [(6001,9001),(9001,6001)]]⟩
                  · (conv=>whnf);obtain rfl:=sj_ hx3;exact ⟨_,rfl,leX []⟩
                · (conv=>whnf);obtain rfl:=sj_ hx3;exact ⟨_,rfl,leX []⟩
    · intro d5 hdd5;subst hdd5;(conv=>whnf);obtain rfl:=sj_ h;exact lfE [.f [9000,9001]]
noncomputable def Qc6 (a0:Qwm) (a1:Qwn):Option (Qwm) :=
 bd (α:=Bool) ((if (a1.Kind == 2)=true then
 some (a1.Kind == 2)
else
(if (a1.Kind == 3)=true then
 some (a1.Kind == 3)
else
 some (a1.Kind == 4)))) fun x1 =>
(if x1=true then
 bd (Qb2 a0 a1) fun x4 =>
 some x4
else
(if (a1.Kind == 10)=true then
 bd (Qby a0 a1.Word) fun x5 =>
 some x5
else
 bd (Qbi a0 a1) fun x6 =>
 some x6))
theorem Ql7 {a0:Qwm} {a1:Qwn} {r:Qwm} (h:Qc6 a0 a1=some r):EffC Tryz.prog 39 [.agg [.osl 9000 0 a0.Sides.length,.osl 9001 0 a0.Radio.length],.agg (dI a1.Kind :: dI a1.At :: .d (slD Qwg.enc a1.Want) :: .d (slD Qwf.enc a1.Keys) :: hwC a1.Word)] [(9000,.arr 38 23 a0.Sides.length (rows Qwk.enc a0.Sides)),(9001,.arr 42 14 a0.Radio.length (rows Qwl.enc a0.Radio))] (.agg [.d (slD Qwk.enc r.Sides),.d (slD Qwl.enc r.Radio)]) []:=by
  refine Q7 tOk (fn:=Tryz.f39) (c:=Qj Tryz.f39) rfl rfl ?_;unfold Qc6 at h;(conv=>whnf);refine Qc tOk ?_;(conv=>whnf);obtain ⟨x1,hx1,h⟩:=Qa h;refine JZ tOk (fun s2=>⟨0,23,[(2,.ref 2 0 0),(3,.ref 3 0 0),(4,.ref 4 0 0),(6,dI a1.Kind),(7,dB s2)],[],[(4,.box 26 [.d (.nil),.d (.nil)]),(3,.box 44 (dI a1.Kind :: dI a1.At :: .d (slD Qwg.enc a1.Want) :: .d (slD Qwf.enc a1.Keys) :: hwC a1.Word)),(2,.box 26 [.osl 9000 0 a0.Sides.length,.osl 9001 0 a0.Radio.length]),(9000,.arr 38 23 a0.Sides.length (rows Qwk.enc a0.Sides)),(9001,.arr 42 14 a0.Radio.length (rows Qwl.enc a0.Radio))],[⟨[],[]⟩]⟩) (fun s2=>x1=s2) ?_ ?_
  · (conv=>whnf);refine Qz hx1 (fun _ hx1=>?_) (fun _ hx1=>?_)
    · (conv=>whnf);obtain rfl:=sj_ hx1;exact ⟨_,rfl,leX []⟩
    · (conv=>whnf);refine Qz hx1 (fun _ hx1=>?_) (fun _ hx1=>?_)
      · (conv=>whnf);obtain rfl:=sj_ hx1;exact ⟨_,rfl,leX []⟩
      · (conv=>whnf);obtain rfl:=sj_ hx1;exact ⟨_,rfl,leX []⟩
  · rintro _ rfl;(conv=>whnf);refine Qz h (fun _ h=>?_) (fun _ h=>?_)
    · (conv=>whnf);obtain ⟨x4,hx4,h⟩:=Qa h;refine cE [(9000,9000),(9001,9001)] 0 (Qj7 hx4) ?_;(conv=>whnf);obtain rfl:=sj_ h;exact lfE []
    · (conv=>whnf);refine Qz h (fun _ h=>?_) (fun _ h=>?_)
      · (conv=>whnf);obtain ⟨x5,hx5,h⟩:=Qa h;refine Qgd [9000] ?_;(conv=>whnf);refine cE [(9000,9001)] 0 (Qi0 hx5) ?_;(conv=>whnf);obtain rfl:=sj_ h;exact lfE []
      · (conv=>whnf);obtain ⟨x6,hx6,h⟩:=Qa h;refine cE [(9000,9000),(9001,9001)] 0 (Qkb hx6) ?_;(conv=>whnf);obtain rfl:=sj_ h;exact lfE []
noncomputable def Qaq (a0:Qwm) (a1:Qwn):Option (Qwm) :=
 bd (Js a0) fun x1 =>
(if (!x1)=true then
 some (⟨[],[]⟩:Qwm)
else
 bd (Qax a0) fun x2 =>
 bd (Qc6 x2 a1) fun x3 =>
 bd (Qax x3) fun x4 =>
 some x4)
theorem Qfa {a0:Qwm} {a1:Qwn} {r:Qwm} (h:Qaq a0 a1=some r):EffC Tryz.prog 16 [.agg [.d (slD Qwk.enc a0.Sides),.d (slD Qwl.enc a0.Radio)],.agg (dI a1.Kind :: dI a1.At :: .d (slD Qwg.enc a1.Want) :: .d (slD Qwf.enc a1.Keys) :: hwC a1.Word)] [] (.agg [.osl 5001 0 r.Sides.length,.osl 5002 0 r.Radio.length]) [(5001,.arr 38 23 r.Sides.length (rows Qwk.enc r.Sides)),(5002,.arr 42 14 r.Radio.length (rows Qwl.enc r.Radio))]:=by
  refine Q7 tOk (fn:=Tryz.f16) (c:=Qj Tryz.f16) rfl rfl ?_;unfold Qaq at h;(conv=>whnf);refine Qc tOk ?_;(conv=>whnf);obtain ⟨x1,hx1,h⟩:=Qa h;refine cC 0 (QdJ hx1) ?_;clear hx1;(conv=>whnf);refine Qz h (fun _ h=>?_) (fun _ h=>?_)
  · (conv=>whnf);obtain rfl:=sj_ h;exact lfE [.k [2,3],.p 5001 38 23 (rows Qwk.enc ([]:List Qwk)),.p 5002 42 14 (rows Qwl.enc ([]:List Qwl))]
  · (conv=>whnf);obtain ⟨x2,hx2,h⟩:=Qa h;obtain ⟨x3,hx3,h⟩:=Qa h;obtain ⟨x4,hx4,h⟩:=Qa h;refine QaG tOk [.e 1 [] (.agg [.osl 6001 0 x2.Sides.length,.osl 6002 0 x2.Radio.length]) [] [(6001,.arr 38 23 x2.Sides.length (rows Qwk.enc x2.Sides)),(6002,.arr 42 14 x2.Radio.length (rows Qwl.enc x2.Radio))],.e 3 [(6001,.arr 38 23 x2.Sides.length (rows Qwk.enc x2.Sides)),(6002,.arr 42 14 x2.Radio.length (rows Qwl.enc x2.Radio))] (.agg [.d (slD Qwk.enc x3.Sides),.d (slD Qwl.enc x3.Radio)]) [] [],.e 4 [] (.agg [.osl 7001 0 x4.Sides.length,.osl 7002 0 x4.Radio.length]) [(7001,.arr 38 23 x4.Sides.length (rows Qwk.enc x4.Sides)),(7002,.arr 42 14 x4.Radio.length (rows Qwl.enc x4.Radio))] []] 5 [] [0,1,0,7,15] [31] [] ?_;(conv=>whnf);refine And.intro (eH [] 1000 (Qge hx2)) ?_;(conv=>whnf);refine And.intro (eD [(9000,6001),(9001,6002)] 0 (Ql7 hx3)) ?_;(conv=>whnf);refine And.intro (eD [] 2000 (Qge hx4)) ?_;(conv=>whnf);refine And.intro (by kernel_rfl) ?_;(conv=>whnf);obtain rfl:=sj_ h;exact lfE [.s [(5001,7001),(5002,7002),(7001,5001),(7002,5002)]]
noncomputable def Jq (a0:(List Int)):Option (Qwm × (List Qwn)) :=
 bd (Qbd a0) fun x1 =>
 bd (Qbv x1) fun x2 =>
 bd (Qe (⟨x1.b,x2.2.p⟩:Qwe) 60) fun x3 =>
 bd (lp (σ:=List Qwn × List Qwk × List Qwl × Int × Int) (β:=(Nat × (List Qwn))) (fun s4 =>
(if (decide (s4.2.2.2.2 > 0))=true then
 bd (Qbw (⟨x1.b,s4.2.2.2.1⟩:Qwe) (⟨s4.2.1,s4.2.2.1⟩:Qwm)) fun x8 =>
 bd (Qaq (⟨s4.2.1,s4.2.2.1⟩:Qwm) x8.1) fun x9 =>
 gd (((s4.1.length)+(([x8.1]:List Qwn).length))*(176+1)≤70368744177664) <|
 some (.inl ((s4.1 ++ ([x8.1]:List Qwn)),x9.Sides,x9.Radio,x8.2.p,IntKind.i64.wrap (s4.2.2.2.2 - 1)))
else
 some (.inr (s4.1.length,s4.1)))) (([]:List Qwn),x2.1.Sides,x2.1.Radio,x3.2.p,IntKind.i64.wrap (10+x3.1))) fun x7 =>
 some (x2.1,x7.2)
theorem Qfh {a0:(List Int)} {r:Qwm × (List Qwn)} (h:Jq a0=some r):EffC Tryz.prog 13 [.d (slD QR a0)] [] (.tup [.agg [.d (slD Qwk.enc r.1.Sides),.d (slD Qwl.enc r.1.Radio)],.osl 5001 0 r.2.length]) [(5001,.arr 44 18 r.2.length (rows Qwn.enc r.2))]:=by
  refine Q7 tOk (fn:=Tryz.f13) (c:=Qj Tryz.f13) rfl rfl ?_;unfold Jq at h;(conv=>whnf);obtain ⟨x1,hx1,h⟩:=Qa h;refine cE [] 1000 (Qj5 hx1) ?_;(conv=>whnf);obtain ⟨x2,hx2,h⟩:=Qa h;refine cE [(9000,6001)] 2000 (QiW hx2) ?_;(conv=>whnf);refine Qc tOk ?_;(conv=>whnf);obtain ⟨x3,hx3,h⟩:=Qa h;refine cE [(9000,6001)] 0 (Qh hx3) ?_;(conv=>whnf);obtain ⟨x7,hx7,h⟩:=Qa h;refine Zj tOk hx7 (fun s4=>⟨0,35,[(2,.ref 2 0 0),(4,.ref 6001 0 0),(5,.ref 5 0 0),(6,.ref 6 0 0),(7,.osl 7001 0 s4.1.length),(8,dI s4.2.2.2.2)],[],[(7001,.arr 44 18 s4.1.length (rows Qwn.enc s4.1)),(6,.box 26 [.d (slD Qwk.enc s4.2.1),.d (slD Qwl.enc s4.2.2.1)]),(5,.box 26 [.d (slD Qwk.enc x2.1.Sides),.d (slD Qwl.enc x2.1.Radio)]),(6001,.box 75 [.d (slD QR x1.b),dI s4.2.2.2.1]),(2,.box 26 [.d (.nil),.d (.nil)])],[⟨[],[]⟩]⟩) ?_ ?_
  · exact leX [.f [7001,7002],.p 7001 44 18 (rows Qwn.enc ([]:List Qwn))]
  · clear hx7;intro s4 y5 g6 hy5;(conv=>whnf);refine Qc tOk ?_;(conv=>whnf);refine Qz g6 (fun _ g6=>?_) (fun _ g6=>?_)
    · (conv=>whnf);refine Qc tOk ?_;(conv=>whnf);obtain ⟨x8,hx8,g6⟩:=Qa g6;refine cE [(9000,6001)] 3000 (QiX hx8) ?_;(conv=>whnf);obtain ⟨x9,hx9,g6⟩:=Qa g6;refine Qgd [8001,8002] ?_;(conv=>whnf);refine cE [] 3000 (Qfa hx9) ?_;(conv=>whnf);refine Qj1 (enc:=Qwn.enc) ([x8.1]:List Qwn) ?_;(conv=>whnf);refine gdI g6 (fun g6=>?_);refine Qj2 (enc:=Qwn.enc) (xs:=s4.1) (ys:=([x8.1]:List Qwn)) ?_;(conv=>whnf);obtain rfl:=sj_ g6;exact ⟨_,rfl,leX [.f [8001,8002]]⟩
    · (conv=>whnf);obtain rfl:=sj_ g6;obtain rfl:=hy5 _ rfl;obtain rfl:=sj_ h;exact lfE [.s [(5001,7001),(7001,5001)]]
noncomputable def Qu (a0:Int) (a1:Int) (a2:Int):Option (Bool) :=
 some ((decide (a1≤a0)) && (decide (a0≤a2)))
theorem Qy {a0:Int} {a1:Int} {a2:Int} {r:Bool} (h:Qu a0 a1 a2=some r):PureC Tryz.prog 49 [dI a0,dI a1,dI a2] (dB r) []:=by
  refine Qq tOk (fn:=Tryz.f49) (c:=Qj Tryz.f49) rfl rfl ?_;unfold Qu at h;(conv=>whnf);obtain rfl:=sj_ h;exact lfP []
noncomputable def ZZ (a0:(List Qwf)):Option (Bool) :=
 bd (lp (σ:=Int) (β:=(Unit ⊕ Unit)) (fun s1 =>
(if (decide (s1<((a0.length:Nat):Int)))=true then
 gd ((0:Int)≤s1∧s1<((a0.length:Nat):Int)) <|
 bd (Qu ((a0.getD s1.toNat default).Id) 1 9) fun x6 =>
 bd (gcall ((!x6)=false) (Qu ((a0.getD s1.toNat default).Secret) 1 2147483646)) fun x7 =>
 gd ((decide (s1 > 0))=true→(((!x6) || (!x7))=false→((0:Int)≤IntKind.i64.wrap (s1 - 1)∧IntKind.i64.wrap (s1 - 1)<((a0.length:Nat):Int)))) <|
(if (((!x6) || (!x7)) || ((decide (s1 > 0)) && (decide (((a0.getD ((IntKind.i64.wrap (s1 - 1)).toNat) default).Id) ≥ ((a0.getD s1.toNat default).Id)))))=true then
 some (.inr (.inl ()))
else
 some (.inl (IntKind.i64.wrap (s1+1))))
else
 some (.inr (.inr ())))) 0) fun x4 =>
(match x4 with
| .inl d9 =>
 some false
| .inr d10 =>
 bd (Qu ((a0.length:Nat):Int) 1 3) fun x11 =>
 some x11)
theorem Qbq {a0:(List Qwf)} {r:Bool} (h:ZZ a0=some r):PureC Tryz.prog 62 [.d (slD Qwf.enc a0)] (dB r) []:=by
  refine Qq tOk (fn:=Tryz.f62) (c:=Qj Tryz.f62) rfl rfl ?_;unfold ZZ at h;(conv=>whnf);refine Qc tOk ?_;(conv=>whnf);obtain ⟨x4,hx4,h⟩:=Qa h;refine Zj tOk hx4 (fun s1=>⟨0,41,[(0,.d (slD Qwf.enc a0)),(5,.d (slD Qwf.enc a0)),(6,dI ((a0.length:Nat):Int)),(7,dI s1)],[],[],[]⟩) ?_ ?_
  · exact leX []
  · clear hx4;intro s1 y2 g3 hy2;(conv=>whnf);refine Qc tOk ?_;(conv=>whnf);refine Qz g3 (fun _ g3=>?_) (fun _ g3=>?_)
    · (conv=>whnf);refine Qc tOk ?_;(conv=>whnf);refine gdI g3 (fun g3=>?_);(conv=>whnf);obtain ⟨x6,hx6,g3⟩:=Qa g3;obtain ⟨x7,hx7,g3⟩:=Qa g3;obtain ⟨g8,g3⟩:=Qf g3;refine QS tOk [.u 2 0 (dB x6) [],.u 7 0 (dB x7) []] 25 [] [0,1,3,7,15,31,63,127,255,511,1023,2047,4095,8191,16383,16383,49151,131071,262143,524287,16383,1064959,4194303,8388607,16777215] [] ?_;(conv=>whnf);refine And.intro (QM (Qy hx6) (by kernel_rfl)) ?_;(conv=>whnf);refine And.intro (Q1 rfl rfl rfl rfl (by intro c0; exact Qy (Qd hx7 c0))) ?_;(conv=>whnf);refine And.intro g8 ?_;clear g8;(conv=>whnf);refine And.intro (by kernel_rfl) ?_;(conv=>whnf);refine Qz g3 (fun _ g3=>?_) (fun _ g3=>?_)
      · (conv=>whnf);obtain rfl:=sj_ g3;obtain rfl:=hy2 _ rfl;obtain rfl:=sj_ h;exact lfP []
      · (conv=>whnf);obtain rfl:=sj_ g3;exact ⟨_,rfl,leX []⟩
    · (conv=>whnf);obtain rfl:=sj_ g3;obtain rfl:=hy2 _ rfl;obtain ⟨x11,hx11,h⟩:=Qa h;refine cC 0 (Qy hx11) ?_;clear hx11;(conv=>whnf);obtain rfl:=sj_ h;exact lfP []
noncomputable def Qr (a0:Qwg):Option (Qwo) :=
 some (⟨a0.Addr,a0.Len⟩:Qwo)
theorem Qx {a0:Qwg} {r:Qwo} (h:Qr a0=some r):PureC Tryz.prog 90 [.agg (hnC a0)] (.agg [dI r.Addr,dI r.Len]) []:=by
  refine Qq tOk (fn:=Tryz.f90) (c:=Qj Tryz.f90) rfl rfl ?_;unfold Qr at h;(conv=>whnf);obtain rfl:=sj_ h;exact lfP []
noncomputable def JA (a0:Qwo):Option (Int) :=
 gd ((0:Int)≤(IntKind.i64.wrap (16 - a0.Len))) <|
 some (IntKind.i64.wrap (1*2 ^ min (IntKind.i64.wrap (16 - a0.Len):Int).toNat IntKind.i64.bits))
theorem Qfo {a0:Qwo} {r:Int} (h:JA a0=some r):PureC Tryz.prog 133 [.agg [dI a0.Addr,dI a0.Len]] (dI r) []:=by
  refine Qq tOk (fn:=Tryz.f133) (c:=Qj Tryz.f133) rfl rfl ?_;unfold JA at h;(conv=>whnf);refine gdI h (fun h=>?_);(conv=>whnf);obtain rfl:=sj_ h;exact lfP []
noncomputable def Qck (a0:Qwo):Option (Bool) :=
 bd (Qu a0.Len 0 16) fun x1 =>
 bd (gcall (x1=true) (Qu a0.Addr 0 65535)) fun x2 =>
 bd (gcall ((x1 && x2)=true) (JA a0)) fun x3 =>
 gd ((x1 && x2)=true→((x3:Int) ≠ 0)) <|
 some ((x1 && x2) && (((a0.Addr:Int).tmod x3) == 0))
theorem Qic {a0:Qwo} {r:Bool} (h:Qck a0=some r):PureC Tryz.prog 89 [.agg [dI a0.Addr,dI a0.Len]] (dB r) []:=by
  refine Qq tOk (fn:=Tryz.f89) (c:=Qj Tryz.f89) rfl rfl ?_;unfold Qck at h;(conv=>whnf);obtain ⟨x1,hx1,h⟩:=Qa h;obtain ⟨x2,hx2,h⟩:=Qa h;obtain ⟨x3,hx3,h⟩:=Qa h;obtain ⟨g4,h⟩:=Qf h;refine QS tOk [.u 2 0 (dB x1) [],.u 6 0 (dB x2) [],.u 12 0 (dI x3) []] 17 [] [0,1,3,7,15,31,63,127,255,511,1023,511,2559,8191,16383,32767,65535] [] ?_;(conv=>whnf);refine And.intro (QM (Qy hx1) (by kernel_rfl)) ?_;(conv=>whnf);refine And.intro (Q1 rfl rfl rfl rfl (by intro c0; exact Qy (Qd hx2 c0))) ?_;(conv=>whnf);refine And.intro (Q1 rfl rfl rfl rfl (by intro c0; exact Qfo (Qd hx3 c0))) ?_;(conv=>whnf);refine And.intro g4 ?_;clear g4;(conv=>whnf);refine And.intro (by kernel_rfl) ?_;(conv=>whnf);obtain rfl:=sj_ h;exact lfP []
noncomputable def ZT (a0:Qwg):Option (Bool) :=
 bd (Qr a0) fun x1 =>
 bd (Qck x1) fun x2 =>
 bd (gcall (x2=true) (Qu a0.Cost 1 255)) fun x3 =>
 bd (gcall ((x2 && x3)=true) (Qu a0.Label 0 1000)) fun x4 =>
 some ((x2 && x3) && x4)
theorem QbZ {a0:Qwg} {r:Bool} (h:ZT a0=some r):PureC Tryz.prog 88 [.agg (hnC a0)] (dB r) []:=by
  refine Qq tOk (fn:=Tryz.f88) (c:=Qj Tryz.f88) rfl rfl ?_;unfold ZT at h;(conv=>whnf);obtain ⟨x1,hx1,h⟩:=Qa h;refine cC 0 (Qx hx1) ?_;clear hx1;(conv=>whnf);obtain ⟨x2,hx2,h⟩:=Qa h;refine cC 0 (Qic hx2) ?_;clear hx2;(conv=>whnf);obtain ⟨x3,hx3,h⟩:=Qa h;refine cG (fun c0=>Qy (Qd hx3 c0)) ?_;(conv=>whnf);obtain ⟨x4,hx4,h⟩:=Qa h;refine cG (fun c0=>Qy (Qd hx4 c0)) ?_;(conv=>whnf);obtain rfl:=sj_ h;exact lfP []
noncomputable def Z6 (a0:Qwh):Option (Bool) :=
 bd (α:=Bool) ((if (a0.Kind == 0)=true then
 some (a0.Kind == 0)
else
 some (a0.Kind == 3))) fun x1 =>
(if x1=true then
 some ((a0.Entry.Addr == 0) && ((a0.Entry.Len == 0) && ((a0.Entry.Cost == 0) && ((a0.Entry.Label == 0) && true))))
else
(if (a0.Kind == 1)=true then
 bd (ZT a0.Entry) fun x4 =>
 some x4
else
(if (a0.Kind == 2)=true then
 bd (Qr a0.Entry) fun x5 =>
 bd (Qck x5) fun x6 =>
 some ((x6 && (a0.Entry.Cost == 0)) && (a0.Entry.Label == 0))
else
 some false)))
theorem Qc7 {a0:Qwh} {r:Bool} (h:Z6 a0=some r):PureC Tryz.prog 52 [.agg (dI a0.Kind :: hnC a0.Entry)] (dB r) []:=by
  refine Qq tOk (fn:=Tryz.f52) (c:=Qj Tryz.f52) rfl rfl ?_;unfold Z6 at h;(conv=>whnf);refine Qc tOk ?_;(conv=>whnf);obtain ⟨x1,hx1,h⟩:=Qa h;refine JZ tOk (fun s2=>⟨0,35,[(1,.ref 1 0 0),(4,dI a0.Kind),(5,dB s2)],[],[(1,.box 33 (dI a0.Kind :: hnC a0.Entry))],[]⟩) (fun s2=>x1=s2) ?_ ?_
  · (conv=>whnf);refine Qz hx1 (fun _ hx1=>?_) (fun _ hx1=>?_)
    · (conv=>whnf);obtain rfl:=sj_ hx1;exact ⟨_,rfl,leX []⟩
    · (conv=>whnf);obtain rfl:=sj_ hx1;exact ⟨_,rfl,leX []⟩
  · rintro _ rfl;(conv=>whnf);refine Qz h (fun _ h=>?_) (fun _ h=>?_)
    · (conv=>whnf);obtain rfl:=sj_ h;exact lfP []
    · (conv=>whnf);refine Qz h (fun _ h=>?_) (fun _ h=>?_)
      · (conv=>whnf);obtain ⟨x4,hx4,h⟩:=Qa h;refine cC 0 (QbZ hx4) ?_;clear hx4;(conv=>whnf);obtain rfl:=sj_ h;exact lfP []
      · (conv=>whnf);refine Qz h (fun _ h=>?_) (fun _ h=>?_)
        · (conv=>whnf);obtain ⟨x5,hx5,h⟩:=Qa h;refine cC 0 (Qx hx5) ?_;clear hx5;(conv=>whnf);obtain ⟨x6,hx6,h⟩:=Qa h;refine cC 0 (Qic hx6) ?_;clear hx6;(conv=>whnf);obtain rfl:=sj_ h;exact lfP []
        · (conv=>whnf);obtain rfl:=sj_ h;exact lfP []
noncomputable def Zy (a0:Qwo) (a1:Qwo):Option (Int) :=
(if (a0.Addr != a1.Addr)=true then
 some (IntKind.i64.wrap (a0.Addr - a1.Addr))
else
 some (IntKind.i64.wrap (a0.Len - a1.Len)))
theorem QaF {a0:Qwo} {a1:Qwo} {r:Int} (h:Zy a0 a1=some r):PureC Tryz.prog 99 [.agg [dI a0.Addr,dI a0.Len],.agg [dI a1.Addr,dI a1.Len]] (dI r) []:=by
  refine Qq tOk (fn:=Tryz.f99) (c:=Qj Tryz.f99) rfl rfl ?_;unfold Zy at h;(conv=>whnf);refine Qc tOk ?_;(conv=>whnf);refine Qz h (fun _ h=>?_) (fun _ h=>?_)
  · (conv=>whnf);obtain rfl:=sj_ h;exact lfP []
  · (conv=>whnf);obtain rfl:=sj_ h;exact lfP []
noncomputable def Zr (a0:(List Qwg)):Option (Bool) :=
 bd (lp (σ:=Int) (β:=(Unit ⊕ Unit)) (fun s1 =>
(if (decide (s1<((a0.length:Nat):Int)))=true then
 gd ((0:Int)≤s1∧s1<((a0.length:Nat):Int)) <|
 bd (ZT (a0.getD s1.toNat default)) fun x6 =>
 gd ((decide (s1 > 0))=true→((!x6)=false→((0:Int)≤IntKind.i64.wrap (s1 - 1)∧IntKind.i64.wrap (s1 - 1)<((a0.length:Nat):Int)))) <|
 bd (gcall ((decide (s1 > 0))=true∧(!x6)=false) (Qr (a0.getD ((IntKind.i64.wrap (s1 - 1)).toNat) default))) fun x8 =>
 bd (gcall ((decide (s1 > 0))=true∧(!x6)=false) (Qr (a0.getD s1.toNat default))) fun x9 =>
 bd (gcall ((decide (s1 > 0))=true∧(!x6)=false) (Zy x8 x9)) fun x10 =>
(if ((!x6) || ((decide (s1 > 0)) && (decide (x10 ≥ 0))))=true then
 some (.inr (.inl ()))
else
 some (.inl (IntKind.i64.wrap (s1+1))))
else
 some (.inr (.inr ())))) 0) fun x4 =>
(match x4 with
| .inl d11 =>
 some false
| .inr d12 =>
 some (decide (((a0.length:Nat):Int)≤8)))
theorem Qag {a0:(List Qwg)} {r:Bool} (h:Zr a0=some r):PureC Tryz.prog 60 [.d (slD Qwg.enc a0)] (dB r) []:=by
  refine Qq tOk (fn:=Tryz.f60) (c:=Qj Tryz.f60) rfl rfl ?_;unfold Zr at h;(conv=>whnf);refine Qc tOk ?_;(conv=>whnf);obtain ⟨x4,hx4,h⟩:=Qa h;refine Zj tOk hx4 (fun s1=>⟨0,35,[(0,.d (slD Qwg.enc a0)),(5,.d (slD Qwg.enc a0)),(6,dI ((a0.length:Nat):Int)),(7,dI s1)],[],[],[]⟩) ?_ ?_
  · exact leX []
  · clear hx4;intro s1 y2 g3 hy2;(conv=>whnf);refine Qc tOk ?_;(conv=>whnf);refine Qz g3 (fun _ g3=>?_) (fun _ g3=>?_)
    · (conv=>whnf);refine Qc tOk ?_;(conv=>whnf);refine gdI g3 (fun g3=>?_);(conv=>whnf);obtain ⟨x6,hx6,g3⟩:=Qa g3;obtain ⟨g7,g3⟩:=Qf g3;obtain ⟨x8,hx8,g3⟩:=Qa g3;obtain ⟨x9,hx9,g3⟩:=Qa g3;obtain ⟨x10,hx10,g3⟩:=Qa g3;refine QS tOk [.u 1 0 (dB x6) [],.u 12 0 (.agg [dI x8.Addr,dI x8.Len]) [],.u 14 0 (.agg [dI x9.Addr,dI x9.Len]) [],.u 15 0 (dI x10) []] 19 [] [0,1,3,7,15,31,63,127,127,383,1023,2047,4095,127,16383,32767,65535,131071,262143] [] ?_;(conv=>whnf);refine And.intro (QM (QbZ hx6) (by kernel_rfl)) ?_;(conv=>whnf);refine And.intro g7 ?_;clear g7;(conv=>whnf);refine And.intro (Q1 rfl rfl rfl rfl (by intro c0 c1; exact Qx (Qd hx8 ⟨c0,c1⟩))) ?_;(conv=>whnf);refine And.intro (Q1 rfl rfl rfl rfl (by intro c0 c1; exact Qx (Qd hx9 ⟨c0,c1⟩))) ?_;(conv=>whnf);refine And.intro (Q1 rfl rfl rfl rfl (by intro c0 c1; exact QaF (Qd hx10 ⟨c0,c1⟩))) ?_;(conv=>whnf);refine And.intro (by kernel_rfl) ?_;(conv=>whnf);refine Qz g3 (fun _ g3=>?_) (fun _ g3=>?_)
      · (conv=>whnf);obtain rfl:=sj_ g3;obtain rfl:=hy2 _ rfl;obtain rfl:=sj_ h;exact lfP []
      · (conv=>whnf);obtain rfl:=sj_ g3;exact ⟨_,rfl,leX []⟩
    · (conv=>whnf);obtain rfl:=sj_ g3;obtain rfl:=hy2 _ rfl;obtain rfl:=sj_ h;exact lfP []
noncomputable def QF (a0:(List Qwg)):Option ((List Qwg)) :=
 gd ((0:Int)≤0∧0≤((a0.length:Nat):Int)∧((a0.length:Nat):Int)*32≤140737488355328∧((a0.length:Nat):Int)≤140737488355328) <|
 gd ((((List.replicate (0:Int).toNat (default:Qwg)).length)+(a0.length))*(32+1)≤70368744177664) <|
 some ((List.replicate (0:Int).toNat (default:Qwg)) ++ a0)
theorem Zs {a0:(List Qwg)} {r:(List Qwg)} (h:QF a0=some r):PureC Tryz.prog 61 [.d (slD Qwg.enc a0)] (.osl 5001 0 r.length) [⟨5001,31,4,r.length,rows Qwg.enc r⟩]:=by
  refine Qq tOk (fn:=Tryz.f61) (c:=Qj Tryz.f61) rfl rfl ?_;unfold QF at h;(conv=>whnf);obtain ⟨g2,h⟩:=Qf h;refine And.intro g2 ?_;clear g2;refine ⟨(List.replicate (0:Int).toNat (default:Qwg)).length,rows Qwg.enc (List.replicate (0:Int).toNat (default:Qwg)),by simp,Qg1 rfl,?_⟩;(conv=>whnf);refine gdI h (fun h=>?_);refine Qj2 (enc:=Qwg.enc) (xs:=(List.replicate (0:Int).toNat (default:Qwg))) (ys:=a0) ?_;(conv=>whnf);obtain rfl:=sj_ h;exact lfP [.s [(5,5001),(5001,5)]]
noncomputable def JM (a0:Qwg) (a1:Qwo):Option (Int) :=
 bd (Qr a0) fun x1 =>
 bd (Zy x1 a1) fun x2 =>
 some x2
theorem Qd4 {a0:Qwg} {a1:Qwo} {r:Int} (h:JM a0 a1=some r):PureC Tryz.prog 139 [.agg (hnC a0),.agg [dI a1.Addr,dI a1.Len]] (dI r) []:=by
  refine Qq tOk (fn:=Tryz.f139) (c:=Qj Tryz.f139) rfl rfl ?_;unfold JM at h;(conv=>whnf);obtain ⟨x1,hx1,h⟩:=Qa h;obtain ⟨x2,hx2,h⟩:=Qa h;refine QS tOk [.u 1 0 (.agg [dI x1.Addr,dI x1.Len]) [],.u 3 0 (dI x2) []] 5 [] [0,1,0,7,15] [] ?_;(conv=>whnf);refine And.intro (QM (Qx hx1) (by kernel_rfl)) ?_;(conv=>whnf);refine And.intro (QM (QaF hx2) (by kernel_rfl)) ?_;(conv=>whnf);refine And.intro (by kernel_rfl) ?_;(conv=>whnf);obtain rfl:=sj_ h;exact lfP []
noncomputable def Qm (a0:(List Qwg)) (a1:Qwo):Option (Int × Bool) :=
 bd (lp (σ:=Int × Int) (β:=(Int)) (fun s1 =>
(if (decide (s1.2<s1.1))=true then
 gd ((0:Int)≤1) <|
 gd ((0:Int)≤IntKind.i64.wrap ((IntKind.u64.wrap (IntKind.i64.wrap (s1.2+s1.1)):Int).fdiv (2 ^ min (1:Int).toNat IntKind.u64.bits))∧IntKind.i64.wrap ((IntKind.u64.wrap (IntKind.i64.wrap (s1.2+s1.1)):Int).fdiv (2 ^ min (1:Int).toNat IntKind.u64.bits))<((a0.length:Nat):Int)) <|
 bd (JM (a0.getD ((IntKind.i64.wrap ((IntKind.u64.wrap (IntKind.i64.wrap (s1.2+s1.1)):Int).fdiv (2 ^ min (1:Int).toNat IntKind.u64.bits))).toNat) default) a1) fun x7 =>
(if (decide (x7<0))=true then
 some (.inl (s1.1,IntKind.i64.wrap ((IntKind.i64.wrap ((IntKind.u64.wrap (IntKind.i64.wrap (s1.2+s1.1)):Int).fdiv (2 ^ min (1:Int).toNat IntKind.u64.bits)))+1)))
else
 some (.inl (IntKind.i64.wrap ((IntKind.u64.wrap (IntKind.i64.wrap (s1.2+s1.1)):Int).fdiv (2 ^ min (1:Int).toNat IntKind.u64.bits)),s1.2)))
else
 some (.inr s1.2))) (((a0.length:Nat):Int),0)) fun x4 =>
 gd ((decide (x4<((a0.length:Nat):Int)))=true→((0:Int)≤x4∧x4<((a0.length:Nat):Int))) <|
 bd (gcall ((decide (x4<((a0.length:Nat):Int)))=true) (JM (a0.getD x4.toNat default) a1)) fun x10 =>
 some (x4,((decide (x4<((a0.length:Nat):Int))) && (x10 == 0)))
theorem ZL {a0:(List Qwg)} {a1:Qwo} {r:Int × Bool} (h:Qm a0 a1=some r):PureC Tryz.prog 138 [.d (slD Qwg.enc a0),.agg [dI a1.Addr,dI a1.Len],.fn 139 []] (.tup [dI r.1,dB r.2]) []:=by
  refine Qq tOk (fn:=Tryz.f138) (c:=Qj Tryz.f138) rfl rfl ?_;unfold Qm at h;(conv=>whnf);refine Qc tOk ?_;(conv=>whnf);obtain ⟨x4,hx4,h⟩:=Qa h;refine Zj tOk hx4 (fun s1=>⟨0,49,[(0,.d (slD Qwg.enc a0)),(2,.fn 139 []),(4,.ref 4 0 0),(8,dI ((a0.length:Nat):Int)),(9,dI s1.2),(10,dI s1.1)],[],[(4,.box 112 [dI a1.Addr,dI a1.Len])],[]⟩) ?_ ?_
  · exact leX []
  · clear hx4;intro s1 y2 g3 hy2;(conv=>whnf);refine Qc tOk ?_;(conv=>whnf);refine Qz g3 (fun _ g3=>?_) (fun _ g3=>?_)
    · (conv=>whnf);refine gdI g3 (fun g3=>?_);(conv=>whnf);obtain ⟨g6,g3⟩:=Qf g3;obtain ⟨x7,hx7,g3⟩:=Qa g3;refine QS tOk [.u 6 0 (dI x7) []] 8 [] [0,0,0,6,14,0,63,127] [] ?_;(conv=>whnf);refine And.intro g6 ?_;clear g6;(conv=>whnf);refine And.intro (QM (Qd4 hx7) (by kernel_rfl)) ?_;(conv=>whnf);refine And.intro (by kernel_rfl) ?_;(conv=>whnf);refine Qz g3 (fun _ g3=>?_) (fun _ g3=>?_)
      · (conv=>whnf);obtain rfl:=sj_ g3;exact ⟨_,rfl,leX []⟩
      · (conv=>whnf);obtain rfl:=sj_ g3;exact ⟨_,rfl,leX []⟩
    · (conv=>whnf);obtain rfl:=sj_ g3;obtain rfl:=hy2 _ rfl;obtain ⟨g9,h⟩:=Qf h;obtain ⟨x10,hx10,h⟩:=Qa h;refine QS tOk [.u 11 0 (dI x10) []] 16 [] [0,0,0,6,14,30,30,30,222,478,30,2046,4094,8190,4095,32767] [] ?_;(conv=>whnf);refine And.intro g9 ?_;clear g9;(conv=>whnf);refine And.intro (Q1 rfl rfl rfl rfl (by intro c0; exact Qd4 (Qd hx10 c0))) ?_;(conv=>whnf);refine And.intro (by kernel_rfl) ?_;(conv=>whnf);obtain rfl:=sj_ h;exact lfP []
noncomputable def JR (a0:(List Qwg)) (a1:Qwo):Option (Int × Bool) :=
 bd (Qm a0 a1) fun x1 =>
 some (x1.1,x1.2)
theorem Qdm {a0:(List Qwg)} {a1:Qwo} {r:Int × Bool} (h:JR a0 a1=some r):PureC Tryz.prog 101 [.d (slD Qwg.enc a0),.agg [dI a1.Addr,dI a1.Len]] (.tup [dI r.1,dB r.2]) []:=by
  refine Qq tOk (fn:=Tryz.f101) (c:=Qj Tryz.f101) rfl rfl ?_;unfold JR at h;(conv=>whnf);obtain ⟨x1,hx1,h⟩:=Qa h;refine cC 0 (ZL hx1) ?_;clear hx1;(conv=>whnf);obtain rfl:=sj_ h;exact lfP []
noncomputable def QW (a0:(List Qwg)) (a1:Int) (a2:(List Qwg)):Option ((List Qwg)) :=
 gd ((0≤a1∧a1≤a0.length)∧0<a2.length∧(a0.length+a2.length)*(32+1)≤70368744177664) <|
 some (Qn9 a0 a1.toNat a2)
theorem JU {a0:(List Qwg)} {a1:Int} {a2:(List Qwg)} {r:(List Qwg)} (h:QW a0 a1 a2=some r):EffC Tryz.prog 102 [.osl 9000 0 a0.length,dI a1,.osl 9001 0 a2.length] [(9000,.arr 31 4 a0.length (rows Qwg.enc a0)),(9001,.arr 31 4 a2.length (rows Qwg.enc a2))] (.osl 5001 0 r.length) [(5001,.arr 31 4 r.length (rows Qwg.enc r))]:=by
  unfold QW at h;have L:LIns Tryz.prog ⟨fun x=>match x with | 22=>102 | 29=>140 | 30=>141 | _=>0,fun x=>match x with | 0=>0 | 3=>3 | 4=>4 | 9=>31 | 24=>29 | _=>0,fun x=>x⟩ 4 32 (.agg #[.int .i64 0,.int .i64 0,.int .i64 0,.int .i64 0]):=⟨by kernel_rfl,⟨Tryz.f102.name,by kernel_rfl,by kernel_rfl⟩,⟨Tryz.f140,by kernel_rfl,by kernel_rfl,by kernel_rfl,by kernel_rfl,by kernel_rfl⟩,by kernel_rfl,fun w=>by kernel_rfl,fun w=>by kernel_rfl,fun w=>by kernel_rfl,by kernel_rfl,fun w=>by kernel_rfl,fun w=>by kernel_rfl,fun w=>by kernel_rfl,by kernel_rfl,fun w=>by kernel_rfl,fun w=>by kernel_rfl,fun w=>by kernel_rfl,by kernel_rfl,fun w=>by kernel_rfl,fun w=>by kernel_rfl,fun w=>by kernel_rfl,⟨_,rfl,rfl,rfl,rfl⟩,fun w=>by kernel_rfl,by kernel_rfl,fun u hu=>List.all_eq_true.1 (by kernel_rfl:(List.all (Value.cells (.agg #[.int .i64 0,.int .i64 0,.int .i64 0,.int .i64 0])).toList Value.oneCell')=true) u hu,by decide⟩;obtain ⟨g,h⟩:=Qf h;obtain rfl:=sj_ h;have k:=Qoa (t:=31) (enc:=Qwg.enc) L (Qqg (fn:=Tryz.f102) (c:=Qj Tryz.f102) rfl rfl (by kernel_rfl)) (fun _=>rfl) (xs:=a0) (ys:=a2) (i:=a1.toNat) (by omega) g.2.1 g.2.2;rw [show ((a1.toNat:Nat):Int)=a1 by omega] at k;exact k
noncomputable def QX (a0:(List Qwg)) (a1:Int) (a2:Int):Option ((List Qwg)) :=
 gd (0≤a1∧a1≤a2∧a2≤a0.length) <|
 some (Qi4 a0 a1.toNat a2.toNat)
theorem JV {a0:(List Qwg)} {a1:Int} {a2:Int} {r:(List Qwg)} (h:QX a0 a1 a2=some r):EffC Tryz.prog 103 [.osl 9000 0 a0.length,dI a1,dI a2] [(9000,.arr 31 4 a0.length (rows Qwg.enc a0))] (.osl 5001 0 r.length) [(5001,.arr 31 4 r.length (rows Qwg.enc r))]:=by
  unfold QX at h;have L:LDel Tryz.prog ⟨fun x=>match x with | 45=>103 | _=>0,fun x=>match x with | 0=>0 | 3=>3 | 4=>4 | 22=>29 | 23=>31 | _=>0,fun x=>x⟩ 4 (.agg #[.int .i64 0,.int .i64 0,.int .i64 0,.int .i64 0]):=⟨by kernel_rfl,⟨Tryz.f103.name,by kernel_rfl,by kernel_rfl⟩,by kernel_rfl,fun w=>by kernel_rfl,fun w=>by kernel_rfl,fun w=>by kernel_rfl,by kernel_rfl,fun w=>by kernel_rfl,fun w=>by kernel_rfl,fun w=>by kernel_rfl,by kernel_rfl,fun w=>by kernel_rfl,fun w=>by kernel_rfl,fun w=>by kernel_rfl,by kernel_rfl,fun w=>by kernel_rfl,fun w=>by kernel_rfl,fun w=>by kernel_rfl,⟨_,rfl,rfl⟩,fun w=>by kernel_rfl,fun w=>by kernel_rfl,by kernel_rfl,fun u hu=>List.all_eq_true.1 (by kernel_rfl:(List.all (Value.cells (.agg #[.int .i64 0,.int .i64 0,.int .i64 0,.int .i64 0])).toList Value.oneCell')=true) u hu⟩;obtain ⟨g,h⟩:=Qf h;obtain rfl:=sj_ h;have k:=Qle (t:=31) (enc:=Qwg.enc) L (Qqg (fn:=Tryz.f103) (c:=Qj Tryz.f103) rfl rfl (by kernel_rfl)) (fun _=>rfl) (xs:=a0) (i:=a1.toNat) (j:=a2.toNat) (by omega) (by omega);rw [show ((a1.toNat:Nat):Int)=a1 by omega,show ((a2.toNat:Nat):Int)=a2 by omega] at k;exact k
noncomputable def Qb3 (a0:(List Qwg)) (a1:Qwh):Option ((List Qwg)) :=
 bd (QF a0) fun x1 =>
 bd (Qr a1.Entry) fun x2 =>
 bd (JR x1 x2) fun x3 =>
(if ((a1.Kind == 1) && x3.2)=true then
 gd ((0:Int)≤x3.1∧x3.1<((x1.length:Nat):Int)) <|
 some (x1.set x3.1.toNat a1.Entry)
else
(if (a1.Kind == 1)=true then
 bd (QW x1 x3.1 ([a1.Entry]:List Qwg)) fun x5 =>
 some x5
else
(if ((a1.Kind == 2) && x3.2)=true then
 bd (QX x1 x3.1 (IntKind.i64.wrap (x3.1+1))) fun x6 =>
 some x6
else
 some x1)))
theorem Qkc {a0:(List Qwg)} {a1:Qwh} {r:(List Qwg)} (h:Qb3 a0 a1=some r):PureC Tryz.prog 66 [.d (slD Qwg.enc a0),.agg (dI a1.Kind :: hnC a1.Entry)] (.osl 5001 0 r.length) [⟨5001,31,4,r.length,rows Qwg.enc r⟩]:=by
  refine Qq tOk (fn:=Tryz.f66) (c:=Qj Tryz.f66) rfl rfl ?_;unfold Qb3 at h;(conv=>whnf);obtain ⟨x1,hx1,h⟩:=Qa h;refine cC 1000 (Zs hx1) ?_;clear hx1;(conv=>whnf);obtain ⟨x2,hx2,h⟩:=Qa h;refine cC 0 (Qx hx2) ?_;clear hx2;(conv=>whnf);obtain ⟨x3,hx3,h⟩:=Qa h;refine cC 0 (Qdm hx3) ?_;clear hx3;(conv=>whnf);refine Qc tOk ?_;(conv=>whnf);refine Qz h (fun _ h=>?_) (fun _ h=>?_)
  · (conv=>whnf);refine gdI h (fun h=>?_);(conv=>whnf);refine ⟨rows Qwg.enc (x1.set x3.1.toNat a1.Entry),Jg Qm7 rfl,?_⟩;(conv=>whnf);obtain rfl:=sj_ h;exact lfP [.s [(5001,6001),(6001,5001)]]
  · (conv=>whnf);refine Qz h (fun _ h=>?_) (fun _ h=>?_)
    · (conv=>whnf);refine Qj1 (enc:=Qwg.enc) ([a1.Entry]:List Qwg) ?_;(conv=>whnf);obtain ⟨x5,hx5,h⟩:=Qa h;refine cE [(9000,6001),(9001,38)] 2000 (JU hx5) ?_;(conv=>whnf);obtain rfl:=sj_ h;exact lfP [.s [(5001,7001),(7001,5001)]]
    · (conv=>whnf);refine Qz h (fun _ h=>?_) (fun _ h=>?_)
      · (conv=>whnf);obtain ⟨x6,hx6,h⟩:=Qa h;refine cE [(9000,6001)] 2000 (JV hx6) ?_;(conv=>whnf);obtain rfl:=sj_ h;exact lfP [.s [(5001,7001),(7001,5001)]]
      · (conv=>whnf);obtain rfl:=sj_ h;exact lfP [.s [(5001,6001),(6001,5001)]]
noncomputable def J6 (a0:(List Qwg)) (a1:Qwh):Option ((List Qwg)) :=
 bd (QF a0) fun x1 =>
 bd (Qr a1.Entry) fun x2 =>
 bd (JR x1 x2) fun x3 =>
(if ((a1.Kind == 1) && x3.2)=true then
 gd ((0:Int)≤x3.1∧x3.1<((x1.length:Nat):Int)) <|
 some (x1.set x3.1.toNat a1.Entry)
else
(if (a1.Kind == 1)=true then
 bd (QW x1 x3.1 ([a1.Entry]:List Qwg)) fun x5 =>
 some x5
else
(if ((a1.Kind == 2) && x3.2)=true then
 bd (QX x1 x3.1 (IntKind.i64.wrap (x3.1+1))) fun x6 =>
 some x6
else
 some x1)))
theorem Qel {a0:(List Qwg)} {a1:Qwh} {r:(List Qwg)} (h:J6 a0 a1=some r):EffC Tryz.prog 66 [.d (slD Qwg.enc a0),.agg (dI a1.Kind :: hnC a1.Entry)] [] (.d (slD Qwg.enc r)) []:=by
  refine Q7 tOk (fn:=Tryz.f66) (c:=Qj Tryz.f66) rfl rfl ?_;unfold J6 at h;(conv=>whnf);obtain ⟨x1,hx1,h⟩:=Qa h;refine cC 1000 (Zs hx1) ?_;clear hx1;(conv=>whnf);obtain ⟨x2,hx2,h⟩:=Qa h;refine cC 0 (Qx hx2) ?_;clear hx2;(conv=>whnf);obtain ⟨x3,hx3,h⟩:=Qa h;refine cC 0 (Qdm hx3) ?_;clear hx3;(conv=>whnf);refine Qc tOk ?_;(conv=>whnf);refine Qz h (fun _ h=>?_) (fun _ h=>?_)
  · (conv=>whnf);refine gdI h (fun h=>?_);(conv=>whnf);refine ⟨rows Qwg.enc (x1.set x3.1.toNat a1.Entry),Jg Qm7 rfl,?_⟩;(conv=>whnf);obtain rfl:=sj_ h;exact lfE [.f [6001]]
  · (conv=>whnf);refine Qz h (fun _ h=>?_) (fun _ h=>?_)
    · (conv=>whnf);refine Qj1 (enc:=Qwg.enc) ([a1.Entry]:List Qwg) ?_;(conv=>whnf);obtain ⟨x5,hx5,h⟩:=Qa h;refine cE [(9000,6001),(9001,38)] 2000 (JU hx5) ?_;(conv=>whnf);obtain rfl:=sj_ h;exact lfE [.f [7001]]
    · (conv=>whnf);refine Qz h (fun _ h=>?_) (fun _ h=>?_)
      · (conv=>whnf);obtain ⟨x6,hx6,h⟩:=Qa h;refine cE [(9000,6001)] 2000 (JV hx6) ?_;(conv=>whnf);obtain rfl:=sj_ h;exact lfE [.f [7001]]
      · (conv=>whnf);obtain rfl:=sj_ h;exact lfE [.f [6001]]
noncomputable def QbP (a0:Qwi):Option (Bool) :=
 some a0.Stale
theorem QhG {a0:Qwi} {r:Bool} (h:QbP a0=some r):PureC Tryz.prog 80 [.agg (hnC a0.Entry ++ [dB a0.Stale])] (dB r) []:=by
  refine Qq tOk (fn:=Tryz.f80) (c:=Qj Tryz.f80) rfl rfl ?_;unfold QbP at h;(conv=>whnf);obtain rfl:=sj_ h;exact lfP []
noncomputable def Qw (a0:(List Qwi)):Option (Int) :=
 bd (lp (σ:=Int) (β:=(Int ⊕ Unit)) (fun s1 =>
(if (decide (s1<((a0.length:Nat):Int)))=true then
 gd ((0:Int)≤s1∧s1<((a0.length:Nat):Int)) <|
 bd (QbP (⟨((a0.getD s1.toNat default).Entry),(a0.getD s1.toNat default).Stale⟩:Qwi)) fun x6 =>
(if x6=true then
 some (.inr (.inl s1))
else
 some (.inl (IntKind.i64.wrap (s1+1))))
else
 some (.inr (.inr ())))) 0) fun x4 =>
(match x4 with
| .inl d7 =>
 some d7
| .inr d8 =>
 some (-1))
theorem JJ {a0:(List Qwi)} {r:Int} (h:Qw a0=some r):PureC Tryz.prog 122 [.d (slD Qwi.enc a0),.fn 80 []] (dI r) []:=by
  refine Qq tOk (fn:=Tryz.f122) (c:=Qj Tryz.f122) rfl rfl ?_;unfold Qw at h;(conv=>whnf);refine Qc tOk ?_;(conv=>whnf);obtain ⟨x4,hx4,h⟩:=Qa h;refine Zj tOk hx4 (fun s1=>⟨0,19,[(0,.d (slD Qwi.enc a0)),(1,.fn 80 []),(7,dI ((a0.length:Nat):Int)),(8,dI s1)],[],[],[]⟩) ?_ ?_
  · exact leX []
  · clear hx4;intro s1 y2 g3 hy2;(conv=>whnf);refine Qc tOk ?_;(conv=>whnf);refine Qz g3 (fun _ g3=>?_) (fun _ g3=>?_)
    · (conv=>whnf);refine Qc tOk ?_;(conv=>whnf);refine gdI g3 (fun g3=>?_);(conv=>whnf);obtain ⟨x6,hx6,g3⟩:=Qa g3;refine cC 0 (QhG hx6) ?_;clear hx6;(conv=>whnf);refine Qz g3 (fun _ g3=>?_) (fun _ g3=>?_)
      · (conv=>whnf);obtain rfl:=sj_ g3;obtain rfl:=hy2 _ rfl;obtain rfl:=sj_ h;exact lfP []
      · (conv=>whnf);obtain rfl:=sj_ g3;exact ⟨_,rfl,leX []⟩
    · (conv=>whnf);obtain rfl:=sj_ g3;obtain rfl:=hy2 _ rfl;obtain rfl:=sj_ h;exact lfP []
noncomputable def QG (a0:(List Qwi)):Option (Bool) :=
 bd (Qw a0) fun x1 =>
 some (decide (x1 ≥ 0))
theorem Ju {a0:(List Qwi)} {r:Bool} (h:QG a0=some r):PureC Tryz.prog 79 [.d (slD Qwi.enc a0),.fn 80 []] (dB r) []:=by
  refine Qq tOk (fn:=Tryz.f79) (c:=Qj Tryz.f79) rfl rfl ?_;unfold QG at h;(conv=>whnf);obtain ⟨x1,hx1,h⟩:=Qa h;refine cC 0 (JJ hx1) ?_;clear hx1;(conv=>whnf);obtain rfl:=sj_ h;exact lfP []
noncomputable def Jj (a0:(List Qwi)):Option (Bool) :=
 bd (QG a0) fun x1 =>
 some x1
theorem QdN {a0:(List Qwi)} {r:Bool} (h:Jj a0=some r):PureC Tryz.prog 41 [.d (slD Qwi.enc a0)] (dB r) []:=by
  refine Qq tOk (fn:=Tryz.f41) (c:=Qj Tryz.f41) rfl rfl ?_;unfold Jj at h;(conv=>whnf);obtain ⟨x1,hx1,h⟩:=Qa h;refine cC 0 (Ju hx1) ?_;clear hx1;(conv=>whnf);obtain rfl:=sj_ h;exact lfP []
noncomputable def Jk (a0:Qwj):Option (Bool) :=
 bd (lp (σ:=Int) (β:=(Unit ⊕ Unit)) (fun s1 =>
(if (decide (s1<((a0.Heard.length:Nat):Int)))=true then
 gd ((0:Int)≤s1∧s1<((a0.Heard.length:Nat):Int)) <|
 bd (ZT ((a0.Heard.getD s1.toNat default).Entry)) fun x6 =>
 gd ((decide (s1 > 0))=true→(((!x6) || ((a0.Left == 0) && (!((a0.Heard.getD s1.toNat default).Stale))))=false→((0:Int)≤IntKind.i64.wrap (s1 - 1)∧IntKind.i64.wrap (s1 - 1)<((a0.Heard.length:Nat):Int)))) <|
 bd (gcall ((decide (s1 > 0))=true∧((!x6) || ((a0.Left == 0) && (!((a0.Heard.getD s1.toNat default).Stale))))=false) (Qr ((a0.Heard.getD ((IntKind.i64.wrap (s1 - 1)).toNat) default).Entry))) fun x8 =>
 bd (gcall ((decide (s1 > 0))=true∧((!x6) || ((a0.Left == 0) && (!((a0.Heard.getD s1.toNat default).Stale))))=false) (Qr ((a0.Heard.getD s1.toNat default).Entry))) fun x9 =>
 bd (gcall ((decide (s1 > 0))=true∧((!x6) || ((a0.Left == 0) && (!((a0.Heard.getD s1.toNat default).Stale))))=false) (Zy x8 x9)) fun x10 =>
(if (((!x6) || ((a0.Left == 0) && (!((a0.Heard.getD s1.toNat default).Stale)))) || ((decide (s1 > 0)) && (decide (x10 ≥ 0))))=true then
 some (.inr (.inl ()))
else
 some (.inl (IntKind.i64.wrap (s1+1))))
else
 some (.inr (.inr ())))) 0) fun x4 =>
(match x4 with
| .inl d11 =>
 some false
| .inr d12 =>
 bd (gcall ((decide (((a0.Heard.length:Nat):Int)≤16))=true) (Qu a0.Keep 0 6)) fun x13 =>
 bd (gcall (((decide (((a0.Heard.length:Nat):Int)≤16)) && x13)=true) (Jj a0.Heard)) fun x14 =>
 some (((decide (((a0.Heard.length:Nat):Int)≤16)) && x13) && ((decide (a0.Keep > 0)) == x14)))
theorem QeH {a0:Qwj} {r:Bool} (h:Jk a0=some r):PureC Tryz.prog 67 [.agg (heC a0 (.d (slD Qwi.enc a0.Heard)))] (dB r) []:=by
  refine Qq tOk (fn:=Tryz.f67) (c:=Qj Tryz.f67) rfl rfl ?_;unfold Jk at h;(conv=>whnf);refine Qc tOk ?_;(conv=>whnf);obtain ⟨x4,hx4,h⟩:=Qa h;refine Zj tOk hx4 (fun s1=>⟨0,65,[(1,.ref 1 0 0),(6,.d (slD Qwi.enc a0.Heard)),(7,dI ((a0.Heard.length:Nat):Int)),(8,dI s1)],[],[(1,.box 36 (heC a0 (.d (slD Qwi.enc a0.Heard))))],[]⟩) ?_ ?_
  · exact leX []
  · clear hx4;intro s1 y2 g3 hy2;(conv=>whnf);refine Qc tOk ?_;(conv=>whnf);refine Qz g3 (fun _ g3=>?_) (fun _ g3=>?_)
    · (conv=>whnf);refine Qc tOk ?_;(conv=>whnf);refine gdI g3 (fun g3=>?_);(conv=>whnf);obtain ⟨x6,hx6,g3⟩:=Qa g3;obtain ⟨g7,g3⟩:=Qf g3;obtain ⟨x8,hx8,g3⟩:=Qa g3;obtain ⟨x9,hx9,g3⟩:=Qa g3;obtain ⟨x10,hx10,g3⟩:=Qa g3;refine QS tOk [.u 2 0 (dB x6) [],.u 25 0 (.agg [dI x8.Addr,dI x8.Len]) [],.u 28 0 (.agg [dI x9.Addr,dI x9.Len]) [],.u 29 0 (dI x10) []] 33 [] [0,1,3,7,15,31,63,127,255,511,1023,2047,4095,8191,16383,32767,65535,131071,262143,524287,262143,1310719,4194303,8388607,16777215,33554431,262143,67371007,268435455,536870911,1073741823,2147483647,4294967295] [] ?_;(conv=>whnf);refine And.intro (QM (QbZ hx6) (by kernel_rfl)) ?_;(conv=>whnf);refine And.intro g7 ?_;clear g7;(conv=>whnf);refine And.intro (Q1 rfl rfl rfl rfl (by intro c0 c1; exact Qx (Qd hx8 ⟨c0,c1⟩))) ?_;(conv=>whnf);refine And.intro (Q1 rfl rfl rfl rfl (by intro c0 c1; exact Qx (Qd hx9 ⟨c0,c1⟩))) ?_;(conv=>whnf);refine And.intro (Q1 rfl rfl rfl rfl (by intro c0 c1; exact QaF (Qd hx10 ⟨c0,c1⟩))) ?_;(conv=>whnf);refine And.intro (by kernel_rfl) ?_;(conv=>whnf);refine Qz g3 (fun _ g3=>?_) (fun _ g3=>?_)
      · (conv=>whnf);obtain rfl:=sj_ g3;obtain rfl:=hy2 _ rfl;obtain rfl:=sj_ h;exact lfP []
      · (conv=>whnf);obtain rfl:=sj_ g3;exact ⟨_,rfl,leX []⟩
    · (conv=>whnf);obtain rfl:=sj_ g3;obtain rfl:=hy2 _ rfl;obtain ⟨x13,hx13,h⟩:=Qa h;obtain ⟨x14,hx14,h⟩:=Qa h;refine QS tOk [.u 7 0 (dB x13) [],.u 15 0 (dB x14) []] 19 [] [0,1,3,7,15,31,63,127,255,511,1023,2047,4095,1023,9215,25599,65535,131071,262143] [] ?_;(conv=>whnf);refine And.intro (Q1 rfl rfl rfl rfl (by intro c0; exact Qy (Qd hx13 c0))) ?_;(conv=>whnf);refine And.intro (Q1 rfl rfl rfl rfl (by intro c0; exact QdN (Qd hx14 c0))) ?_;(conv=>whnf);refine And.intro (by kernel_rfl) ?_;(conv=>whnf);obtain rfl:=sj_ h;exact lfP []
noncomputable def J7 (a0:Qwj):Option (Bool) :=
 bd (Qu a0.Name 0 65535) fun x1 =>
 bd (gcall ((!x1)=false) (Qu a0.Peer 0 65535)) fun x2 =>
 bd (gcall ((((!x1) || (!x2)) || (a0.Name == a0.Peer))=false) (ZZ a0.Keys)) fun x3 =>
(if ((((!x1) || (!x2)) || (a0.Name == a0.Peer)) || (!x3))=true then
 some false
else
 bd (Qu a0.Boot 1 1000) fun x4 =>
 bd (gcall ((!x4)=false) (Qu a0.Turn 0 1000000)) fun x5 =>
 bd (gcall (((!x4) || (!x5))=false) (Qu a0.PeerTurn 0 1000000)) fun x6 =>
 bd (gcall ((((!x4) || (!x5)) || (!x6))=false) (Qu a0.Got 0 1000000)) fun x7 =>
(if ((((!x4) || (!x5)) || (!x6)) || (!x7))=true then
 some false
else
 bd (Qu a0.PeerBoot 0 999) fun x8 =>
(if ((!x8) || (!((a0.PeerBoot == 0) == (a0.PeerTurn == 0))))=true then
 some false
else
 bd (Qu a0.Left 0 4) fun x9 =>
(if (((!x9) || ((a0.PeerBoot == 0) && (a0.Left != 0))) || (a0.Up && (a0.Left == 0)))=true then
 some false
else
 bd (Qu a0.Num 0 a0.Turn) fun x10 =>
 bd (gcall ((!x10)=false) (Z6 a0.Under)) fun x11 =>
(if (((!x10) || (!x11)) || ((a0.Num == 0) && (a0.Under.Kind != 0)))=true then
 some false
else
 bd (Zr a0.Want) fun x12 =>
 bd (gcall ((!x12)=false) (Zr a0.Told)) fun x13 =>
 bd (gcall (((!x12) || (!x13))=false) (J6 a0.Told a0.Under)) fun x14 =>
 bd (gcall (((!x12) || (!x13))=false) (Zr x14)) fun x15 =>
(if (((!x12) || (!x13)) || (!x15))=true then
 some false
else
 bd (Jk a0) fun x16 =>
 some x16))))))
theorem QhH {a0:Qwj} {r:Bool} (h:J7 a0=some r):PureC Tryz.prog 32 [.agg (heC a0 (.d (slD Qwi.enc a0.Heard)))] (dB r) []:=by
  refine Qq tOk (fn:=Tryz.f32) (c:=Qj Tryz.f32) rfl rfl ?_;unfold J7 at h;(conv=>whnf);refine Qc tOk ?_;(conv=>whnf);obtain ⟨x1,hx1,h⟩:=Qa h;refine cC 0 (Qy hx1) ?_;clear hx1;(conv=>whnf);obtain ⟨x2,hx2,h⟩:=Qa h;refine cG (fun c0=>Qy (Qd hx2 c0)) ?_;(conv=>whnf);obtain ⟨x3,hx3,h⟩:=Qa h;refine cG (fun c0=>Qbq (Qd hx3 c0)) ?_;(conv=>whnf);refine Qz h (fun _ h=>?_) (fun _ h=>?_)
  · (conv=>whnf);obtain rfl:=sj_ h;exact lfP []
  · (conv=>whnf);obtain ⟨x4,hx4,h⟩:=Qa h;refine cC 0 (Qy hx4) ?_;clear hx4;(conv=>whnf);obtain ⟨x5,hx5,h⟩:=Qa h;refine cG (fun c0=>Qy (Qd hx5 c0)) ?_;(conv=>whnf);obtain ⟨x6,hx6,h⟩:=Qa h;refine cG (fun c0=>Qy (Qd hx6 c0)) ?_;(conv=>whnf);obtain ⟨x7,hx7,h⟩:=Qa h;refine cG (fun c0=>Qy (Qd hx7 c0)) ?_;(conv=>whnf);refine Qz h (fun _ h=>?_) (fun _ h=>?_)
    · (conv=>whnf);obtain rfl:=sj_ h;exact lfP []
    · (conv=>whnf);obtain ⟨x8,hx8,h⟩:=Qa h;refine cC 0 (Qy hx8) ?_;clear hx8;(conv=>whnf);refine Qz h (fun _ h=>?_) (fun _ h=>?_)
      · (conv=>whnf);obtain rfl:=sj_ h;exact lfP []
      · (conv=>whnf);obtain ⟨x9,hx9,h⟩:=Qa h;refine cC 0 (Qy hx9) ?_;clear hx9;(conv=>whnf);refine Qz h (fun _ h=>?_) (fun _ h=>?_)
        · (conv=>whnf);obtain rfl:=sj_ h;exact lfP []
        · (conv=>whnf);obtain ⟨x10,hx10,h⟩:=Qa h;refine cC 0 (Qy hx10) ?_;clear hx10;(conv=>whnf);obtain ⟨x11,hx11,h⟩:=Qa h;refine cG (fun c0=>Qc7 (Qd hx11 c0)) ?_;(conv=>whnf);refine Qz h (fun _ h=>?_) (fun _ h=>?_)
          · (conv=>whnf);obtain rfl:=sj_ h;exact lfP []
          · (conv=>whnf);obtain ⟨x12,hx12,h⟩:=Qa h;refine cC 0 (Qag hx12) ?_;clear hx12;(conv=>whnf);obtain ⟨x13,hx13,h⟩:=Qa h;refine cG (fun c0=>Qag (Qd hx13 c0)) ?_;(conv=>whnf);obtain ⟨x14,hx14,h⟩:=Qa h;refine Qm9 [] 0 rfl rfl rfl (by intro c0; exact Qel (Qd hx14 c0)) Qpj inA rfl rfl (QfT inA) ?_;(conv=>whnf);obtain ⟨x15,hx15,h⟩:=Qa h;refine cG (fun c0=>Qag (Qd hx15 c0)) ?_;(conv=>whnf);refine Qz h (fun _ h=>?_) (fun _ h=>?_)
            · (conv=>whnf);obtain rfl:=sj_ h;exact lfP []
            · (conv=>whnf);obtain ⟨x16,hx16,h⟩:=Qa h;refine cC 0 (QeH hx16) ?_;clear hx16;(conv=>whnf);obtain rfl:=sj_ h;exact lfP []
noncomputable def QaN (a0:Qwj):Option (Bool) :=
 some (((((((((((((a0.Turn == 0) && (a0.PeerBoot == 0)) && (a0.PeerTurn == 0)) && (!a0.Up)) && (a0.Left == 0)) && (a0.Num == 0)) && ((a0.Under.Kind == 0) && (((a0.Under.Entry.Addr == 0) && ((a0.Under.Entry.Len == 0) && ((a0.Under.Entry.Cost == 0) && ((a0.Under.Entry.Label == 0) && true)))) && true))) && (((a0.Told.length:Nat):Int) == 0)) && (!a0.All)) && (a0.Got == 0)) && (!a0.Full)) && (((a0.Heard.length:Nat):Int) == 0)) && (a0.Keep == 0))
theorem Qi5 {a0:Qwj} {r:Bool} (h:QaN a0=some r):PureC Tryz.prog 40 [.agg (heC a0 (.d (slD Qwi.enc a0.Heard)))] (dB r) []:=by
  refine Qq tOk (fn:=Tryz.f40) (c:=Qj Tryz.f40) rfl rfl ?_;unfold QaN at h;(conv=>whnf);obtain rfl:=sj_ h;exact lfP []
noncomputable def Jl (a0:Qwl):Option (Bool) :=
 bd (Qu a0.From 0 65535) fun x1 =>
 bd (gcall ((!x1)=false) (Qu a0.To 0 65535)) fun x2 =>
 bd (gcall (((!x1) || (!x2))=false) (Qu a0.Key 1 9)) fun x3 =>
(if (((!x1) || (!x2)) || (!x3))=true then
 some false
else
 bd (Qu a0.Boot 1 999) fun x4 =>
 bd (gcall ((!x4)=false) (Qu a0.Yours 0 999)) fun x5 =>
 bd (gcall (((!x4) || (!x5))=false) (Qu a0.Turn 1 1000000)) fun x6 =>
(if (((!x4) || (!x5)) || (!x6))=true then
 some false
else
 bd (Qu a0.Num 0 a0.Turn) fun x7 =>
 bd (gcall ((!x7)=false) (Qu a0.Heard 0 1000000)) fun x8 =>
 bd (gcall (((!x7) || (!x8))=false) (Qu a0.Sum 0 2147483646)) fun x9 =>
(if (((!x7) || (!x8)) || (!x9))=true then
 some false
else
 bd (Z6 a0.Change) fun x10 =>
 some (x10 && ((a0.Change.Kind == 0) || (decide (a0.Num > 0)))))))
theorem Qcu {a0:Qwl} {r:Bool} (h:Jl a0=some r):PureC Tryz.prog 27 [.agg (hwC a0)] (dB r) []:=by
  refine Qq tOk (fn:=Tryz.f27) (c:=Qj Tryz.f27) rfl rfl ?_;unfold Jl at h;(conv=>whnf);refine Qc tOk ?_;(conv=>whnf);obtain ⟨x1,hx1,h⟩:=Qa h;refine cC 0 (Qy hx1) ?_;clear hx1;(conv=>whnf);obtain ⟨x2,hx2,h⟩:=Qa h;refine cG (fun c0=>Qy (Qd hx2 c0)) ?_;(conv=>whnf);obtain ⟨x3,hx3,h⟩:=Qa h;refine cG (fun c0=>Qy (Qd hx3 c0)) ?_;(conv=>whnf);refine Qz h (fun _ h=>?_) (fun _ h=>?_)
  · (conv=>whnf);obtain rfl:=sj_ h;exact lfP []
  · (conv=>whnf);obtain ⟨x4,hx4,h⟩:=Qa h;refine cC 0 (Qy hx4) ?_;clear hx4;(conv=>whnf);obtain ⟨x5,hx5,h⟩:=Qa h;refine cG (fun c0=>Qy (Qd hx5 c0)) ?_;(conv=>whnf);obtain ⟨x6,hx6,h⟩:=Qa h;refine cG (fun c0=>Qy (Qd hx6 c0)) ?_;(conv=>whnf);refine Qz h (fun _ h=>?_) (fun _ h=>?_)
    · (conv=>whnf);obtain rfl:=sj_ h;exact lfP []
    · (conv=>whnf);obtain ⟨x7,hx7,h⟩:=Qa h;refine cC 0 (Qy hx7) ?_;clear hx7;(conv=>whnf);obtain ⟨x8,hx8,h⟩:=Qa h;refine cG (fun c0=>Qy (Qd hx8 c0)) ?_;(conv=>whnf);obtain ⟨x9,hx9,h⟩:=Qa h;refine cG (fun c0=>Qy (Qd hx9 c0)) ?_;(conv=>whnf);refine Qz h (fun _ h=>?_) (fun _ h=>?_)
      · (conv=>whnf);obtain rfl:=sj_ h;exact lfP []
      · (conv=>whnf);obtain ⟨x10,hx10,h⟩:=Qa h;refine cC 0 (Qc7 hx10) ?_;clear hx10;(conv=>whnf);obtain rfl:=sj_ h;exact lfP []
noncomputable def Q9 (a0:Qwm):Option (Bool) :=
(if ((((a0.Sides.length:Nat):Int) != 2) || (decide (((a0.Radio.length:Nat):Int) > 12)))=true then
 some false
else
 bd (lp (σ:=Int) (β:=(Unit ⊕ Unit)) (fun s1 =>
(if (decide (s1<((a0.Sides.length:Nat):Int)))=true then
 gd ((0:Int)≤s1∧s1<((a0.Sides.length:Nat):Int)) <|
 bd (J7 ({ ((a0.Sides.getD s1.toNat default).End) with Under:=(⟨(((a0.Sides.getD s1.toNat default).End).Under).Kind,((((a0.Sides.getD s1.toNat default).End).Under).Entry)⟩:Qwh) })) fun x6 =>
 gd ((!x6)=false→((0:Int)≤IntKind.i64.wrap (1 - s1)∧IntKind.i64.wrap (1 - s1)<((a0.Sides.length:Nat):Int))) <|
 bd (gcall ((!((a0.Sides.getD s1.toNat default).Up))=true∧((!x6) || ((((a0.Sides.getD s1.toNat default).End).Name) != (((a0.Sides.getD ((IntKind.i64.wrap (1 - s1)).toNat) default).End).Peer)))=false) (QaN ({ ((a0.Sides.getD s1.toNat default).End) with Under:=(⟨(((a0.Sides.getD s1.toNat default).End).Under).Kind,((((a0.Sides.getD s1.toNat default).End).Under).Entry)⟩:Qwh) }))) fun x8 =>
(if (((!x6) || ((((a0.Sides.getD s1.toNat default).End).Name) != (((a0.Sides.getD ((IntKind.i64.wrap (1 - s1)).toNat) default).End).Peer))) || ((!((a0.Sides.getD s1.toNat default).Up)) && (!x8)))=true then
 some (.inr (.inl ()))
else
 some (.inl (IntKind.i64.wrap (s1+1))))
else
 some (.inr (.inr ())))) 0) fun x4 =>
(match x4 with
| .inl d9 =>
 some false
| .inr d10 =>
 bd (lp (σ:=Int) (β:=(Unit ⊕ Unit)) (fun s11 =>
(if (decide (s11<((a0.Radio.length:Nat):Int)))=true then
 gd ((0:Int)≤s11∧s11<((a0.Radio.length:Nat):Int)) <|
 bd (Jl ({ (a0.Radio.getD s11.toNat default) with Change:=(⟨((a0.Radio.getD s11.toNat default).Change).Kind,(((a0.Radio.getD s11.toNat default).Change).Entry)⟩:Qwh) })) fun x16 =>
(if (!x16)=true then
 some (.inr (.inl ()))
else
 some (.inl (IntKind.i64.wrap (s11+1))))
else
 some (.inr (.inr ())))) 0) fun x14 =>
(match x14 with
| .inl d17 =>
 some false
| .inr d18 =>
 some true)))
theorem Jv {a0:Qwm} {r:Bool} (h:Q9 a0=some r):PureC Tryz.prog 17 [.agg [.d (slD Qwk.enc a0.Sides),.d (slD Qwl.enc a0.Radio)]] (dB r) []:=by
  refine Qq tOk (fn:=Tryz.f17) (c:=Qj Tryz.f17) rfl rfl ?_;unfold Q9 at h;(conv=>whnf);refine Qc tOk ?_;(conv=>whnf);refine Qz h (fun _ h=>?_) (fun _ h=>?_)
  · (conv=>whnf);obtain rfl:=sj_ h;exact lfP []
  · (conv=>whnf);refine Qc tOk ?_;(conv=>whnf);obtain ⟨x4,hx4,h⟩:=Qa h;refine Zj tOk hx4 (fun s1=>⟨0,66,[(1,.ref 1 0 0),(18,.d (slD Qwk.enc a0.Sides)),(19,dI ((a0.Sides.length:Nat):Int)),(20,dI s1)],[],[(1,.box 26 [.d (slD Qwk.enc a0.Sides),.d (slD Qwl.enc a0.Radio)])],[]⟩) ?_ ?_
    · exact leX []
    · clear hx4;intro s1 y2 g3 hy2;(conv=>whnf);refine Qc tOk ?_;(conv=>whnf);refine Qz g3 (fun _ g3=>?_) (fun _ g3=>?_)
      · (conv=>whnf);refine Qc tOk ?_;(conv=>whnf);refine gdI g3 (fun g3=>?_);(conv=>whnf);obtain ⟨x6,hx6,g3⟩:=Qa g3;obtain ⟨g7,g3⟩:=Qf g3;obtain ⟨x8,hx8,g3⟩:=Qa g3;refine QS tOk [.u 2 0 (dB x6) [],.u 25 0 (dB x8) []] 29 [] [0,1,3,7,15,31,63,127,31,287,31,1055,3871,7967,16159,32543,65535,131071,262143,524287,1048575,2097151,4194303,8388607,16777215,33554431,67108863,134217727,268435455] [] ?_;(conv=>whnf);refine And.intro (QM (QhH hx6) (by kernel_rfl)) ?_;(conv=>whnf);refine And.intro g7 ?_;clear g7;(conv=>whnf);refine And.intro (Q1 rfl rfl rfl rfl (by intro c0 c1; exact Qi5 (Qd hx8 ⟨c0,c1⟩))) ?_;(conv=>whnf);refine And.intro (by kernel_rfl) ?_;(conv=>whnf);refine Qz g3 (fun _ g3=>?_) (fun _ g3=>?_)
        · (conv=>whnf);obtain rfl:=sj_ g3;obtain rfl:=hy2 _ rfl;obtain rfl:=sj_ h;exact lfP []
        · (conv=>whnf);obtain rfl:=sj_ g3;exact ⟨_,rfl,leX []⟩
      · (conv=>whnf);obtain rfl:=sj_ g3;obtain rfl:=hy2 _ rfl;refine Qc tOk ?_;(conv=>whnf);obtain ⟨x14,hx14,h⟩:=Qa h;refine Zj tOk hx14 (fun s11=>⟨0,66,[(56,.d (slD Qwl.enc a0.Radio)),(57,dI ((a0.Radio.length:Nat):Int)),(58,dI s11)],[],[],[]⟩) ?_ ?_
        · exact leX []
        · clear hx14;intro s11 y12 g13 hy12;(conv=>whnf);refine Qc tOk ?_;(conv=>whnf);refine Qz g13 (fun _ g13=>?_) (fun _ g13=>?_)
          · (conv=>whnf);refine Qc tOk ?_;(conv=>whnf);refine gdI g13 (fun g13=>?_);(conv=>whnf);obtain ⟨x16,hx16,g13⟩:=Qa g13;refine cC 0 (Qcu hx16) ?_;clear hx16;(conv=>whnf);refine Qz g13 (fun _ g13=>?_) (fun _ g13=>?_)
            · (conv=>whnf);obtain rfl:=sj_ g13;obtain rfl:=hy12 _ rfl;obtain rfl:=sj_ h;exact lfP []
            · (conv=>whnf);obtain rfl:=sj_ g13;exact ⟨_,rfl,leX []⟩
          · (conv=>whnf);obtain rfl:=sj_ g13;obtain rfl:=hy12 _ rfl;obtain rfl:=sj_ h;exact lfP []
noncomputable def Zt (a0:(List Qwi)):Option ((List Qwi)) :=
 gd ((0:Int)≤0∧0≤((a0.length:Nat):Int)∧((a0.length:Nat):Int)*40≤140737488355328∧((a0.length:Nat):Int)≤140737488355328) <|
 gd ((((List.replicate (0:Int).toNat (default:Qwi)).length)+(a0.length))*(40+1)≤70368744177664) <|
 some ((List.replicate (0:Int).toNat (default:Qwi)) ++ a0)
theorem QaX {a0:(List Qwi)} {r:(List Qwi)} (h:Zt a0=some r):PureC Tryz.prog 86 [.d (slD Qwi.enc a0)] (.osl 5001 0 r.length) [⟨5001,96,5,r.length,rows Qwi.enc r⟩]:=by
  refine Qq tOk (fn:=Tryz.f86) (c:=Qj Tryz.f86) rfl rfl ?_;unfold Zt at h;(conv=>whnf);obtain ⟨g2,h⟩:=Qf h;refine And.intro g2 ?_;clear g2;refine ⟨(List.replicate (0:Int).toNat (default:Qwi)).length,rows Qwi.enc (List.replicate (0:Int).toNat (default:Qwi)),by simp,Qg1 rfl,?_⟩;(conv=>whnf);refine gdI h (fun h=>?_);refine Qj2 (enc:=Qwi.enc) (xs:=(List.replicate (0:Int).toNat (default:Qwi))) (ys:=a0) ?_;(conv=>whnf);obtain rfl:=sj_ h;exact lfP [.s [(5,5001),(5001,5)]]
noncomputable def QcY (a0:Qwi):Option (Bool) :=
 some a0.Stale
theorem Qgg {a0:Qwi} {r:Bool} (h:QcY a0=some r):PureC Tryz.prog 109 [.agg (hnC a0.Entry ++ [dB a0.Stale])] (dB r) []:=by
  refine Qq tOk (fn:=Tryz.f109) (c:=Qj Tryz.f109) rfl rfl ?_;unfold QcY at h;(conv=>whnf);obtain rfl:=sj_ h;exact lfP []
noncomputable def QZ (a0:(List Qwi)):Option (Int) :=
 bd (lp (σ:=Int) (β:=(Int ⊕ Unit)) (fun s1 =>
(if (decide (s1<((a0.length:Nat):Int)))=true then
 gd ((0:Int)≤s1∧s1<((a0.length:Nat):Int)) <|
 bd (QcY (⟨((a0.getD s1.toNat default).Entry),(a0.getD s1.toNat default).Stale⟩:Qwi)) fun x6 =>
(if x6=true then
 some (.inr (.inl s1))
else
 some (.inl (IntKind.i64.wrap (s1+1))))
else
 some (.inr (.inr ())))) 0) fun x4 =>
(match x4 with
| .inl d7 =>
 some d7
| .inr d8 =>
 some (-1))
theorem J0 {a0:(List Qwi)} {r:Int} (h:QZ a0=some r):PureC Tryz.prog 122 [.d (slD Qwi.enc a0),.fn 109 []] (dI r) []:=by
  refine Qq tOk (fn:=Tryz.f122) (c:=Qj Tryz.f122) rfl rfl ?_;unfold QZ at h;(conv=>whnf);refine Qc tOk ?_;(conv=>whnf);obtain ⟨x4,hx4,h⟩:=Qa h;refine Zj tOk hx4 (fun s1=>⟨0,19,[(0,.d (slD Qwi.enc a0)),(1,.fn 109 []),(7,dI ((a0.length:Nat):Int)),(8,dI s1)],[],[],[]⟩) ?_ ?_
  · exact leX []
  · clear hx4;intro s1 y2 g3 hy2;(conv=>whnf);refine Qc tOk ?_;(conv=>whnf);refine Qz g3 (fun _ g3=>?_) (fun _ g3=>?_)
    · (conv=>whnf);refine Qc tOk ?_;(conv=>whnf);refine gdI g3 (fun g3=>?_);(conv=>whnf);obtain ⟨x6,hx6,g3⟩:=Qa g3;refine cC 0 (Qgg hx6) ?_;clear hx6;(conv=>whnf);refine Qz g3 (fun _ g3=>?_) (fun _ g3=>?_)
      · (conv=>whnf);obtain rfl:=sj_ g3;obtain rfl:=hy2 _ rfl;obtain rfl:=sj_ h;exact lfP []
      · (conv=>whnf);obtain rfl:=sj_ g3;exact ⟨_,rfl,leX []⟩
    · (conv=>whnf);obtain rfl:=sj_ g3;obtain rfl:=hy2 _ rfl;obtain rfl:=sj_ h;exact lfP []
noncomputable def Qv (a0:(List Qwi)):Option ((List Qwi)) :=
 bd (QZ a0) fun x1 =>
(if (x1 == (-1))=true then
 some a0
else
 bd (lp (σ:=List Qwi × Int × Int) (β:=(Nat × Int × (List Qwi))) (fun s2 =>
(if (decide (s2.2.2<((s2.1.length:Nat):Int)))=true then
 gd ((0:Int)≤s2.2.2∧s2.2.2<((s2.1.length:Nat):Int)) <|
 bd (QcY (⟨((s2.1.getD s2.2.2.toNat default).Entry),(s2.1.getD s2.2.2.toNat default).Stale⟩:Qwi)) fun x7 =>
(if (!x7)=true then
 gd ((0:Int)≤s2.2.1∧s2.2.1<((s2.1.length:Nat):Int)) <|
 bd (some (s2.1.set s2.2.1.toNat (⟨((s2.1.getD s2.2.2.toNat default).Entry),(s2.1.getD s2.2.2.toNat default).Stale⟩:Qwi))) fun x9 =>
 some (.inl (x9,IntKind.i64.wrap (s2.2.1+1),IntKind.i64.wrap (s2.2.2+1)))
else
 some (.inl (s2.1,s2.2.1,IntKind.i64.wrap (s2.2.2+1))))
else
 some (.inr (s2.1.length,s2.2.1,s2.1)))) (a0,x1,IntKind.i64.wrap (x1+1))) fun x5 =>
 gd ((0:Int)≤x5.2.1∧x5.2.1≤((x5.1:Nat):Int)∧((x5.1:Nat):Int)≤((x5.1:Nat):Int)) <|
 gd ((0:Int)≤(0:Int)∧(0:Int)≤x5.2.1∧x5.2.1≤((x5.1:Nat):Int)) <|
 some ((Qpk x5.2.2 x5.2.1.toNat (QcL ((x5.1:Nat):Int) x5.2.1)).take x5.2.1.toNat))
theorem Zm {a0:(List Qwi)} {r:(List Qwi)} (h:Qv a0=some r):EffC Tryz.prog 108 [.osl 9000 0 a0.length,.fn 109 []] [(9000,.arr 96 5 a0.length (rows Qwi.enc a0))] (.osl 5001 0 r.length) [(5001,.arr 96 5 r.length (rows Qwi.enc r))]:=by
  refine Q7 tOk (fn:=Tryz.f108) (c:=Qj Tryz.f108) rfl rfl ?_;unfold Qv at h;(conv=>whnf);obtain ⟨x1,hx1,h⟩:=Qa h;refine cC 0 (J0 hx1) ?_;clear hx1;(conv=>whnf);refine Qc tOk ?_;(conv=>whnf);refine Qz h (fun _ h=>?_) (fun _ h=>?_)
  · (conv=>whnf);obtain rfl:=sj_ h;exact lfE [.s [(5001,9000),(9000,5001)]]
  · (conv=>whnf);refine Qc tOk ?_;(conv=>whnf);obtain ⟨x5,hx5,h⟩:=Qa h;refine Zj tOk hx5 (fun s2=>⟨0,42,[(0,.osl 9000 0 s2.1.length),(1,.fn 109 []),(5,dI s2.2.1),(6,dI s2.2.2)],[],[(9000,.arr 96 5 s2.1.length (rows Qwi.enc s2.1))],[⟨[],[]⟩]⟩) ?_ ?_
    · exact leX []
    · clear hx5;intro s2 y3 g4 hy3;(conv=>whnf);refine Qc tOk ?_;(conv=>whnf);refine Qz g4 (fun _ g4=>?_) (fun _ g4=>?_)
      · (conv=>whnf);refine Qc tOk ?_;(conv=>whnf);refine gdI g4 (fun g4=>?_);(conv=>whnf);obtain ⟨x7,hx7,g4⟩:=Qa g4;refine cC 0 (Qgg hx7) ?_;clear hx7;(conv=>whnf);refine Qz g4 (fun _ g4=>?_) (fun _ g4=>?_)
        · (conv=>whnf);refine gdI g4 (fun g4=>?_);(conv=>whnf);obtain ⟨x9,hx9,hlx9,g4⟩:=Ql6 g4;refine Qu4 (enc:=Qwi.enc) hx9 ?_;(conv=>whnf);obtain rfl:=sj_ g4;exact ⟨_,rfl,leX []⟩
        · (conv=>whnf);obtain rfl:=sj_ g4;exact ⟨_,rfl,leX []⟩
      · (conv=>whnf);obtain rfl:=sj_ g4;obtain rfl:=hy3 _ rfl;dsimp only at h;obtain ⟨g11,h⟩:=Qf h;refine And.intro g11 ?_;(conv=>whnf);refine ⟨rows Qwi.enc (Qpk (s2.1.length,s2.2.1,s2.1).2.2 (s2.1.length,s2.2.1,s2.1).2.1.toNat (QcL (((s2.1.length,s2.2.1,s2.1).1:Nat):Int) (s2.1.length,s2.2.1,s2.1).2.1)),Qlf Qm7 rfl,?_⟩;(conv=>whnf);obtain ⟨g12,h⟩:=Qf h;refine And.intro g12 ?_;(conv=>whnf);obtain rfl:=sj_ h;exact lfE [.c 4,.s [(5001,9000),(9000,5001)]]
noncomputable def Qa7 (a0:(List Qwi)):Option ((List Qwg)) :=
 bd (lp (σ:=List Qwg × Int) (β:=(Nat × (List Qwg))) (fun s1 =>
(if (decide (s1.2<((a0.length:Nat):Int)))=true then
 gd ((0:Int)≤s1.2∧s1.2<((a0.length:Nat):Int)) <|
 gd (((s1.1.length)+(([((a0.getD s1.2.toNat default).Entry)]:List Qwg).length))*(32+1)≤70368744177664) <|
 some (.inl ((s1.1 ++ ([((a0.getD s1.2.toNat default).Entry)]:List Qwg)),IntKind.i64.wrap (s1.2+1)))
else
 some (.inr (s1.1.length,s1.1)))) (([]:List Qwg),0)) fun x4 =>
 some x4.2
theorem Qfb {a0:(List Qwi)} {r:(List Qwg)} (h:Qa7 a0=some r):PureC Tryz.prog 33 [.d (slD Qwi.enc a0)] (.osl 5001 0 r.length) [⟨5001,31,4,r.length,rows Qwg.enc r⟩]:=by
  refine Qq tOk (fn:=Tryz.f33) (c:=Qj Tryz.f33) rfl rfl ?_;unfold Qa7 at h;(conv=>whnf);refine Qc tOk ?_;(conv=>whnf);obtain ⟨x4,hx4,h⟩:=Qa h;refine Zj tOk hx4 (fun s1=>⟨0,20,[(3,.osl 7001 0 s1.1.length),(7,.d (slD Qwi.enc a0)),(8,dI ((a0.length:Nat):Int)),(9,dI s1.2)],[],[(7001,.arr 31 4 s1.1.length (rows Qwg.enc s1.1))],[]⟩) ?_ ?_
  · exact leX [.p 7001 31 4 (rows Qwg.enc ([]:List Qwg))]
  · clear hx4;intro s1 y2 g3 hy2;(conv=>whnf);refine Qc tOk ?_;(conv=>whnf);refine Qz g3 (fun _ g3=>?_) (fun _ g3=>?_)
    · (conv=>whnf);refine Qc tOk ?_;(conv=>whnf);refine gdI g3 (fun g3=>?_);(conv=>whnf);refine Qj1 (enc:=Qwg.enc) ([((a0.getD s1.2.toNat default).Entry)]:List Qwg) ?_;(conv=>whnf);refine gdI g3 (fun g3=>?_);refine Qj2 (enc:=Qwg.enc) (xs:=s1.1) (ys:=([((a0.getD s1.2.toNat default).Entry)]:List Qwg)) ?_;(conv=>whnf);obtain rfl:=sj_ g3;exact ⟨_,rfl,leX []⟩
    · (conv=>whnf);obtain rfl:=sj_ g3;obtain rfl:=hy2 _ rfl;obtain rfl:=sj_ h;exact lfP [.s [(5001,7001),(7001,5001)]]
noncomputable def Qc8 (a0:(List Qwi)):Option ((List Qwg)) :=
 bd (Zt a0) fun x1 =>
 bd (Qv x1) fun x2 =>
 bd (Qa7 x2) fun x3 =>
 some x3
theorem Ql8 {a0:(List Qwi)} {r:(List Qwg)} (h:Qc8 a0=some r):PureC Tryz.prog 72 [.d (slD Qwi.enc a0)] (.osl 5001 0 r.length) [⟨5001,31,4,r.length,rows Qwg.enc r⟩]:=by
  refine Qq tOk (fn:=Tryz.f72) (c:=Qj Tryz.f72) rfl rfl ?_;unfold Qc8 at h;(conv=>whnf);obtain ⟨x1,hx1,h⟩:=Qa h;refine cC 1000 (QaX hx1) ?_;clear hx1;(conv=>whnf);obtain ⟨x2,hx2,h⟩:=Qa h;refine cE [(9000,6001)] 2000 (Zm hx2) ?_;(conv=>whnf);obtain ⟨x3,hx3,h⟩:=Qa h;refine cC 3000 (Qfb hx3) ?_;clear hx3;(conv=>whnf);obtain rfl:=sj_ h;exact lfP [.s [(5001,8001),(8001,5001)]]
noncomputable def QN (a0:(List Qwg)) (a1:(List Qwg)):Option (Bool) :=
(if (((a0.length:Nat):Int) != ((a1.length:Nat):Int))=true then
 some false
else
 bd (lp (σ:=Int) (β:=(Unit ⊕ Unit)) (fun s1 =>
(if (decide (s1<((a0.length:Nat):Int)))=true then
 gd ((0:Int)≤s1∧s1<((a0.length:Nat):Int)) <|
 gd ((0:Int)≤s1∧s1<((a1.length:Nat):Int)) <|
(if (!((((a0.getD s1.toNat default).Addr) == ((a1.getD s1.toNat default).Addr)) && ((((a0.getD s1.toNat default).Len) == ((a1.getD s1.toNat default).Len)) && ((((a0.getD s1.toNat default).Cost) == ((a1.getD s1.toNat default).Cost)) && ((((a0.getD s1.toNat default).Label) == ((a1.getD s1.toNat default).Label)) && true)))))=true then
 some (.inr (.inl ()))
else
 some (.inl (IntKind.i64.wrap (s1+1))))
else
 some (.inr (.inr ())))) 0) fun x4 =>
(match x4 with
| .inl d7 =>
 some false
| .inr d8 =>
 some true))
theorem J4 {a0:(List Qwg)} {a1:(List Qwg)} {r:Bool} (h:QN a0 a1=some r):PureC Tryz.prog 42 [.d (slD Qwg.enc a0),.d (slD Qwg.enc a1)] (dB r) []:=by
  refine Qq tOk (fn:=Tryz.f42) (c:=Qj Tryz.f42) rfl rfl ?_;unfold QN at h;(conv=>whnf);refine Qc tOk ?_;(conv=>whnf);refine Qz h (fun _ h=>?_) (fun _ h=>?_)
  · (conv=>whnf);obtain rfl:=sj_ h;exact lfP []
  · (conv=>whnf);refine Qc tOk ?_;(conv=>whnf);obtain ⟨x4,hx4,h⟩:=Qa h;refine Zj tOk hx4 (fun s1=>⟨0,26,[(0,.d (slD Qwg.enc a0)),(1,.d (slD Qwg.enc a1)),(12,dI ((a0.length:Nat):Int)),(13,dI s1)],[],[],[]⟩) ?_ ?_
    · exact leX []
    · clear hx4;intro s1 y2 g3 hy2;(conv=>whnf);refine Qc tOk ?_;(conv=>whnf);refine Qz g3 (fun _ g3=>?_) (fun _ g3=>?_)
      · (conv=>whnf);refine Qc tOk ?_;(conv=>whnf);obtain ⟨g5,g3⟩:=Qf g3;obtain ⟨g6,g3⟩:=Qf g3;refine QS tOk [] 9 [] [0,0,3,7,0,0,48,112,255] [] ?_;(conv=>whnf);refine And.intro g5 ?_;clear g5;(conv=>whnf);refine And.intro g6 ?_;clear g6;(conv=>whnf);refine And.intro (by kernel_rfl) ?_;(conv=>whnf);refine Qz g3 (fun _ g3=>?_) (fun _ g3=>?_)
        · (conv=>whnf);obtain rfl:=sj_ g3;obtain rfl:=hy2 _ rfl;obtain rfl:=sj_ h;exact lfP []
        · (conv=>whnf);obtain rfl:=sj_ g3;exact ⟨_,rfl,leX []⟩
      · (conv=>whnf);obtain rfl:=sj_ g3;obtain rfl:=hy2 _ rfl;obtain rfl:=sj_ h;exact lfP []
noncomputable def Qcv (a0:(List Qwi)):Option ((List Qwg)) :=
 bd (Zt a0) fun x1 =>
 bd (Qv x1) fun x2 =>
 bd (Qa7 x2) fun x3 =>
 some x3
theorem Qi6 {a0:(List Qwi)} {r:(List Qwg)} (h:Qcv a0=some r):EffC Tryz.prog 72 [.d (slD Qwi.enc a0)] [] (.d (slD Qwg.enc r)) []:=by
  refine Q7 tOk (fn:=Tryz.f72) (c:=Qj Tryz.f72) rfl rfl ?_;unfold Qcv at h;(conv=>whnf);obtain ⟨x1,hx1,h⟩:=Qa h;refine cC 1000 (QaX hx1) ?_;clear hx1;(conv=>whnf);obtain ⟨x2,hx2,h⟩:=Qa h;refine cE [(9000,6001)] 2000 (Zm hx2) ?_;(conv=>whnf);obtain ⟨x3,hx3,h⟩:=Qa h;refine cC 3000 (Qfb hx3) ?_;clear hx3;(conv=>whnf);obtain rfl:=sj_ h;exact lfE [.f [8001]]
noncomputable def Qcl (a0:Qwj) (a1:Qwj):Option (Bool) :=
 bd (gcall (a0.All=true) (Jj a1.Heard)) fun x1 =>
(if (a0.All && x1)=true then
 some false
else
(if ((a0.Under.Kind != 0) && (a1.Got == (IntKind.i64.wrap (a0.Num - 1))))=true then
 bd (Qc8 a1.Heard) fun x2 =>
 bd (QN x2 a0.Told) fun x3 =>
 some (x3 && (a1.Full == a0.All))
else
 bd (gcall ((a1.Got == a0.Num)=true) (Qcv a1.Heard)) fun x4 =>
 bd (gcall ((a1.Got == a0.Num)=true) (J6 a0.Told a0.Under)) fun x5 =>
 bd (gcall ((a1.Got == a0.Num)=true) (QN x4 x5)) fun x6 =>
 some (((a1.Got == a0.Num) && x6) && (a1.Full == (a0.All || (a0.Under.Kind == 3))))))
theorem Qid {a0:Qwj} {a1:Qwj} {r:Bool} (h:Qcl a0 a1=some r):PureC Tryz.prog 36 [.agg (heC a0 (.d (slD Qwi.enc a0.Heard))),.agg (heC a1 (.d (slD Qwi.enc a1.Heard)))] (dB r) []:=by
  refine Qq tOk (fn:=Tryz.f36) (c:=Qj Tryz.f36) rfl rfl ?_;unfold Qcl at h;(conv=>whnf);refine Qc tOk ?_;(conv=>whnf);obtain ⟨x1,hx1,h⟩:=Qa h;refine cG (fun c0=>QdN (Qd hx1 c0)) ?_;(conv=>whnf);refine Qz h (fun _ h=>?_) (fun _ h=>?_)
  · (conv=>whnf);obtain rfl:=sj_ h;exact lfP []
  · (conv=>whnf);refine Qc tOk ?_;(conv=>whnf);refine Qz h (fun _ h=>?_) (fun _ h=>?_)
    · (conv=>whnf);obtain ⟨x2,hx2,h⟩:=Qa h;obtain ⟨x3,hx3,h⟩:=Qa h;refine QS tOk [.u 2 1000 (.osl 5001 0 x2.length) [⟨5001,31,4,x2.length,rows Qwg.enc x2⟩],.u 5 0 (dB x3) []] 14 [] [0,1,3,0,8,31,63,127,255,127,639,2047,4095,8191] [] ?_;(conv=>whnf);refine And.intro (QM (Ql8 hx2) (by kernel_rfl)) ?_;(conv=>whnf);refine And.intro (QM (J4 hx3) (by kernel_rfl)) ?_;(conv=>whnf);refine And.intro (by kernel_rfl) ?_;(conv=>whnf);obtain rfl:=sj_ h;exact lfP []
    · (conv=>whnf);obtain ⟨x4,hx4,h⟩:=Qa h;obtain ⟨x5,hx5,h⟩:=Qa h;obtain ⟨x6,hx6,h⟩:=Qa h;refine QaG tOk [.e 8 [] (.d (slD Qwg.enc x4)) [] [],.e 13 [] (.d (slD Qwg.enc x5)) [] [],.u 14 0 (dB x6) []] 30 [] [0,1,0,4,15,31,63,127,255,63,575,63,2111,8191,16383,32767,65535,131071,262143,131071,655359,1703935,3801087,7995391,16383999,33161215,66715647,134217727,268435455,536870911] [] [] ?_;(conv=>whnf);refine And.intro (And.intro ⟨⟨Tryz.f72,rfl,rfl,rfl⟩⟩ (And.intro (by intro c0; exact eD [] 0 (Qi6 (Qd hx4 c0))) (QfT inA))) ?_;(conv=>whnf);refine And.intro (And.intro ⟨⟨Tryz.f66,rfl,rfl,rfl⟩⟩ (And.intro (by intro c0; exact eD [] 0 (Qel (Qd hx5 c0))) (QfT inA))) ?_;(conv=>whnf);refine And.intro (Q1 rfl rfl rfl rfl (by intro c0; exact J4 (Qd hx6 c0))) ?_;(conv=>whnf);refine And.intro (by kernel_rfl) ?_;(conv=>whnf);obtain rfl:=sj_ h;exact lfP []
noncomputable def Qar (a0:Qwm):Option (Bool) :=
 bd (Q9 a0) fun x1 =>
(if (!x1)=true then
 some false
else
 gd ((0:Int)≤0∧0<((a0.Sides.length:Nat):Int)) <|
 gd ((0:Int)≤1∧1<((a0.Sides.length:Nat):Int)) <|
(if ((((!((a0.Sides.getD 0 default).Up)) || (!((a0.Sides.getD 1 default).Up))) || ((((a0.Sides.getD 0 default).End).PeerBoot) != (((a0.Sides.getD 1 default).End).Boot))) || ((((a0.Sides.getD 1 default).End).PeerBoot) != (((a0.Sides.getD 0 default).End).Boot)))=true then
 some true
else
 bd (Qcl ({ ((a0.Sides.getD 0 default).End) with Under:=(⟨(((a0.Sides.getD 0 default).End).Under).Kind,((((a0.Sides.getD 0 default).End).Under).Entry)⟩:Qwh) }) ({ ((a0.Sides.getD 1 default).End) with Under:=(⟨(((a0.Sides.getD 1 default).End).Under).Kind,((((a0.Sides.getD 1 default).End).Under).Entry)⟩:Qwh) })) fun x4 =>
 bd (gcall (x4=true) (Qcl ({ ((a0.Sides.getD 1 default).End) with Under:=(⟨(((a0.Sides.getD 1 default).End).Under).Kind,((((a0.Sides.getD 1 default).End).Under).Entry)⟩:Qwh) }) ({ ((a0.Sides.getD 0 default).End) with Under:=(⟨(((a0.Sides.getD 0 default).End).Under).Kind,((((a0.Sides.getD 0 default).End).Under).Entry)⟩:Qwh) }))) fun x5 =>
 some (x4 && x5)))
theorem Qfc {a0:Qwm} {r:Bool} (h:Qar a0=some r):PureC Tryz.prog 14 [.agg [.d (slD Qwk.enc a0.Sides),.d (slD Qwl.enc a0.Radio)]] (dB r) []:=by
  refine Qq tOk (fn:=Tryz.f14) (c:=Qj Tryz.f14) rfl rfl ?_;unfold Qar at h;(conv=>whnf);refine Qc tOk ?_;(conv=>whnf);obtain ⟨x1,hx1,h⟩:=Qa h;refine cC 0 (Jv hx1) ?_;clear hx1;(conv=>whnf);refine Qz h (fun _ h=>?_) (fun _ h=>?_)
  · (conv=>whnf);obtain rfl:=sj_ h;exact lfP []
  · (conv=>whnf);obtain ⟨g2,h⟩:=Qf h;obtain ⟨g3,h⟩:=Qf h;refine QaG tOk [.a 8 [] (.ref 3 0 0) [(3,.box 38 [dB false,dI 0,dI 0,.d (.nil),dI 0,.d (.nil),dI 0,dI 0,dI 0,dB false,dI 0,dI 0,dI 0,dI 0,dI 0,dI 0,dI 0,.d (.nil),dB false,dI 0,dB false,.d (.nil),dI 0])],.a 9 [] (.ref 4 0 0) [(4,.box 38 [dB false,dI 0,dI 0,.d (.nil),dI 0,.d (.nil),dI 0,dI 0,dI 0,dB false,dI 0,dI 0,dI 0,dI 0,dI 0,dI 0,dI 0,.d (.nil),dB false,dI 0,dB false,.d (.nil),dI 0])],.a 10 [(3,.box 38 [dB false,dI 0,dI 0,.d (.nil),dI 0,.d (.nil),dI 0,dI 0,dI 0,dB false,dI 0,dI 0,dI 0,dI 0,dI 0,dI 0,dI 0,.d (.nil),dB false,dI 0,dB false,.d (.nil),dI 0])] (.any) [(3,.box 38 (dB ((a0.Sides.getD 0 default).Up) :: heC ((a0.Sides.getD 0 default).End) (.d (slD Qwi.enc (((a0.Sides.getD 0 default).End).Heard)))))],.a 11 [(4,.box 38 [dB false,dI 0,dI 0,.d (.nil),dI 0,.d (.nil),dI 0,dI 0,dI 0,dB false,dI 0,dI 0,dI 0,dI 0,dI 0,dI 0,dI 0,.d (.nil),dB false,dI 0,dB false,.d (.nil),dI 0])] (.any) [(4,.box 38 (dB ((a0.Sides.getD 1 default).Up) :: heC ((a0.Sides.getD 1 default).End) (.d (slD Qwi.enc (((a0.Sides.getD 1 default).End).Heard)))))]] 12 [] [0,1,3,7,0,16,48,112,0,0,783,2047] [] [] ?_;(conv=>whnf);refine And.intro g2 ?_;clear g2;(conv=>whnf);refine And.intro g3 ?_;clear g3;(conv=>whnf);refine And.intro (by (conv=>whnf); exact ⟨rfl,rfl⟩) ?_;(conv=>whnf);refine And.intro (by (conv=>whnf); exact ⟨rfl,rfl⟩) ?_;(conv=>whnf);refine And.intro (by (conv=>whnf); exact ⟨rfl,rfl⟩) ?_;(conv=>whnf);refine And.intro (by (conv=>whnf); exact ⟨rfl,rfl⟩) ?_;(conv=>whnf);refine And.intro (by kernel_rfl) ?_;(conv=>whnf);refine Qc tOk ?_;(conv=>whnf);refine Qz h (fun _ h=>?_) (fun _ h=>?_)
    · (conv=>whnf);obtain rfl:=sj_ h;exact lfP []
    · (conv=>whnf);obtain ⟨x4,hx4,h⟩:=Qa h;refine cC 0 (Qid hx4) ?_;clear hx4;(conv=>whnf);obtain ⟨x5,hx5,h⟩:=Qa h;refine cG (fun c0=>Qid (Qd hx5 c0)) ?_;(conv=>whnf);obtain rfl:=sj_ h;exact lfP []
end Go.Proofs.YtjgjdobkahdgfaaGreat
