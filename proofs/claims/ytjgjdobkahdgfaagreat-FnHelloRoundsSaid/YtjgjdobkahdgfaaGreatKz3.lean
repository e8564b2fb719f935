/-
  What some of the program's functions compute: their models, and that the functions compute these; no condition.
-/
import Derived.Test.YtjgjdobkahdgfaaGreatTyz
import Derived.Test.YtjgjdobkahdgfaaGreatTbz
import Derived.Test.YtjgjdobkahdgfaaGreatAbz7
import Derived.Test.YtjgjdobkahdgfaaGreatKz2
set_option linter.all false
namespace Go.Proofs.YtjgjdobkahdgfaaGreat
open Go Go.Ab
set_option maxRecDepth 100000
set_option maxHeartbeats 40000000
noncomputable def ZM (a0:Qv8) (a1:Int):Option (Qv8) :=
 bd (QN a0) fun x1 =>
(if (!x1)=true then
 some (⟨[],[]⟩:Qv8)
else
 bd (QaC a0) fun x2 =>
 bd (lp (σ:=List Qv6 × List Qv7 × Int) (β:=(Nat × Nat × (List Qv6) × (List Qv7))) (fun s3 =>
(if ((decide (s3.2.2<a1)) && (decide (s3.2.2<100)))=true then
 bd (ZC (⟨s3.1,s3.2.1⟩:Qv8)) fun x7 =>
 some (.inl (x7.Sides,x7.Radio,IntKind.i64.wrap (s3.2.2+1)))
else
 some (.inr (s3.1.length,s3.2.1.length,s3.1,s3.2.1)))) (x2.Sides,x2.Radio,0)) fun x6 =>
 bd (JJ (⟨x6.2.2.1,x6.2.2.2⟩:Qv8)) fun x9 =>
 some x9)
theorem Qfm {a0:Qv8} {a1:Int} {r:Qv8} (h:ZM a0 a1=some r):EffC Tryz.prog 20 [.agg [.d (slD Qv6.enc a0.Sides),.d (slD Qv7.enc a0.Radio)],dI a1] [] (.agg [.osl 5001 0 r.Sides.length,.osl 5002 0 r.Radio.length]) [(5001,.arr 38 23 r.Sides.length (rows Qv6.enc r.Sides)),(5002,.arr 42 14 r.Radio.length (rows Qv7.enc r.Radio))]:=by
  refine QQ tOk (fn:=Tryz.f20) (c:=Qj Tryz.f20) rfl rfl ?_;unfold ZM at h;(conv=>whnf);refine Qe tOk ?_;(conv=>whnf);obtain ⟨x1,hx1,h⟩:=Qa h;refine cC 0 (Qan hx1) ?_;clear hx1;(conv=>whnf);refine Qu h (fun _ h=>?_) (fun _ h=>?_)
  · (conv=>whnf);obtain rfl:=sj_ h;exact lfE [.k [2],.p 5001 38 23 (rows Qv6.enc ([]:List Qv6)),.p 5002 42 14 (rows Qv7.enc ([]:List Qv7))]
  · (conv=>whnf);obtain ⟨x2,hx2,h⟩:=Qa h;refine cE [] 1000 (Qfz hx2) ?_;(conv=>whnf);refine Qe tOk ?_;(conv=>whnf);obtain ⟨x6,hx6,h⟩:=Qa h;refine Zh tOk hx6 (fun s3=>⟨0,26,[(1,dI a1),(4,.ref 4 0 0),(5,.ref 5 0 0),(6,dI s3.2.2)],[],[(5,.box 26 [.osl 6001 0 s3.1.length,.osl 6002 0 s3.2.1.length]),(6001,.arr 38 23 s3.1.length (rows Qv6.enc s3.1)),(6002,.arr 42 14 s3.2.1.length (rows Qv7.enc s3.2.1)),(4,.box 26 [.d (.nil),.d (.nil)])],[⟨[],[]⟩]⟩) ?_ ?_
    · exact leX []
    · clear hx6;intro s3 y4 g5 hy4;(conv=>whnf);refine Qe tOk ?_;(conv=>whnf);refine Qu g5 (fun _ g5=>?_) (fun _ g5=>?_)
      · (conv=>whnf);refine Qe tOk ?_;(conv=>whnf);obtain ⟨x7,hx7,g5⟩:=Qa g5;refine cE [(9000,6001),(9001,6002)] 2000 (Qfr hx7) ?_;(conv=>whnf);obtain rfl:=sj_ g5;exact ⟨_,rfl,leX [.s [(6001,7001),(6002,7002),(7001,6001),(7002,6002)]]⟩
      · (conv=>whnf);obtain rfl:=sj_ g5;obtain rfl:=hy4 _ rfl;obtain ⟨x9,hx9,h⟩:=Qa h;refine QcU [6001,6002] ?_;(conv=>whnf);refine cE [] 1000 (Qc2 hx9) ?_;(conv=>whnf);obtain rfl:=sj_ h;exact lfE [.s [(5001,6001),(5002,6002),(6001,5001),(6002,5002)]]
noncomputable def Qbe (a0:Qv0) (a1:Qv8):Option (Qv7 × Qv0) :=
 bd (Qc a0 2) fun x1 =>
 gd ((0:Int)≤x1.1∧x1.1<((a1.Sides.length:Nat):Int)) <|
 bd (Qc (⟨a0.b,x1.2.p⟩:Qv0) 2) fun x3 =>
 bd (Qc (⟨a0.b,x3.2.p⟩:Qv0) 5) fun x4 =>
 bd (Qc (⟨a0.b,x4.2.p⟩:Qv0) 200) fun x5 =>
 bd (Qc (⟨a0.b,x5.2.p⟩:Qv0) 3) fun x6 =>
 bd (Qc (⟨a0.b,x6.2.p⟩:Qv0) 9) fun x7 =>
 bd (Qc (⟨a0.b,x7.2.p⟩:Qv0) 2) fun x8 =>
 bd (Qc (⟨a0.b,x8.2.p⟩:Qv0) 4) fun x9 =>
 bd (α:=Int ⊕ ((Int × Int × Int × Int × Int × Int × Int × Int × Int × Int × Int × Int × Int × Int × Int) ⊕ (Int × Int × Int × Int × Int × Int × Int × Int × Int × Int × Int × Int × Int × Int))) ((if (decide (((a1.Radio.length:Nat):Int) > 0))=true then
 bd (Qc (⟨a0.b,x9.2.p⟩:Qv0) 2) fun x14 =>
(if ((decide (((a1.Radio.length:Nat):Int) > 0)) && (x14.1 == 0))=true then
 bd (Qc (⟨a0.b,x14.2.p⟩:Qv0) ((a1.Radio.length:Nat):Int)) fun x15 =>
 gd ((0:Int)≤x15.1∧x15.1<((a1.Radio.length:Nat):Int)) <|
 bd (Qc (⟨a0.b,x15.2.p⟩:Qv0) 4) fun x17 =>
(if (x17.1 == 0)=true then
 bd (Qc (⟨a0.b,x17.2.p⟩:Qv0) 9) fun x18 =>
 some (.inr (.inl ((a1.Radio.getD x15.1.toNat default).From,(a1.Radio.getD x15.1.toNat default).To,(a1.Radio.getD x15.1.toNat default).Key,(a1.Radio.getD x15.1.toNat default).Boot,(a1.Radio.getD x15.1.toNat default).Yours,IntKind.i64.wrap ((IntKind.i64.wrap (((a1.Radio.getD x15.1.toNat default).Turn)+1))+x18.1),(a1.Radio.getD x15.1.toNat default).Num,(a1.Radio.getD x15.1.toNat default).Heard,((a1.Radio.getD x15.1.toNat default).Change).Kind,(((a1.Radio.getD x15.1.toNat default).Change).Entry).Addr,(((a1.Radio.getD x15.1.toNat default).Change).Entry).Len,(((a1.Radio.getD x15.1.toNat default).Change).Entry).Cost,(((a1.Radio.getD x15.1.toNat default).Change).Entry).Label,(a1.Radio.getD x15.1.toNat default).Sum,x18.2.p)))
else
(if (x17.1 == 1)=true then
 some (.inr (.inl ((a1.Radio.getD x15.1.toNat default).From,(a1.Radio.getD x15.1.toNat default).To,(a1.Radio.getD x15.1.toNat default).Key,(a1.Radio.getD x15.1.toNat default).Boot,(a1.Radio.getD x15.1.toNat default).Yours,(a1.Radio.getD x15.1.toNat default).Turn,(a1.Radio.getD x15.1.toNat default).Num,IntKind.i64.wrap (((a1.Radio.getD x15.1.toNat default).Heard)+1),((a1.Radio.getD x15.1.toNat default).Change).Kind,(((a1.Radio.getD x15.1.toNat default).Change).Entry).Addr,(((a1.Radio.getD x15.1.toNat default).Change).Entry).Len,(((a1.Radio.getD x15.1.toNat default).Change).Entry).Cost,(((a1.Radio.getD x15.1.toNat default).Change).Entry).Label,(a1.Radio.getD x15.1.toNat default).Sum,x17.2.p)))
else
(if (x17.1 == 2)=true then
 some (.inr (.inl ((a1.Radio.getD x15.1.toNat default).From,(a1.Radio.getD x15.1.toNat default).To,(a1.Radio.getD x15.1.toNat default).Key,IntKind.i64.wrap (((a1.Radio.getD x15.1.toNat default).Boot)+1),(a1.Radio.getD x15.1.toNat default).Yours,(a1.Radio.getD x15.1.toNat default).Turn,(a1.Radio.getD x15.1.toNat default).Num,(a1.Radio.getD x15.1.toNat default).Heard,((a1.Radio.getD x15.1.toNat default).Change).Kind,(((a1.Radio.getD x15.1.toNat default).Change).Entry).Addr,(((a1.Radio.getD x15.1.toNat default).Change).Entry).Len,(((a1.Radio.getD x15.1.toNat default).Change).Entry).Cost,(((a1.Radio.getD x15.1.toNat default).Change).Entry).Label,(a1.Radio.getD x15.1.toNat default).Sum,x17.2.p)))
else
 bd (JM (⟨a0.b,x17.2.p⟩:Qv0)) fun x19 =>
 some (.inr (.inr ((a1.Radio.getD x15.1.toNat default).From,(a1.Radio.getD x15.1.toNat default).To,(a1.Radio.getD x15.1.toNat default).Key,(a1.Radio.getD x15.1.toNat default).Boot,(a1.Radio.getD x15.1.toNat default).Yours,IntKind.i64.wrap (((a1.Radio.getD x15.1.toNat default).Turn)+1),IntKind.i64.wrap (((a1.Radio.getD x15.1.toNat default).Num)+1),(a1.Radio.getD x15.1.toNat default).Heard,x19.1.Addr,x19.1.Len,x19.1.Cost,x19.1.Label,(a1.Radio.getD x15.1.toNat default).Sum,x19.2.p))))))
else
 some (.inl x14.2.p))
else
(if ((decide (((a1.Radio.length:Nat):Int) > 0)) && ((0:Int) == 0))=true then
 bd (Qc (⟨a0.b,x9.2.p⟩:Qv0) ((a1.Radio.length:Nat):Int)) fun x20 =>
 gd ((0:Int)≤x20.1∧x20.1<((a1.Radio.length:Nat):Int)) <|
 bd (Qc (⟨a0.b,x20.2.p⟩:Qv0) 4) fun x22 =>
(if (x22.1 == 0)=true then
 bd (Qc (⟨a0.b,x22.2.p⟩:Qv0) 9) fun x23 =>
 some (.inr (.inl ((a1.Radio.getD x20.1.toNat default).From,(a1.Radio.getD x20.1.toNat default).To,(a1.Radio.getD x20.1.toNat default).Key,(a1.Radio.getD x20.1.toNat default).Boot,(a1.Radio.getD x20.1.toNat default).Yours,IntKind.i64.wrap ((IntKind.i64.wrap (((a1.Radio.getD x20.1.toNat default).Turn)+1))+x23.1),(a1.Radio.getD x20.1.toNat default).Num,(a1.Radio.getD x20.1.toNat default).Heard,((a1.Radio.getD x20.1.toNat default).Change).Kind,(((a1.Radio.getD x20.1.toNat default).Change).Entry).Addr,(((a1.Radio.getD x20.1.toNat default).Change).Entry).Len,(((a1.Radio.getD x20.1.toNat default).Change).Entry).Cost,(((a1.Radio.getD x20.1.toNat default).Change).Entry).Label,(a1.Radio.getD x20.1.toNat default).Sum,x23.2.p)))
else
(if (x22.1 == 1)=true then
 some (.inr (.inl ((a1.Radio.getD x20.1.toNat default).From,(a1.Radio.getD x20.1.toNat default).To,(a1.Radio.getD x20.1.toNat default).Key,(a1.Radio.getD x20.1.toNat default).Boot,(a1.Radio.getD x20.1.toNat default).Yours,(a1.Radio.getD x20.1.toNat default).Turn,(a1.Radio.getD x20.1.toNat default).Num,IntKind.i64.wrap (((a1.Radio.getD x20.1.toNat default).Heard)+1),((a1.Radio.getD x20.1.toNat default).Change).Kind,(((a1.Radio.getD x20.1.toNat default).Change).Entry).Addr,(((a1.Radio.getD x20.1.toNat default).Change).Entry).Len,(((a1.Radio.getD x20.1.toNat default).Change).Entry).Cost,(((a1.Radio.getD x20.1.toNat default).Change).Entry).Label,(a1.Radio.getD x20.1.toNat default).Sum,x22.2.p)))
else
(if (x22.1 == 2)=true then
 some (.inr (.inl ((a1.Radio.getD x20.1.toNat default).From,(a1.Radio.getD x20.1.toNat default).To,(a1.Radio.getD x20.1.toNat default).Key,IntKind.i64.wrap (((a1.Radio.getD x20.1.toNat default).Boot)+1),(a1.Radio.getD x20.1.toNat default).Yours,(a1.Radio.getD x20.1.toNat default).Turn,(a1.Radio.getD x20.1.toNat default).Num,(a1.Radio.getD x20.1.toNat default).Heard,((a1.Radio.getD x20.1.toNat default).Change).Kind,(((a1.Radio.getD x20.1.toNat default).Change).Entry).Addr,(((a1.Radio.getD x20.1.toNat default).Change).Entry).Len,(((a1.Radio.getD x20.1.toNat default).Change).Entry).Cost,(((a1.Radio.getD x20.1.toNat default).Change).Entry).Label,(a1.Radio.getD x20.1.toNat default).Sum,x22.2.p)))
else
 bd (JM (⟨a0.b,x22.2.p⟩:Qv0)) fun x24 =>
 some (.inr (.inr ((a1.Radio.getD x20.1.toNat default).From,(a1.Radio.getD x20.1.toNat default).To,(a1.Radio.getD x20.1.toNat default).Key,(a1.Radio.getD x20.1.toNat default).Boot,(a1.Radio.getD x20.1.toNat default).Yours,IntKind.i64.wrap (((a1.Radio.getD x20.1.toNat default).Turn)+1),IntKind.i64.wrap (((a1.Radio.getD x20.1.toNat default).Num)+1),(a1.Radio.getD x20.1.toNat default).Heard,x24.1.Addr,x24.1.Len,x24.1.Cost,x24.1.Label,(a1.Radio.getD x20.1.toNat default).Sum,x24.2.p))))))
else
 some (.inl x9.2.p)))) fun x10 =>
(match x10 with
| .inl d12 =>
 bd (Qc (⟨a0.b,d12⟩:Qv0) 256) fun x25 =>
 bd (Qc (⟨a0.b,x25.2.p⟩:Qv0) 2) fun x26 =>
(if (x26.1 == 0)=true then
 bd (JN 8 (⟨((a1.Sides.getD x1.1.toNat default).End).Name,((a1.Sides.getD x1.1.toNat default).End).Peer,IntKind.i64.wrap (1+x3.1),IntKind.i64.wrap (1+(IntKind.i64.wrap (x4.1*x5.1))),IntKind.i64.wrap (1+x6.1),IntKind.i64.wrap (1+x7.1),x8.1,x9.1,(⟨0,(⟨0,0,0,0⟩:Qv2)⟩:Qv3),x25.1⟩:Qv7)) fun x27 =>
 some ((⟨((a1.Sides.getD x1.1.toNat default).End).Name,((a1.Sides.getD x1.1.toNat default).End).Peer,IntKind.i64.wrap (1+x3.1),IntKind.i64.wrap (1+(IntKind.i64.wrap (x4.1*x5.1))),IntKind.i64.wrap (1+x6.1),IntKind.i64.wrap (1+x7.1),x8.1,x9.1,(⟨0,(⟨0,0,0,0⟩:Qv2)⟩:Qv3),x27⟩:Qv7),(⟨a0.b,x26.2.p⟩:Qv0))
else
 some ((⟨((a1.Sides.getD x1.1.toNat default).End).Name,((a1.Sides.getD x1.1.toNat default).End).Peer,IntKind.i64.wrap (1+x3.1),IntKind.i64.wrap (1+(IntKind.i64.wrap (x4.1*x5.1))),IntKind.i64.wrap (1+x6.1),IntKind.i64.wrap (1+x7.1),x8.1,x9.1,(⟨0,(⟨0,0,0,0⟩:Qv2)⟩:Qv3),x25.1⟩:Qv7),(⟨a0.b,x26.2.p⟩:Qv0)))
| .inr (.inl d28) =>
 some ((⟨d28.1,d28.2.1,d28.2.2.1,d28.2.2.2.1,d28.2.2.2.2.1,d28.2.2.2.2.2.1,d28.2.2.2.2.2.2.1,d28.2.2.2.2.2.2.2.1,(⟨d28.2.2.2.2.2.2.2.2.1,(⟨d28.2.2.2.2.2.2.2.2.2.1,d28.2.2.2.2.2.2.2.2.2.2.1,d28.2.2.2.2.2.2.2.2.2.2.2.1,d28.2.2.2.2.2.2.2.2.2.2.2.2.1⟩:Qv2)⟩:Qv3),d28.2.2.2.2.2.2.2.2.2.2.2.2.2.1⟩:Qv7),(⟨a0.b,d28.2.2.2.2.2.2.2.2.2.2.2.2.2.2⟩:Qv0))
| .inr (.inr d29) =>
 some ((⟨d29.1,d29.2.1,d29.2.2.1,d29.2.2.2.1,d29.2.2.2.2.1,d29.2.2.2.2.2.1,d29.2.2.2.2.2.2.1,d29.2.2.2.2.2.2.2.1,(⟨1,(⟨d29.2.2.2.2.2.2.2.2.1,d29.2.2.2.2.2.2.2.2.2.1,d29.2.2.2.2.2.2.2.2.2.2.1,d29.2.2.2.2.2.2.2.2.2.2.2.1⟩:Qv2)⟩:Qv3),d29.2.2.2.2.2.2.2.2.2.2.2.2.1⟩:Qv7),(⟨a0.b,d29.2.2.2.2.2.2.2.2.2.2.2.2.2⟩:Qv0)))
theorem QiR {a0:Qv0} {a1:Qv8} {r:Qv7 × Qv0} (h:Qbe a0 a1=some r):EffC Tryz.prog 71 [.ref 9000 0 0,.agg [.d (slD Qv6.enc a1.Sides),.d (slD Qv7.enc a1.Radio)]] [(9000,.box 75 [.d (slD Qq a0.b),dI a0.p])] (.agg (hwC r.1)) [(9000,.box 75 [.d (slD Qq a0.b),dI r.2.p])]:=by
  refine QQ tOk (fn:=Tryz.f71) (c:=Qj Tryz.f71) rfl rfl ?_;unfold Qbe at h;(conv=>whnf);obtain ⟨x1,hx1,h⟩:=Qa h;refine cE [(9000,9000)] 0 (Qd hx1) ?_;(conv=>whnf);refine gdI h (fun h=>?_);(conv=>whnf);obtain ⟨x3,hx3,h⟩:=Qa h;obtain ⟨x4,hx4,h⟩:=Qa h;obtain ⟨x5,hx5,h⟩:=Qa h;obtain ⟨x6,hx6,h⟩:=Qa h;obtain ⟨x7,hx7,h⟩:=Qa h;obtain ⟨x8,hx8,h⟩:=Qa h;obtain ⟨x9,hx9,h⟩:=Qa h;refine JA tOk [.e 5 [(9000,.box 75 [.d (slD Qq a0.b),dI x1.2.p])] (dI x3.1) [] [(9000,.box 75 [.d (slD Qq a0.b),dI x3.2.p])],.e 8 [(9000,.box 75 [.d (slD Qq a0.b),dI x3.2.p])] (dI x4.1) [] [(9000,.box 75 [.d (slD Qq a0.b),dI x4.2.p])],.e 10 [(9000,.box 75 [.d (slD Qq a0.b),dI x4.2.p])] (dI x5.1) [] [(9000,.box 75 [.d (slD Qq a0.b),dI x5.2.p])],.e 14 [(9000,.box 75 [.d (slD Qq a0.b),dI x5.2.p])] (dI x6.1) [] [(9000,.box 75 [.d (slD Qq a0.b),dI x6.2.p])],.e 17 [(9000,.box 75 [.d (slD Qq a0.b),dI x6.2.p])] (dI x7.1) [] [(9000,.box 75 [.d (slD Qq a0.b),dI x7.2.p])],.e 20 [(9000,.box 75 [.d (slD Qq a0.b),dI x7.2.p])] (dI x8.1) [] [(9000,.box 75 [.d (slD Qq a0.b),dI x8.2.p])],.e 22 [(9000,.box 75 [.d (slD Qq a0.b),dI x8.2.p])] (dI x9.1) [] [(9000,.box 75 [.d (slD Qq a0.b),dI x9.2.p])]] 25 [] [0,1,0,4,0,16,48,0,176,0,944,1968,4016,0,10160,26544,0,92080,223152,0,747440,0,3893168,8388607,0] [33554431] [9000] ?_;(conv=>whnf);refine And.intro (eD [(9000,9000)] 0 (Qd hx3)) ?_;(conv=>whnf);refine And.intro (eD [(9000,9000)] 0 (Qd hx4)) ?_;(conv=>whnf);refine And.intro (eD [(9000,9000)] 0 (Qd hx5)) ?_;(conv=>whnf);refine And.intro (eD [(9000,9000)] 0 (Qd hx6)) ?_;(conv=>whnf);refine And.intro (eD [(9000,9000)] 0 (Qd hx7)) ?_;(conv=>whnf);refine And.intro (eD [(9000,9000)] 0 (Qd hx8)) ?_;(conv=>whnf);refine And.intro (eD [(9000,9000)] 0 (Qd hx9)) ?_;(conv=>whnf);refine And.intro (by kernel_rfl) ?_;(conv=>whnf);obtain ⟨x10,hx10,h⟩:=Qa h;refine Ji tOk (fun s11=>⟨0,104,[(0,.ref 9000 0 0),(4,.ref 4 0 0),(7,.ref 7 0 0)],[],[(7,.box 42 [dI (((a1.Sides.getD x1.1.toNat default).End).Name),dI (((a1.Sides.getD x1.1.toNat default).End).Peer),dI (IntKind.i64.wrap (1+x3.1)),dI (IntKind.i64.wrap (1+(IntKind.i64.wrap (x4.1*x5.1)))),dI (IntKind.i64.wrap (1+x6.1)),dI (IntKind.i64.wrap (1+x7.1)),dI x8.1,dI x9.1,dI 0,dI 0,dI 0,dI 0,dI 0,dI 0]),(4,.box 42 [dI 0,dI 0,dI 0,dI 0,dI 0,dI 0,dI 0,dI 0,dI 0,dI 0,dI 0,dI 0,dI 0,dI 0]),(9000,.box 75 [.d (slD Qq a0.b),dI s11])],[⟨[(0,.ref 9000 0 0)],[]⟩]⟩) (fun s11=>x10=.inl s11) ?_ ?_
  · (conv=>whnf);refine spI hx10 (fun hb13 hx10=>?_) (fun hb13 hx10=>?_)
    · obtain ⟨x14,hx14,hx10⟩:=Qa hx10;refine QlE [(9000,9000)] 0 (Qd hx14) (by (conv=>whnf); exact fun q=>absurd (q.symm.trans hb13) (by decide)) ?_;(conv=>whnf);refine Qu hx10 (fun _ hx10=>?_) (fun _ hx10=>?_)
      · (conv=>whnf);obtain ⟨x15,hx15,hx10⟩:=Qa hx10;obtain ⟨g16,hx10⟩:=Qg hx10;refine JA tOk [.e 6 [(9000,.box 75 [.d (slD Qq a0.b),dI x14.2.p])] (dI x15.1) [] [(9000,.box 75 [.d (slD Qq a0.b),dI x15.2.p])]] 9 [] [0,1,0,0,8,24,60,127,255] [511] [9000] ?_;(conv=>whnf);refine And.intro (eD [(9000,9000)] 0 (Qd hx15)) ?_;(conv=>whnf);refine And.intro g16 ?_;clear g16;(conv=>whnf);refine And.intro (by kernel_rfl) ?_;(conv=>whnf);refine Qe tOk ?_;(conv=>whnf);obtain ⟨x17,hx17,hx10⟩:=Qa hx10;refine cE [(9000,9000)] 0 (Qd hx17) ?_;(conv=>whnf);refine Qu hx10 (fun _ hx10=>?_) (fun _ hx10=>?_)
        · (conv=>whnf);obtain ⟨x18,hx18,hx10⟩:=Qa hx10;refine JA tOk [.e 4 [(9000,.box 75 [.d (slD Qq a0.b),dI x17.2.p])] (dI x18.1) [] [(9000,.box 75 [.d (slD Qq a0.b),dI x18.2.p])]] 7 [] [0,1,3,0,8,31,63] [127] [9000] ?_;(conv=>whnf);refine And.intro (eD [(9000,9000)] 0 (Qd hx18)) ?_;(conv=>whnf);refine And.intro (by kernel_rfl) ?_;(conv=>whnf);obtain rfl:=sj_ hx10;obtain rfl:=sj_ h;exact lfE []
        · (conv=>whnf);refine Qu hx10 (fun _ hx10=>?_) (fun _ hx10=>?_)
          · (conv=>whnf);obtain rfl:=sj_ hx10;obtain rfl:=sj_ h;exact lfE []
          · (conv=>whnf);refine Qu hx10 (fun _ hx10=>?_) (fun _ hx10=>?_)
            · (conv=>whnf);obtain rfl:=sj_ hx10;obtain rfl:=sj_ h;exact lfE []
            · (conv=>whnf);obtain ⟨x19,hx19,hx10⟩:=Qa hx10;refine cE [(9000,9000)] 0 (Qcz hx19) ?_;(conv=>whnf);obtain rfl:=sj_ hx10;obtain rfl:=sj_ h;exact lfE []
      · (conv=>whnf);obtain rfl:=sj_ hx10;exact ⟨_,rfl,leX []⟩
    · refine QiY (dI 0) ?_ (by (conv=>whnf); exact fun q=>absurd (hb13.symm.trans q) (by decide));(conv=>whnf);refine Qu hx10 (fun _ hx10=>?_) (fun _ hx10=>?_)
      · (conv=>whnf);obtain ⟨x20,hx20,hx10⟩:=Qa hx10;obtain ⟨g21,hx10⟩:=Qg hx10;refine JA tOk [.e 6 [(9000,.box 75 [.d (slD Qq a0.b),dI x9.2.p])] (dI x20.1) [] [(9000,.box 75 [.d (slD Qq a0.b),dI x20.2.p])]] 9 [] [0,1,0,0,8,24,60,127,255] [511] [9000] ?_;(conv=>whnf);refine And.intro (eD [(9000,9000)] 0 (Qd hx20)) ?_;(conv=>whnf);refine And.intro g21 ?_;clear g21;(conv=>whnf);refine And.intro (by kernel_rfl) ?_;(conv=>whnf);refine Qe tOk ?_;(conv=>whnf);obtain ⟨x22,hx22,hx10⟩:=Qa hx10;refine cE [(9000,9000)] 0 (Qd hx22) ?_;(conv=>whnf);refine Qu hx10 (fun _ hx10=>?_) (fun _ hx10=>?_)
        · (conv=>whnf);obtain ⟨x23,hx23,hx10⟩:=Qa hx10;refine JA tOk [.e 4 [(9000,.box 75 [.d (slD Qq a0.b),dI x22.2.p])] (dI x23.1) [] [(9000,.box 75 [.d (slD Qq a0.b),dI x23.2.p])]] 7 [] [0,1,3,0,8,31,63] [127] [9000] ?_;(conv=>whnf);refine And.intro (eD [(9000,9000)] 0 (Qd hx23)) ?_;(conv=>whnf);refine And.intro (by kernel_rfl) ?_;(conv=>whnf);obtain rfl:=sj_ hx10;obtain rfl:=sj_ h;exact lfE []
        · (conv=>whnf);refine Qu hx10 (fun _ hx10=>?_) (fun _ hx10=>?_)
          · (conv=>whnf);obtain rfl:=sj_ hx10;obtain rfl:=sj_ h;exact lfE []
          · (conv=>whnf);refine Qu hx10 (fun _ hx10=>?_) (fun _ hx10=>?_)
            · (conv=>whnf);obtain rfl:=sj_ hx10;obtain rfl:=sj_ h;exact lfE []
            · (conv=>whnf);obtain ⟨x24,hx24,hx10⟩:=Qa hx10;refine cE [(9000,9000)] 0 (Qcz hx24) ?_;(conv=>whnf);obtain rfl:=sj_ hx10;obtain rfl:=sj_ h;exact lfE []
      · (conv=>whnf);obtain rfl:=sj_ hx10;exact ⟨_,rfl,leX []⟩
  · intro d12 hdd12;subst hdd12;(conv=>whnf);obtain ⟨x25,hx25,h⟩:=Qa h;refine cE [(9000,9000)] 0 (Qd hx25) ?_;(conv=>whnf);refine Qe tOk ?_;(conv=>whnf);obtain ⟨x26,hx26,h⟩:=Qa h;refine cE [(9000,9000)] 0 (Qd hx26) ?_;(conv=>whnf);refine Qu h (fun _ h=>?_) (fun _ h=>?_)
    · (conv=>whnf);obtain ⟨x27,hx27,h⟩:=Qa h;refine cC 0 (QcC hx27) ?_;clear hx27;(conv=>whnf);obtain rfl:=sj_ h;exact lfE []
    · (conv=>whnf);obtain rfl:=sj_ h;exact lfE []
noncomputable def Qcc (a0:Qv8) (a1:Qv9):Option (Qv8) :=
 bd (QA a1.At 0 (IntKind.i64.wrap (((a0.Radio.length:Nat):Int) - 1))) fun x1 =>
(if (!x1)=true then
 some a0
else
(if (a1.Kind == 2)=true then
 bd (Jm a0 a1.At) fun x2 =>
 some x2
else
(if (a1.Kind == 3)=true then
 gd ((0:Int)≤a1.At∧a1.At<((a0.Radio.length:Nat):Int)) <|
 bd (Qad a0 ({ (a0.Radio.getD a1.At.toNat default) with Change:=(⟨((a0.Radio.getD a1.At.toNat default).Change).Kind,(((a0.Radio.getD a1.At.toNat default).Change).Entry)⟩:Qv3) })) fun x4 =>
 some x4
else
 gd ((0:Int)≤(0:Int)∧(0:Int)≤a1.At∧a1.At≤((a0.Radio.length:Nat):Int)) <|
 gd (((0)+(a1.At.toNat))*(112+1)≤70368744177664) <|
 gd ((0:Int)≤IntKind.i64.wrap (a1.At+1)∧IntKind.i64.wrap (a1.At+1)≤((a0.Radio.length:Nat):Int)∧((a0.Radio.length:Nat):Int)≤((a0.Radio.length:Nat):Int)) <|
 gd ((((a0.Radio.take a1.At.toNat).length)+((Qc8 ((a0.Radio.length:Nat):Int) (IntKind.i64.wrap (a1.At+1)))))*(112+1)≤70368744177664) <|
 some (⟨a0.Sides,((a0.Radio.take a1.At.toNat) ++ (((a0.Radio).take ((IntKind.i64.wrap (a1.At+1)).toNat+(Qc8 ((a0.Radio.length:Nat):Int) (IntKind.i64.wrap (a1.At+1))))).drop ((IntKind.i64.wrap (a1.At+1)).toNat)))⟩:Qv8))))
theorem Qku {a0:Qv8} {a1:Qv9} {r:Qv8} (h:Qcc a0 a1=some r):EffC Tryz.prog 76 [.agg [.osl 9000 0 a0.Sides.length,.osl 9001 0 a0.Radio.length],.agg (dI a1.Kind :: dI a1.At :: .d (slD Qv2.enc a1.Want) :: .d (slD Qv1.enc a1.Keys) :: hwC a1.Word)] [(9000,.arr 38 23 a0.Sides.length (rows Qv6.enc a0.Sides)),(9001,.arr 42 14 a0.Radio.length (rows Qv7.enc a0.Radio))] (.agg [.d (slD Qv6.enc r.Sides),.d (slD Qv7.enc r.Radio)]) []:=by
  refine QQ tOk (fn:=Tryz.f76) (c:=Qj Tryz.f76) rfl rfl ?_;unfold Qcc at h;(conv=>whnf);refine Qe tOk ?_;(conv=>whnf);obtain ⟨x1,hx1,h⟩:=Qa h;refine cC 0 (QJ hx1) ?_;clear hx1;(conv=>whnf);refine Qu h (fun _ h=>?_) (fun _ h=>?_)
  · (conv=>whnf);obtain rfl:=sj_ h;exact lfE [.f [9000,9001]]
  · (conv=>whnf);refine Qe tOk ?_;(conv=>whnf);refine Qu h (fun _ h=>?_) (fun _ h=>?_)
    · (conv=>whnf);obtain ⟨x2,hx2,h⟩:=Qa h;refine QcU [9001] ?_;(conv=>whnf);refine cE [(9000,9000)] 1000 (QdO hx2) ?_;(conv=>whnf);obtain rfl:=sj_ h;exact lfE [.f [6001,6002]]
    · (conv=>whnf);refine Qu h (fun _ h=>?_) (fun _ h=>?_)
      · (conv=>whnf);obtain ⟨g3,h⟩:=Qg h;obtain ⟨x4,hx4,h⟩:=Qa h;refine Qqx [9000] ?_;(conv=>whnf);refine JA tOk [.l 5 [(9001,.arr 42 14 a0.Radio.length (rows Qv7.enc a0.Radio))] (.ref 9001 a1.At.toNat 0),.l 6 [(9001,.arr 42 14 a0.Radio.length (rows Qv7.enc a0.Radio))] (.agg (hwC (a0.Radio.getD a1.At.toNat default))),.e 7 [(9001,.arr 42 14 a0.Radio.length (rows Qv7.enc a0.Radio))] (.agg [.d (slD Qv6.enc x4.Sides),.osl 6001 0 x4.Radio.length]) [(6001,.arr 42 14 x4.Radio.length (rows Qv7.enc x4.Radio))] []] 8 [] [0,0,2,0,8,30,62,127] [255] [9001] ?_;(conv=>whnf);refine And.intro (by (conv=>whnf); exact ⟨g3,rfl,rfl⟩) ?_;(conv=>whnf);refine And.intro (by (conv=>whnf); exact ⟨rfl,rfl⟩) ?_;(conv=>whnf);refine And.intro (eD [(9000,9001)] 1000 (QeS hx4)) ?_;(conv=>whnf);refine And.intro (by kernel_rfl) ?_;(conv=>whnf);obtain rfl:=sj_ h;exact lfE [.f [6001]]
      · (conv=>whnf);obtain ⟨g5,h⟩:=Qg h;obtain ⟨g6,h⟩:=Qg h;obtain ⟨g7,h⟩:=Qg h;refine QP tOk [] 13 [] [0,0,2,0,8,30,63,0,128,0,512,1536,3968] [8191,16383,32767] ?_;(conv=>whnf);refine And.intro g5 ?_;(conv=>whnf);refine And.intro g6 ?_;clear g6;refine QtK (enc:=Qv7.enc) (ys:=a0.Radio.take a1.At.toNat) ?_;(conv=>whnf);refine And.intro g7 ?_;(conv=>whnf);refine And.intro (by kernel_rfl) ?_;(conv=>whnf);refine gdI h (fun h=>?_);refine Qh0 (enc:=Qv7.enc) (xs:=(a0.Radio.take a1.At.toNat)) (ys:=((a0.Radio).take ((IntKind.i64.wrap (a1.At+1)).toNat+(Qc8 ((a0.Radio.length:Nat):Int) (IntKind.i64.wrap (a1.At+1))))).drop ((IntKind.i64.wrap (a1.At+1)).toNat)) ?_;(conv=>whnf);obtain rfl:=sj_ h;exact lfE [.f [38,9000]]
noncomputable def QbF (a0:Qv8) (a1:Qv7):Option (Qv8) :=
 bd (Jl a1) fun x1 =>
 gd ((!x1)=false→((0:Int)≤0∧0<((a0.Sides.length:Nat):Int))) <|
 bd (gcall ((!x1)=false) (ZQ (((a0.Sides.getD 0 default).End).Keys) a1)) fun x3 =>
 gd (((!x1) || x3)=false→((0:Int)≤1∧1<((a0.Sides.length:Nat):Int))) <|
 bd (gcall (((!x1) || x3)=false) (ZQ (((a0.Sides.getD 1 default).End).Keys) a1)) fun x5 =>
(if (((!x1) || x3) || x5)=true then
 some a0
else
 bd (Qad a0 a1) fun x6 =>
 some x6)
theorem Qjq {a0:Qv8} {a1:Qv7} {r:Qv8} (h:QbF a0 a1=some r):EffC Tryz.prog 77 [.agg [.d (slD Qv6.enc a0.Sides),.osl 9000 0 a0.Radio.length],.agg (hwC a1)] [(9000,.arr 42 14 a0.Radio.length (rows Qv7.enc a0.Radio))] (.agg [.d (slD Qv6.enc r.Sides),.d (slD Qv7.enc r.Radio)]) []:=by
  refine QQ tOk (fn:=Tryz.f77) (c:=Qj Tryz.f77) rfl rfl ?_;unfold QbF at h;(conv=>whnf);refine Qe tOk ?_;(conv=>whnf);obtain ⟨x1,hx1,h⟩:=Qa h;obtain ⟨g2,h⟩:=Qg h;obtain ⟨x3,hx3,h⟩:=Qa h;obtain ⟨g4,h⟩:=Qg h;obtain ⟨x5,hx5,h⟩:=Qa h;refine QP tOk [.u 1 0 (dB x1) [],.u 11 0 (dB x3) [],.u 21 0 (dB x5) []] 23 [] [0,1,3,7,15,31,63,127,255,511,15,2047,4095,8191,16383,32767,65535,131071,262143,524287,16383,2097151,4194303] [] ?_;(conv=>whnf);refine And.intro (QM (QcB hx1) (by kernel_rfl)) ?_;(conv=>whnf);refine And.intro g2 ?_;clear g2;(conv=>whnf);refine And.intro (Q1 rfl rfl rfl rfl (by intro c0; exact QaV (Qf hx3 c0))) ?_;(conv=>whnf);refine And.intro g4 ?_;clear g4;(conv=>whnf);refine And.intro (Q1 rfl rfl rfl rfl (by intro c0; exact QaV (Qf hx5 c0))) ?_;(conv=>whnf);refine And.intro (by kernel_rfl) ?_;(conv=>whnf);refine Qu h (fun _ h=>?_) (fun _ h=>?_)
  · (conv=>whnf);obtain rfl:=sj_ h;exact lfE [.f [9000]]
  · (conv=>whnf);obtain ⟨x6,hx6,h⟩:=Qa h;refine cE [(9000,9000)] 1000 (QeS hx6) ?_;(conv=>whnf);obtain rfl:=sj_ h;exact lfE [.f [6001]]
noncomputable def Qc9 (a0:Qv8) (a1:Qv9):Option (Qv8) :=
 bd (α:=Bool) ((if (a1.Kind == 2)=true then
 some (a1.Kind == 2)
else
(if (a1.Kind == 3)=true then
 some (a1.Kind == 3)
else
 some (a1.Kind == 4)))) fun x1 =>
(if x1=true then
 bd (Qcc a0 a1) fun x4 =>
 some x4
else
(if (a1.Kind == 10)=true then
 bd (QbF a0 a1.Word) fun x5 =>
 some x5
else
 bd (Qcb a0 a1) fun x6 =>
 some x6))
theorem QmA {a0:Qv8} {a1:Qv9} {r:Qv8} (h:Qc9 a0 a1=some r):EffC Tryz.prog 39 [.agg [.osl 9000 0 a0.Sides.length,.osl 9001 0 a0.Radio.length],.agg (dI a1.Kind :: dI a1.At :: .d (slD Qv2.enc a1.Want) :: .d (slD Qv1.enc a1.Keys) :: hwC a1.Word)] [(9000,.arr 38 23 a0.Sides.length (rows Qv6.enc a0.Sides)),(9001,.arr 42 14 a0.Radio.length (rows Qv7.enc a0.Radio))] (.agg [.d (slD Qv6.enc r.Sides),.d (slD Qv7.enc r.Radio)]) []:=by
  refine QQ tOk (fn:=Tryz.f39) (c:=Qj Tryz.f39) rfl rfl ?_;unfold Qc9 at h;(conv=>whnf);refine Qe tOk ?_;(conv=>whnf);obtain ⟨x1,hx1,h⟩:=Qa h;refine Ji tOk (fun s2=>⟨0,23,[(2,.ref 2 0 0),(3,.ref 3 0 0),(4,.ref 4 0 0),(6,dI a1.Kind),(7,dB s2)],[],[(4,.box 26 [.d (.nil),.d (.nil)]),(3,.box 44 (dI a1.Kind :: dI a1.At :: .d (slD Qv2.enc a1.Want) :: .d (slD Qv1.enc a1.Keys) :: hwC a1.Word)),(2,.box 26 [.osl 9000 0 a0.Sides.length,.osl 9001 0 a0.Radio.length]),(9000,.arr 38 23 a0.Sides.length (rows Qv6.enc a0.Sides)),(9001,.arr 42 14 a0.Radio.length (rows Qv7.enc a0.Radio))],[⟨[],[]⟩]⟩) (fun s2=>x1=s2) ?_ ?_
  · (conv=>whnf);refine Qu hx1 (fun _ hx1=>?_) (fun _ hx1=>?_)
    · (conv=>whnf);obtain rfl:=sj_ hx1;exact ⟨_,rfl,leX []⟩
    · (conv=>whnf);refine Qu hx1 (fun _ hx1=>?_) (fun _ hx1=>?_)
      · (conv=>whnf);obtain rfl:=sj_ hx1;exact ⟨_,rfl,leX []⟩
      · (conv=>whnf);obtain rfl:=sj_ hx1;exact ⟨_,rfl,leX []⟩
  · rintro _ rfl;(conv=>whnf);refine Qu h (fun _ h=>?_) (fun _ h=>?_)
    · (conv=>whnf);obtain ⟨x4,hx4,h⟩:=Qa h;refine cE [(9000,9000),(9001,9001)] 0 (Qku hx4) ?_;(conv=>whnf);obtain rfl:=sj_ h;exact lfE []
    · (conv=>whnf);refine Qu h (fun _ h=>?_) (fun _ h=>?_)
      · (conv=>whnf);obtain ⟨x5,hx5,h⟩:=Qa h;refine QcU [9000] ?_;(conv=>whnf);refine cE [(9000,9001)] 0 (Qjq hx5) ?_;(conv=>whnf);obtain rfl:=sj_ h;exact lfE []
      · (conv=>whnf);obtain ⟨x6,hx6,h⟩:=Qa h;refine cE [(9000,9000),(9001,9001)] 0 (Qkt hx6) ?_;(conv=>whnf);obtain rfl:=sj_ h;exact lfE []
noncomputable def Qbf (a0:Qv8) (a1:Qv9):Option (Qv8) :=
 bd (QN a0) fun x1 =>
(if (!x1)=true then
 some (⟨[],[]⟩:Qv8)
else
 bd (JJ a0) fun x2 =>
 bd (Qc9 x2 a1) fun x3 =>
 bd (JJ x3) fun x4 =>
 some x4)
theorem QiS {a0:Qv8} {a1:Qv9} {r:Qv8} (h:Qbf a0 a1=some r):EffC Tryz.prog 16 [.agg [.d (slD Qv6.enc a0.Sides),.d (slD Qv7.enc a0.Radio)],.agg (dI a1.Kind :: dI a1.At :: .d (slD Qv2.enc a1.Want) :: .d (slD Qv1.enc a1.Keys) :: hwC a1.Word)] [] (.agg [.osl 5001 0 r.Sides.length,.osl 5002 0 r.Radio.length]) [(5001,.arr 38 23 r.Sides.length (rows Qv6.enc r.Sides)),(5002,.arr 42 14 r.Radio.length (rows Qv7.enc r.Radio))]:=by
  refine QQ tOk (fn:=Tryz.f16) (c:=Qj Tryz.f16) rfl rfl ?_;unfold Qbf at h;(conv=>whnf);refine Qe tOk ?_;(conv=>whnf);obtain ⟨x1,hx1,h⟩:=Qa h;refine cC 0 (Qan hx1) ?_;clear hx1;(conv=>whnf);refine Qu h (fun _ h=>?_) (fun _ h=>?_)
  · (conv=>whnf);obtain rfl:=sj_ h;exact lfE [.k [2,3],.p 5001 38 23 (rows Qv6.enc ([]:List Qv6)),.p 5002 42 14 (rows Qv7.enc ([]:List Qv7))]
  · (conv=>whnf);obtain ⟨x2,hx2,h⟩:=Qa h;obtain ⟨x3,hx3,h⟩:=Qa h;obtain ⟨x4,hx4,h⟩:=Qa h;refine JA tOk [.e 1 [] (.agg [.osl 6001 0 x2.Sides.length,.osl 6002 0 x2.Radio.length]) [] [(6001,.arr 38 23 x2.Sides.length (rows Qv6.enc x2.Sides)),(6002,.arr 42 14 x2.Radio.length (rows Qv7.enc x2.Radio))],.e 3 [(6001,.arr 38 23 x2.Sides.length (rows Qv6.enc x2.Sides)),(6002,.arr 42 14 x2.Radio.length (rows Qv7.enc x2.Radio))] (.agg [.d (slD Qv6.enc x3.Sides),.d (slD Qv7.enc x3.Radio)]) [] [],.e 4 [] (.agg [.osl 7001 0 x4.Sides.length,.osl 7002 0 x4.Radio.length]) [(7001,.arr 38 23 x4.Sides.length (rows Qv6.enc x4.Sides)),(7002,.arr 42 14 x4.Radio.length (rows Qv7.enc x4.Radio))] []] 5 [] [0,1,0,7,15] [31] [] ?_;(conv=>whnf);refine And.intro (eH [] 1000 (Qc2 hx2)) ?_;(conv=>whnf);refine And.intro (eD [(9000,6001),(9001,6002)] 0 (QmA hx3)) ?_;(conv=>whnf);refine And.intro (eD [] 2000 (Qc2 hx4)) ?_;(conv=>whnf);refine And.intro (by kernel_rfl) ?_;(conv=>whnf);obtain rfl:=sj_ h;exact lfE [.s [(5001,7001),(5002,7002),(7001,5001),(7002,5002)]]
noncomputable def Jb (a0:Qv0) (a1:Qv8):Option (Qv9 × Qv0) :=
 bd (Qc a0 2) fun x1 =>
 bd (α:=Int × Int) ((if (decide (((a1.Radio.length:Nat):Int) > 0))=true then
 bd (Qc (⟨a0.b,x1.2.p⟩:Qv0) 3) fun x6 =>
(if ((decide (((a1.Radio.length:Nat):Int) > 0)) && (x6.1 == 0))=true then
 bd (Qc (⟨a0.b,x6.2.p⟩:Qv0) ((a1.Radio.length:Nat):Int)) fun x7 =>
 some (x7.2.p,x7.1)
else
 some (x6.2.p,0))
else
(if ((decide (((a1.Radio.length:Nat):Int) > 0)) && ((0:Int) == 0))=true then
 bd (Qc (⟨a0.b,x1.2.p⟩:Qv0) ((a1.Radio.length:Nat):Int)) fun x8 =>
 some (x8.2.p,x8.1)
else
 some (x1.2.p,0)))) fun x2 =>
 bd (Qc (⟨a0.b,x2.1⟩:Qv0) 22) fun x9 =>
 bd (α:=Bool) ((if (x9.1 == 0)=true then
 some (x9.1 == 0)
else
(if (x9.1 == 1)=true then
 some (x9.1 == 1)
else
(if (x9.1 == 2)=true then
 some (x9.1 == 2)
else
(if (x9.1 == 3)=true then
 some (x9.1 == 3)
else
(if (x9.1 == 4)=true then
 some (x9.1 == 4)
else
 some (x9.1 == 5))))))) fun x10 =>
(if x10=true then
 some ((⟨1,x1.1,[],[],(⟨0,0,0,0,0,0,0,0,(⟨0,(⟨0,0,0,0⟩:Qv2)⟩:Qv3),0⟩:Qv7)⟩:Qv9),(⟨a0.b,x9.2.p⟩:Qv0))
else
 bd (α:=Bool) ((if (x9.1 == 6)=true then
 some (x9.1 == 6)
else
(if (x9.1 == 7)=true then
 some (x9.1 == 7)
else
(if (x9.1 == 8)=true then
 some (x9.1 == 8)
else
(if (x9.1 == 9)=true then
 some (x9.1 == 9)
else
(if (x9.1 == 10)=true then
 some (x9.1 == 10)
else
(if (x9.1 == 11)=true then
 some (x9.1 == 11)
else
(if (x9.1 == 12)=true then
 some (x9.1 == 12)
else
 some (x9.1 == 13))))))))) fun x13 =>
(if x13=true then
 some ((⟨2,x2.2,[],[],(⟨0,0,0,0,0,0,0,0,(⟨0,(⟨0,0,0,0⟩:Qv2)⟩:Qv3),0⟩:Qv7)⟩:Qv9),(⟨a0.b,x9.2.p⟩:Qv0))
else
(if (x9.1 == 14)=true then
 some ((⟨3,x2.2,[],[],(⟨0,0,0,0,0,0,0,0,(⟨0,(⟨0,0,0,0⟩:Qv2)⟩:Qv3),0⟩:Qv7)⟩:Qv9),(⟨a0.b,x9.2.p⟩:Qv0))
else
(if (x9.1 == 15)=true then
 some ((⟨4,x2.2,[],[],(⟨0,0,0,0,0,0,0,0,(⟨0,(⟨0,0,0,0⟩:Qv2)⟩:Qv3),0⟩:Qv7)⟩:Qv9),(⟨a0.b,x9.2.p⟩:Qv0))
else
(if (x9.1 == 16)=true then
 some ((⟨5,x1.1,[],[],(⟨0,0,0,0,0,0,0,0,(⟨0,(⟨0,0,0,0⟩:Qv2)⟩:Qv3),0⟩:Qv7)⟩:Qv9),(⟨a0.b,x9.2.p⟩:Qv0))
else
(if (x9.1 == 17)=true then
 bd (Qc (⟨a0.b,x9.2.p⟩:Qv0) 3) fun x16 =>
(if (x16.1 == 0)=true then
 some ((⟨6,x1.1,[],[],(⟨0,0,0,0,0,0,0,0,(⟨0,(⟨0,0,0,0⟩:Qv2)⟩:Qv3),0⟩:Qv7)⟩:Qv9),(⟨a0.b,x16.2.p⟩:Qv0))
else
 some ((⟨5,x1.1,[],[],(⟨0,0,0,0,0,0,0,0,(⟨0,(⟨0,0,0,0⟩:Qv2)⟩:Qv3),0⟩:Qv7)⟩:Qv9),(⟨a0.b,x16.2.p⟩:Qv0)))
else
(if (x9.1 == 18)=true then
 some ((⟨7,x1.1,[],[],(⟨0,0,0,0,0,0,0,0,(⟨0,(⟨0,0,0,0⟩:Qv2)⟩:Qv3),0⟩:Qv7)⟩:Qv9),(⟨a0.b,x9.2.p⟩:Qv0))
else
(if (x9.1 == 19)=true then
 bd (Qal (⟨a0.b,x9.2.p⟩:Qv0)) fun x17 =>
 some ((⟨8,x1.1,x17.1,[],(⟨0,0,0,0,0,0,0,0,(⟨0,(⟨0,0,0,0⟩:Qv2)⟩:Qv3),0⟩:Qv7)⟩:Qv9),(⟨a0.b,x17.2.p⟩:Qv0))
else
(if (x9.1 == 20)=true then
 bd (Qc (⟨a0.b,x9.2.p⟩:Qv0) 3) fun x18 =>
(if (x18.1 == 0)=true then
 bd (Qbk (⟨a0.b,x18.2.p⟩:Qv0)) fun x19 =>
 some ((⟨9,x1.1,[],x19.1,(⟨0,0,0,0,0,0,0,0,(⟨0,(⟨0,0,0,0⟩:Qv2)⟩:Qv3),0⟩:Qv7)⟩:Qv9),(⟨a0.b,x19.2.p⟩:Qv0))
else
 some ((⟨7,x1.1,[],[],(⟨0,0,0,0,0,0,0,0,(⟨0,(⟨0,0,0,0⟩:Qv2)⟩:Qv3),0⟩:Qv7)⟩:Qv9),(⟨a0.b,x18.2.p⟩:Qv0)))
else
 bd (Qbe (⟨a0.b,x9.2.p⟩:Qv0) a1) fun x20 =>
 some ((⟨10,0,[],[],x20.1⟩:Qv9),(⟨a0.b,x20.2.p⟩:Qv0)))))))))))
theorem Qey {a0:Qv0} {a1:Qv8} {r:Qv9 × Qv0} (h:Jb a0 a1=some r):EffC Tryz.prog 35 [.ref 9000 0 0,.agg [.d (slD Qv6.enc a1.Sides),.d (slD Qv7.enc a1.Radio)]] [(9000,.box 75 [.d (slD Qq a0.b),dI a0.p])] (.agg (dI r.1.Kind :: dI r.1.At :: .d (slD Qv2.enc r.1.Want) :: .d (slD Qv1.enc r.1.Keys) :: hwC r.1.Word)) [(9000,.box 75 [.d (slD Qq a0.b),dI r.2.p])]:=by
  refine QQ tOk (fn:=Tryz.f35) (c:=Qj Tryz.f35) rfl rfl ?_;unfold Jb at h;(conv=>whnf);obtain ⟨x1,hx1,h⟩:=Qa h;refine cE [(9000,9000)] 0 (Qd hx1) ?_;(conv=>whnf);obtain ⟨x2,hx2,h⟩:=Qa h;refine Ji tOk (fun s3=>⟨0,91,[(0,.ref 9000 0 0),(3,.ref 3 0 0),(4,.ref 4 0 0),(5,dI x1.1),(6,dI s3.2)],[],[(4,.box 44 [dI 0,dI 0,.d (.nil),.d (.nil),dI 0,dI 0,dI 0,dI 0,dI 0,dI 0,dI 0,dI 0,dI 0,dI 0,dI 0,dI 0,dI 0,dI 0]),(3,.box 26 [.d (slD Qv6.enc a1.Sides),.d (slD Qv7.enc a1.Radio)]),(9000,.box 75 [.d (slD Qq a0.b),dI s3.1])],[⟨[(0,.ref 9000 0 0)],[]⟩]⟩) (fun s3=>x2=s3) ?_ ?_
  · (conv=>whnf);refine spI hx2 (fun hb5 hx2=>?_) (fun hb5 hx2=>?_)
    · obtain ⟨x6,hx6,hx2⟩:=Qa hx2;refine QlE [(9000,9000)] 0 (Qd hx6) (by (conv=>whnf); exact fun q=>absurd (q.symm.trans hb5) (by decide)) ?_;(conv=>whnf);refine Qu hx2 (fun _ hx2=>?_) (fun _ hx2=>?_)
      · (conv=>whnf);obtain ⟨x7,hx7,hx2⟩:=Qa hx2;refine cE [(9000,9000)] 0 (Qd hx7) ?_;(conv=>whnf);obtain rfl:=sj_ hx2;exact ⟨_,rfl,leX []⟩
      · (conv=>whnf);obtain rfl:=sj_ hx2;exact ⟨_,rfl,leX []⟩
    · refine QiY (dI 0) ?_ (by (conv=>whnf); exact fun q=>absurd (hb5.symm.trans q) (by decide));(conv=>whnf);refine Qu hx2 (fun _ hx2=>?_) (fun _ hx2=>?_)
      · (conv=>whnf);obtain ⟨x8,hx8,hx2⟩:=Qa hx2;refine cE [(9000,9000)] 0 (Qd hx8) ?_;(conv=>whnf);obtain rfl:=sj_ hx2;exact ⟨_,rfl,leX []⟩
      · (conv=>whnf);obtain rfl:=sj_ hx2;exact ⟨_,rfl,leX []⟩
  · rintro _ rfl;(conv=>whnf);refine Qe tOk ?_;(conv=>whnf);obtain ⟨x9,hx9,h⟩:=Qa h;refine cE [(9000,9000)] 0 (Qd hx9) ?_;(conv=>whnf);obtain ⟨x10,hx10,h⟩:=Qa h;refine Ji tOk (fun s11=>⟨0,91,[(0,.ref 9000 0 0),(3,.ref 3 0 0),(4,.ref 4 0 0),(5,dI x1.1),(6,dI x2.2),(24,dI x9.1),(25,dB s11)],[],[(4,.box 44 [dI 0,dI 0,.d (.nil),.d (.nil),dI 0,dI 0,dI 0,dI 0,dI 0,dI 0,dI 0,dI 0,dI 0,dI 0,dI 0,dI 0,dI 0,dI 0]),(3,.box 26 [.d (slD Qv6.enc a1.Sides),.d (slD Qv7.enc a1.Radio)]),(9000,.box 75 [.d (slD Qq a0.b),dI x9.2.p])],[⟨[(0,.ref 9000 0 0)],[]⟩]⟩) (fun s11=>x10=s11) ?_ ?_
    · (conv=>whnf);refine Qu hx10 (fun _ hx10=>?_) (fun _ hx10=>?_)
      · (conv=>whnf);obtain rfl:=sj_ hx10;exact ⟨_,rfl,leX []⟩
      · (conv=>whnf);refine Qu hx10 (fun _ hx10=>?_) (fun _ hx10=>?_)
        · (conv=>whnf);obtain rfl:=sj_ hx10;exact ⟨_,rfl,leX []⟩
        · (conv=>whnf);refine Qu hx10 (fun _ hx10=>?_) (fun _ hx10=>?_)
          · (conv=>whnf);obtain rfl:=sj_ hx10;exact ⟨_,rfl,leX []⟩
          · (conv=>whnf);refine Qu hx10 (fun _ hx10=>?_) (fun _ hx10=>?_)
            · (conv=>whnf);obtain rfl:=sj_ hx10;exact ⟨_,rfl,leX []⟩
            · (conv=>whnf);refine Qu hx10 (fun _ hx10=>?_) (fun _ hx10=>?_)
              · (conv=>whnf);obtain rfl:=sj_ hx10;exact ⟨_,rfl,leX []⟩
              · (conv=>whnf);obtain rfl:=sj_ hx10;exact ⟨_,rfl,leX []⟩
    · rintro _ rfl;(conv=>whnf);refine Qu h (fun _ h=>?_) (fun _ h=>?_)
      · (conv=>whnf);obtain rfl:=sj_ h;exact lfE []
      · (conv=>whnf);obtain ⟨x13,hx13,h⟩:=Qa h;refine Ji tOk (fun s14=>⟨0,91,[(0,.ref 9000 0 0),(3,.ref 3 0 0),(4,.ref 4 0 0),(5,dI x1.1),(6,dI x2.2),(24,dI x9.1),(34,dB s14)],[],[(4,.box 44 [dI 0,dI 0,.d (.nil),.d (.nil),dI 0,dI 0,dI 0,dI 0,dI 0,dI 0,dI 0,dI 0,dI 0,dI 0,dI 0,dI 0,dI 0,dI 0]),(3,.box 26 [.d (slD Qv6.enc a1.Sides),.d (slD Qv7.enc a1.Radio)]),(9000,.box 75 [.d (slD Qq a0.b),dI x9.2.p])],[⟨[(0,.ref 9000 0 0)],[]⟩]⟩) (fun s14=>x13=s14) ?_ ?_
        · (conv=>whnf);refine Qu hx13 (fun _ hx13=>?_) (fun _ hx13=>?_)
          · (conv=>whnf);obtain rfl:=sj_ hx13;exact ⟨_,rfl,leX []⟩
          · (conv=>whnf);refine Qu hx13 (fun _ hx13=>?_) (fun _ hx13=>?_)
            · (conv=>whnf);obtain rfl:=sj_ hx13;exact ⟨_,rfl,leX []⟩
            · (conv=>whnf);refine Qu hx13 (fun _ hx13=>?_) (fun _ hx13=>?_)
              · (conv=>whnf);obtain rfl:=sj_ hx13;exact ⟨_,rfl,leX []⟩
              · (conv=>whnf);refine Qu hx13 (fun _ hx13=>?_) (fun _ hx13=>?_)
                · (conv=>whnf);obtain rfl:=sj_ hx13;exact ⟨_,rfl,leX []⟩
                · (conv=>whnf);refine Qu hx13 (fun _ hx13=>?_) (fun _ hx13=>?_)
                  · (conv=>whnf);obtain rfl:=sj_ hx13;exact ⟨_,rfl,leX []⟩
                  · (conv=>whnf);refine Qu hx13 (fun _ hx13=>?_) (fun _ hx13=>?_)
                    · (conv=>whnf);obtain rfl:=sj_ hx13;exact ⟨_,rfl,leX []⟩
                    · (conv=>whnf);refine Qu hx13 (fun _ hx13=>?_) (fun _ hx13=>?_)
                      · (conv=>whnf);obtain rfl:=sj_ hx13;exact ⟨_,rfl,leX []⟩
                      · (conv=>whnf);obtain rfl:=sj_ hx13;exact ⟨_,rfl,leX []⟩
        · rintro _ rfl;(conv=>whnf);refine Qu h (fun _ h=>?_) (fun _ h=>?_)
          · (conv=>whnf);obtain rfl:=sj_ h;exact lfE []
          · (conv=>whnf);refine Qu h (fun _ h=>?_) (fun _ h=>?_)
            · (conv=>whnf);obtain rfl:=sj_ h;exact lfE []
            · (conv=>whnf);refine Qu h (fun _ h=>?_) (fun _ h=>?_)
              · (conv=>whnf);obtain rfl:=sj_ h;exact lfE []
              · (conv=>whnf);refine Qu h (fun _ h=>?_) (fun _ h=>?_)
                · (conv=>whnf);obtain rfl:=sj_ h;exact lfE []
                · (conv=>whnf);refine Qu h (fun _ h=>?_) (fun _ h=>?_)
                  · (conv=>whnf);refine Qe tOk ?_;(conv=>whnf);obtain ⟨x16,hx16,h⟩:=Qa h;refine cE [(9000,9000)] 0 (Qd hx16) ?_;(conv=>whnf);refine Qu h (fun _ h=>?_) (fun _ h=>?_)
                    · (conv=>whnf);obtain rfl:=sj_ h;exact lfE []
                    · (conv=>whnf);obtain rfl:=sj_ h;exact lfE []
                  · (conv=>whnf);refine Qu h (fun _ h=>?_) (fun _ h=>?_)
                    · (conv=>whnf);obtain rfl:=sj_ h;exact lfE []
                    · (conv=>whnf);refine Qu h (fun _ h=>?_) (fun _ h=>?_)
                      · (conv=>whnf);obtain ⟨x17,hx17,h⟩:=Qa h;refine cE [(9000,9000)] 1000 (QdM hx17) ?_;(conv=>whnf);obtain rfl:=sj_ h;exact lfE [.f [6001]]
                      · (conv=>whnf);refine Qu h (fun _ h=>?_) (fun _ h=>?_)
                        · (conv=>whnf);refine Qe tOk ?_;(conv=>whnf);obtain ⟨x18,hx18,h⟩:=Qa h;refine cE [(9000,9000)] 0 (Qd hx18) ?_;(conv=>whnf);refine Qu h (fun _ h=>?_) (fun _ h=>?_)
                          · (conv=>whnf);obtain ⟨x19,hx19,h⟩:=Qa h;refine cE [(9000,9000)] 1000 (Qgw hx19) ?_;(conv=>whnf);obtain rfl:=sj_ h;exact lfE [.f [6001]]
                          · (conv=>whnf);obtain rfl:=sj_ h;exact lfE []
                        · (conv=>whnf);obtain ⟨x20,hx20,h⟩:=Qa h;refine cE [(9000,9000)] 0 (QiR hx20) ?_;(conv=>whnf);obtain rfl:=sj_ h;exact lfE []
noncomputable def Qcd (a0:Qv0) (a1:Int):Option (Qv8 × Qv0) :=
 bd (QbB a0) fun x1 =>
 bd (lp (σ:=List Qv6 × List Qv7 × Int × Int) (β:=(Nat × Nat × (List Qv6) × (List Qv7) × Int)) (fun s2 =>
(if (decide (s2.2.2.2 > 0))=true then
 bd (α:=List Qv6 × List Qv7 × Int) (bd (Qc (⟨a0.b,s2.2.2.1⟩:Qv0) 6) fun x9 =>
(if (x9.1 == 0)=true then
 bd (ZM (⟨s2.1,s2.2.1⟩:Qv8) 1) fun x10 =>
 some (x10.Sides,x10.Radio,x9.2.p)
else
 some (s2.1,s2.2.1,x9.2.p))) fun x6 =>
 bd (Jb (⟨a0.b,x6.2.2⟩:Qv0) (⟨x6.1,x6.2.1⟩:Qv8)) fun x11 =>
 bd (Qbf (⟨x6.1,x6.2.1⟩:Qv8) x11.1) fun x12 =>
 some (.inl (x12.Sides,x12.Radio,x11.2.p,IntKind.i64.wrap (s2.2.2.2 - 1)))
else
 some (.inr (s2.1.length,s2.2.1.length,s2.1,s2.2.1,s2.2.2.1)))) (x1.1.Sides,x1.1.Radio,x1.2.p,a1)) fun x5 =>
 some ((⟨x5.2.2.1,x5.2.2.2.1⟩:Qv8),(⟨a0.b,x5.2.2.2.2⟩:Qv0))
theorem Qkv {a0:Qv0} {a1:Int} {r:Qv8 × Qv0} (h:Qcd a0 a1=some r):EffC Tryz.prog 23 [.ref 9000 0 0,dI a1] [(9000,.box 75 [.d (slD Qq a0.b),dI a0.p])] (.agg [.osl 5001 0 r.1.Sides.length,.osl 5002 0 r.1.Radio.length]) [(9000,.box 75 [.d (slD Qq a0.b),dI r.2.p]),(5001,.arr 38 23 r.1.Sides.length (rows Qv6.enc r.1.Sides)),(5002,.arr 42 14 r.1.Radio.length (rows Qv7.enc r.1.Radio))]:=by
  refine QQ tOk (fn:=Tryz.f23) (c:=Qj Tryz.f23) rfl rfl ?_;unfold Qcd at h;(conv=>whnf);obtain ⟨x1,hx1,h⟩:=Qa h;refine cE [(9000,9000)] 1000 (Qjm hx1) ?_;(conv=>whnf);refine Qe tOk ?_;(conv=>whnf);obtain ⟨x5,hx5,h⟩:=Qa h;refine Zh tOk hx5 (fun s2=>⟨0,23,[(0,.ref 9000 0 0),(1,dI s2.2.2.2),(4,.ref 4 0 0),(5,.ref 5 0 0)],[],[(5,.box 26 [.osl 6001 0 s2.1.length,.osl 6002 0 s2.2.1.length]),(6001,.arr 38 23 s2.1.length (rows Qv6.enc s2.1)),(6002,.arr 42 14 s2.2.1.length (rows Qv7.enc s2.2.1)),(4,.box 26 [.d (.nil),.d (.nil)]),(9000,.box 75 [.d (slD Qq a0.b),dI s2.2.2.1])],[⟨[(0,.ref 9000 0 0)],[]⟩]⟩) ?_ ?_
  · exact leX []
  · clear hx5;intro s2 y3 g4 hy3;(conv=>whnf);refine Qe tOk ?_;(conv=>whnf);refine Qu g4 (fun _ g4=>?_) (fun _ g4=>?_)
    · (conv=>whnf);refine Qe tOk ?_;(conv=>whnf);obtain ⟨x6,hx6,g4⟩:=Qa g4;refine Ji tOk (fun s7=>⟨0,23,[(0,.ref 9000 0 0),(1,dI s2.2.2.2),(4,.ref 4 0 0),(5,.ref 5 0 0)],[],[(6001,.arr 38 23 s7.1.length (rows Qv6.enc s7.1)),(6002,.arr 42 14 s7.2.1.length (rows Qv7.enc s7.2.1)),(5,.box 26 [.osl 6001 0 s7.1.length,.osl 6002 0 s7.2.1.length]),(4,.box 26 [.d (.nil),.d (.nil)]),(9000,.box 75 [.d (slD Qq a0.b),dI s7.2.2])],[⟨[(0,.ref 9000 0 0)],[]⟩]⟩) (fun s7=>x6=s7) ?_ ?_
      · (conv=>whnf);obtain ⟨x9,hx9,hx6⟩:=Qa hx6;refine cE [(9000,9000)] 0 (Qd hx9) ?_;(conv=>whnf);refine Qu hx6 (fun _ hx6=>?_) (fun _ hx6=>?_)
        · (conv=>whnf);obtain ⟨x10,hx10,hx6⟩:=Qa hx6;refine QcU [6001,6002] ?_;(conv=>whnf);refine cE [] 1000 (Qfm hx10) ?_;(conv=>whnf);obtain rfl:=sj_ hx6;exact ⟨_,rfl,leX []⟩
        · (conv=>whnf);obtain rfl:=sj_ hx6;exact ⟨_,rfl,leX []⟩
      · rintro _ rfl;(conv=>whnf);obtain ⟨x11,hx11,g4⟩:=Qa g4;obtain ⟨x12,hx12,g4⟩:=Qa g4;refine Qqx [6001,6002] ?_;(conv=>whnf);refine JA tOk [.e 3 [(9000,.box 75 [.d (slD Qq a0.b),dI x6.2.2])] (.agg (dI x11.1.Kind :: dI x11.1.At :: .d (slD Qv2.enc x11.1.Want) :: .d (slD Qv1.enc x11.1.Keys) :: hwC x11.1.Word)) [] [(9000,.box 75 [.d (slD Qq a0.b),dI x11.2.p])],.e 4 [] (.agg [.osl 7001 0 x12.Sides.length,.osl 7002 0 x12.Radio.length]) [(7001,.arr 38 23 x12.Sides.length (rows Qv6.enc x12.Sides)),(7002,.arr 42 14 x12.Radio.length (rows Qv7.enc x12.Radio))] []] 5 [] [0,0,0,6,15] [31] [9000] ?_;(conv=>whnf);refine And.intro (eD [(9000,9000)] 0 (Qey hx11)) ?_;(conv=>whnf);refine And.intro (eD [] 2000 (QiS hx12)) ?_;(conv=>whnf);refine And.intro (by kernel_rfl) ?_;(conv=>whnf);obtain rfl:=sj_ g4;exact ⟨_,rfl,leX [.s [(6001,7001),(6002,7002),(7001,6001),(7002,6002)]]⟩
    · (conv=>whnf);obtain rfl:=sj_ g4;obtain rfl:=hy3 _ rfl;obtain rfl:=sj_ h;exact lfE [.s [(5001,6001),(5002,6002),(6001,5001),(6002,5002)]]
noncomputable def ZW (a0:Qv0) (a1:Qv2):Option (Qv2 × Qv0) :=
 bd (Qc a0 4) fun x1 =>
(if (x1.1 == 0)=true then
 bd (Qc (⟨a0.b,x1.2.p⟩:Qv0) 3) fun x2 =>
 gd ((0:Int)≤x2.1∧x2.1<((([-1,65536,IntKind.i64.wrap (a1.Addr+1)]:List Int).length:Nat):Int)) <|
 some ({ a1 with Addr:=(([-1,65536,IntKind.i64.wrap (a1.Addr+1)]:List Int).getD x2.1.toNat default) },(⟨a0.b,x2.2.p⟩:Qv0))
else
(if (x1.1 == 1)=true then
 bd (Qc (⟨a0.b,x1.2.p⟩:Qv0) 4) fun x4 =>
 gd ((0:Int)≤x4.1∧x4.1<((([-1,17,16,0]:List Int).length:Nat):Int)) <|
 some ({ a1 with Len:=(([-1,17,16,0]:List Int).getD x4.1.toNat default) },(⟨a0.b,x4.2.p⟩:Qv0))
else
(if (x1.1 == 2)=true then
 bd (Qc (⟨a0.b,x1.2.p⟩:Qv0) 5) fun x6 =>
 gd ((0:Int)≤x6.1∧x6.1<((([0,1,255,256,-1]:List Int).length:Nat):Int)) <|
 some ({ a1 with Cost:=(([0,1,255,256,-1]:List Int).getD x6.1.toNat default) },(⟨a0.b,x6.2.p⟩:Qv0))
else
 bd (Qc (⟨a0.b,x1.2.p⟩:Qv0) 3) fun x8 =>
 gd ((0:Int)≤x8.1∧x8.1<((([-1,1000,1001]:List Int).length:Nat):Int)) <|
 some ({ a1 with Label:=(([-1,1000,1001]:List Int).getD x8.1.toNat default) },(⟨a0.b,x8.2.p⟩:Qv0)))))
theorem Qb6 {a0:Qv0} {a1:Qv2} {r:Qv2 × Qv0} (h:ZW a0 a1=some r):EffC Tryz.prog 148 [.ref 9000 0 0,.agg (hnC a1)] [(9000,.box 75 [.d (slD Qq a0.b),dI a0.p])] (.agg (hnC r.1)) [(9000,.box 75 [.d (slD Qq a0.b),dI r.2.p])]:=by
  refine QQ tOk (fn:=Tryz.f148) (c:=Qj Tryz.f148) rfl rfl ?_;unfold ZW at h;(conv=>whnf);refine Qe tOk ?_;(conv=>whnf);obtain ⟨x1,hx1,h⟩:=Qa h;refine cE [(9000,9000)] 0 (Qd hx1) ?_;(conv=>whnf);refine Qu h (fun _ h=>?_) (fun _ h=>?_)
  · (conv=>whnf);obtain ⟨x2,hx2,h⟩:=Qa h;obtain ⟨g3,h⟩:=Qg h;refine JA tOk [.e 5 [(9000,.box 75 [.d (slD Qq a0.b),dI x1.2.p])] (dI x2.1) [] [(9000,.box 75 [.d (slD Qq a0.b),dI x2.2.p])]] 9 [] [0,1,3,7,0,16,63,127,255] [511] [9000] ?_;(conv=>whnf);refine QcT (enc:=Jz) ([-1,65536,IntKind.i64.wrap (a1.Addr+1)]:List Int) ?_;(conv=>whnf);refine And.intro (eD [(9000,9000)] 0 (Qd hx2)) ?_;(conv=>whnf);refine And.intro g3 ?_;clear g3;(conv=>whnf);refine And.intro (by kernel_rfl) ?_;(conv=>whnf);obtain rfl:=sj_ h;exact lfE []
  · (conv=>whnf);refine Qu h (fun _ h=>?_) (fun _ h=>?_)
    · (conv=>whnf);refine QcT (enc:=Jz) ([-1,17,16,0]:List Int) ?_;(conv=>whnf);obtain ⟨x4,hx4,h⟩:=Qa h;refine cE [(9000,9000)] 0 (Qd hx4) ?_;(conv=>whnf);refine gdI h (fun h=>?_);(conv=>whnf);obtain rfl:=sj_ h;exact lfE []
    · (conv=>whnf);refine Qu h (fun _ h=>?_) (fun _ h=>?_)
      · (conv=>whnf);refine QcT (enc:=Jz) ([0,1,255,256,-1]:List Int) ?_;(conv=>whnf);obtain ⟨x6,hx6,h⟩:=Qa h;refine cE [(9000,9000)] 0 (Qd hx6) ?_;(conv=>whnf);refine gdI h (fun h=>?_);(conv=>whnf);obtain rfl:=sj_ h;exact lfE []
      · (conv=>whnf);refine QcT (enc:=Jz) ([-1,1000,1001]:List Int) ?_;(conv=>whnf);obtain ⟨x8,hx8,h⟩:=Qa h;refine cE [(9000,9000)] 0 (Qd hx8) ?_;(conv=>whnf);refine gdI h (fun h=>?_);(conv=>whnf);obtain rfl:=sj_ h;exact lfE []
noncomputable def Qap (a0:Qv0) (a1:Qv7):Option (Qv7 × Qv0) :=
 bd (α:=(Int × Int × Int × Int × Int × Int × Int × Int × Int × Int × Int × Int × Int × Int) ⊕ (Int × Int)) (bd (Qc a0 11) fun x4 =>
(if (x4.1 == 0)=true then
 bd (Qc (⟨a0.b,x4.2.p⟩:Qv0) 4) fun x5 =>
 gd ((0:Int)≤x5.1∧x5.1<((([-1,65535,65536,7]:List Int).length:Nat):Int)) <|
 some (.inl ((([-1,65535,65536,7]:List Int).getD x5.1.toNat default),a1.To,a1.Change.Entry.Len,a1.Change.Entry.Cost,a1.Change.Entry.Label,a1.Key,a1.Boot,a1.Yours,a1.Turn,a1.Num,a1.Heard,a1.Change.Kind,a1.Change.Entry.Addr,x5.2.p))
else
(if (x4.1 == 1)=true then
 bd (Qc (⟨a0.b,x4.2.p⟩:Qv0) 4) fun x7 =>
 gd ((0:Int)≤x7.1∧x7.1<((([-1,65535,65536,7]:List Int).length:Nat):Int)) <|
 some (.inl (a1.From,(([-1,65535,65536,7]:List Int).getD x7.1.toNat default),a1.Change.Entry.Len,a1.Change.Entry.Cost,a1.Change.Entry.Label,a1.Key,a1.Boot,a1.Yours,a1.Turn,a1.Num,a1.Heard,a1.Change.Kind,a1.Change.Entry.Addr,x7.2.p))
else
(if (x4.1 == 2)=true then
 bd (Qc (⟨a0.b,x4.2.p⟩:Qv0) 4) fun x9 =>
 gd ((0:Int)≤x9.1∧x9.1<((([0,1,9,10]:List Int).length:Nat):Int)) <|
 some (.inl (a1.From,a1.To,a1.Change.Entry.Len,a1.Change.Entry.Cost,a1.Change.Entry.Label,(([0,1,9,10]:List Int).getD x9.1.toNat default),a1.Boot,a1.Yours,a1.Turn,a1.Num,a1.Heard,a1.Change.Kind,a1.Change.Entry.Addr,x9.2.p))
else
(if (x4.1 == 3)=true then
 bd (Qc (⟨a0.b,x4.2.p⟩:Qv0) 3) fun x11 =>
 gd ((0:Int)≤x11.1∧x11.1<((([0,999,1000]:List Int).length:Nat):Int)) <|
 some (.inl (a1.From,a1.To,a1.Change.Entry.Len,a1.Change.Entry.Cost,a1.Change.Entry.Label,a1.Key,(([0,999,1000]:List Int).getD x11.1.toNat default),a1.Yours,a1.Turn,a1.Num,a1.Heard,a1.Change.Kind,a1.Change.Entry.Addr,x11.2.p))
else
(if (x4.1 == 4)=true then
 bd (Qc (⟨a0.b,x4.2.p⟩:Qv0) 3) fun x13 =>
 gd ((0:Int)≤x13.1∧x13.1<((([-1,999,1000]:List Int).length:Nat):Int)) <|
 some (.inl (a1.From,a1.To,a1.Change.Entry.Len,a1.Change.Entry.Cost,a1.Change.Entry.Label,a1.Key,a1.Boot,(([-1,999,1000]:List Int).getD x13.1.toNat default),a1.Turn,a1.Num,a1.Heard,a1.Change.Kind,a1.Change.Entry.Addr,x13.2.p))
else
(if (x4.1 == 5)=true then
 bd (Qc (⟨a0.b,x4.2.p⟩:Qv0) 4) fun x15 =>
 gd ((0:Int)≤x15.1∧x15.1<((([0,1000000,1000001,1]:List Int).length:Nat):Int)) <|
 some (.inl (a1.From,a1.To,a1.Change.Entry.Len,a1.Change.Entry.Cost,a1.Change.Entry.Label,a1.Key,a1.Boot,a1.Yours,(([0,1000000,1000001,1]:List Int).getD x15.1.toNat default),a1.Num,a1.Heard,a1.Change.Kind,a1.Change.Entry.Addr,x15.2.p))
else
(if (x4.1 == 6)=true then
 bd (Qc (⟨a0.b,x4.2.p⟩:Qv0) 3) fun x17 =>
 gd ((0:Int)≤x17.1∧x17.1<((([-1,a1.Turn,IntKind.i64.wrap (a1.Turn+1)]:List Int).length:Nat):Int)) <|
 some (.inl (a1.From,a1.To,a1.Change.Entry.Len,a1.Change.Entry.Cost,a1.Change.Entry.Label,a1.Key,a1.Boot,a1.Yours,a1.Turn,(([-1,a1.Turn,IntKind.i64.wrap (a1.Turn+1)]:List Int).getD x17.1.toNat default),a1.Heard,a1.Change.Kind,a1.Change.Entry.Addr,x17.2.p))
else
(if (x4.1 == 7)=true then
 bd (Qc (⟨a0.b,x4.2.p⟩:Qv0) 3) fun x19 =>
 gd ((0:Int)≤x19.1∧x19.1<((([-1,1000000,1000001]:List Int).length:Nat):Int)) <|
 some (.inl (a1.From,a1.To,a1.Change.Entry.Len,a1.Change.Entry.Cost,a1.Change.Entry.Label,a1.Key,a1.Boot,a1.Yours,a1.Turn,a1.Num,(([-1,1000000,1000001]:List Int).getD x19.1.toNat default),a1.Change.Kind,a1.Change.Entry.Addr,x19.2.p))
else
(if (x4.1 == 8)=true then
 bd (Qc (⟨a0.b,x4.2.p⟩:Qv0) 4) fun x21 =>
 gd ((0:Int)≤x21.1∧x21.1<((([-1,2147483646,2147483647,IntKind.i64.wrap (a1.Sum+1)]:List Int).length:Nat):Int)) <|
 some (.inr ((([-1,2147483646,2147483647,IntKind.i64.wrap (a1.Sum+1)]:List Int).getD x21.1.toNat default),x21.2.p))
else
(if (x4.1 == 9)=true then
 bd (ZW (⟨a0.b,x4.2.p⟩:Qv0) a1.Change.Entry) fun x23 =>
 some (.inl (a1.From,a1.To,x23.1.Len,x23.1.Cost,x23.1.Label,a1.Key,a1.Boot,a1.Yours,a1.Turn,a1.Num,a1.Heard,a1.Change.Kind,x23.1.Addr,x23.2.p))
else
 bd (Qc (⟨a0.b,x4.2.p⟩:Qv0) 6) fun x24 =>
 gd ((0:Int)≤x24.1∧x24.1<((([-1,0,1,2,3,4]:List Int).length:Nat):Int)) <|
 some (.inl (a1.From,a1.To,a1.Change.Entry.Len,a1.Change.Entry.Cost,a1.Change.Entry.Label,a1.Key,a1.Boot,a1.Yours,a1.Turn,a1.Num,a1.Heard,(([-1,0,1,2,3,4]:List Int).getD x24.1.toNat default),a1.Change.Entry.Addr,x24.2.p))))))))))))) fun x1 =>
(match x1 with
| .inl d3 =>
 bd (Qc (⟨a0.b,d3.2.2.2.2.2.2.2.2.2.2.2.2.2⟩:Qv0) 2) fun x26 =>
(if (x26.1 == 0)=true then
 bd (JN 7 (⟨d3.1,d3.2.1,d3.2.2.2.2.2.1,d3.2.2.2.2.2.2.1,d3.2.2.2.2.2.2.2.1,d3.2.2.2.2.2.2.2.2.1,d3.2.2.2.2.2.2.2.2.2.1,d3.2.2.2.2.2.2.2.2.2.2.1,(⟨d3.2.2.2.2.2.2.2.2.2.2.2.1,(⟨d3.2.2.2.2.2.2.2.2.2.2.2.2.1,d3.2.2.1,d3.2.2.2.1,d3.2.2.2.2.1⟩:Qv2)⟩:Qv3),a1.Sum⟩:Qv7)) fun x27 =>
 some ((⟨d3.1,d3.2.1,d3.2.2.2.2.2.1,d3.2.2.2.2.2.2.1,d3.2.2.2.2.2.2.2.1,d3.2.2.2.2.2.2.2.2.1,d3.2.2.2.2.2.2.2.2.2.1,d3.2.2.2.2.2.2.2.2.2.2.1,(⟨d3.2.2.2.2.2.2.2.2.2.2.2.1,(⟨d3.2.2.2.2.2.2.2.2.2.2.2.2.1,d3.2.2.1,d3.2.2.2.1,d3.2.2.2.2.1⟩:Qv2)⟩:Qv3),x27⟩:Qv7),(⟨a0.b,x26.2.p⟩:Qv0))
else
 some ((⟨d3.1,d3.2.1,d3.2.2.2.2.2.1,d3.2.2.2.2.2.2.1,d3.2.2.2.2.2.2.2.1,d3.2.2.2.2.2.2.2.2.1,d3.2.2.2.2.2.2.2.2.2.1,d3.2.2.2.2.2.2.2.2.2.2.1,(⟨d3.2.2.2.2.2.2.2.2.2.2.2.1,(⟨d3.2.2.2.2.2.2.2.2.2.2.2.2.1,d3.2.2.1,d3.2.2.2.1,d3.2.2.2.2.1⟩:Qv2)⟩:Qv3),a1.Sum⟩:Qv7),(⟨a0.b,x26.2.p⟩:Qv0)))
| .inr d28 =>
 some ({ a1 with Sum:=d28.1 },(⟨a0.b,d28.2⟩:Qv0)))
theorem QgO {a0:Qv0} {a1:Qv7} {r:Qv7 × Qv0} (h:Qap a0 a1=some r):EffC Tryz.prog 123 [.ref 9000 0 0,.agg (hwC a1)] [(9000,.box 75 [.d (slD Qq a0.b),dI a0.p])] (.agg (hwC r.1)) [(9000,.box 75 [.d (slD Qq a0.b),dI r.2.p])]:=by
  refine QQ tOk (fn:=Tryz.f123) (c:=Qj Tryz.f123) rfl rfl ?_;unfold Qap at h;(conv=>whnf);obtain ⟨x1,hx1,h⟩:=Qa h;refine Ji tOk (fun s2=>⟨0,111,[(0,.ref 9000 0 0),(3,.ref 3 0 0),(4,.ref 4 0 0)],[],[(4,.box 42 [dI 0,dI 0,dI 0,dI 0,dI 0,dI 0,dI 0,dI 0,dI 0,dI 0,dI 0,dI 0,dI 0,dI 0]),(3,.box 42 [dI s2.1,dI s2.2.1,dI s2.2.2.2.2.2.1,dI s2.2.2.2.2.2.2.1,dI s2.2.2.2.2.2.2.2.1,dI s2.2.2.2.2.2.2.2.2.1,dI s2.2.2.2.2.2.2.2.2.2.1,dI s2.2.2.2.2.2.2.2.2.2.2.1,dI s2.2.2.2.2.2.2.2.2.2.2.2.1,dI s2.2.2.2.2.2.2.2.2.2.2.2.2.1,dI s2.2.2.1,dI s2.2.2.2.1,dI s2.2.2.2.2.1,dI a1.Sum]),(9000,.box 75 [.d (slD Qq a0.b),dI s2.2.2.2.2.2.2.2.2.2.2.2.2.2])],[⟨[(0,.ref 9000 0 0)],[]⟩]⟩) (fun s2=>x1=.inl s2) ?_ ?_
  · (conv=>whnf);obtain ⟨x4,hx4,hx1⟩:=Qa hx1;refine cE [(9000,9000)] 0 (Qd hx4) ?_;(conv=>whnf);refine Qu hx1 (fun _ hx1=>?_) (fun _ hx1=>?_)
    · (conv=>whnf);refine QcT (enc:=Jz) ([-1,65535,65536,7]:List Int) ?_;(conv=>whnf);obtain ⟨x5,hx5,hx1⟩:=Qa hx1;refine cE [(9000,9000)] 0 (Qd hx5) ?_;(conv=>whnf);refine gdI hx1 (fun hx1=>?_);(conv=>whnf);obtain rfl:=sj_ hx1;exact ⟨_,rfl,leX []⟩
    · (conv=>whnf);refine Qu hx1 (fun _ hx1=>?_) (fun _ hx1=>?_)
      · (conv=>whnf);refine QcT (enc:=Jz) ([-1,65535,65536,7]:List Int) ?_;(conv=>whnf);obtain ⟨x7,hx7,hx1⟩:=Qa hx1;refine cE [(9000,9000)] 0 (Qd hx7) ?_;(conv=>whnf);refine gdI hx1 (fun hx1=>?_);(conv=>whnf);obtain rfl:=sj_ hx1;exact ⟨_,rfl,leX []⟩
      · (conv=>whnf);refine Qu hx1 (fun _ hx1=>?_) (fun _ hx1=>?_)
        · (conv=>whnf);refine QcT (enc:=Jz) ([0,1,9,10]:List Int) ?_;(conv=>whnf);obtain ⟨x9,hx9,hx1⟩:=Qa hx1;refine cE [(9000,9000)] 0 (Qd hx9) ?_;(conv=>whnf);refine gdI hx1 (fun hx1=>?_);(conv=>whnf);obtain rfl:=sj_ hx1;exact ⟨_,rfl,leX []⟩
        · (conv=>whnf);refine Qu hx1 (fun _ hx1=>?_) (fun _ hx1=>?_)
          · (conv=>whnf);refine QcT (enc:=Jz) ([0,999,1000]:List Int) ?_;(conv=>whnf);obtain ⟨x11,hx11,hx1⟩:=Qa hx1;refine cE [(9000,9000)] 0 (Qd hx11) ?_;(conv=>whnf);refine gdI hx1 (fun hx1=>?_);(conv=>whnf);obtain rfl:=sj_ hx1;exact ⟨_,rfl,leX []⟩
          · (conv=>whnf);refine Qu hx1 (fun _ hx1=>?_) (fun _ hx1=>?_)
            · (conv=>whnf);refine QcT (enc:=Jz) ([-1,999,1000]:List Int) ?_;(conv=>whnf);obtain ⟨x13,hx13,hx1⟩:=Qa hx1;refine cE [(9000,9000)] 0 (Qd hx13) ?_;(conv=>whnf);refine gdI hx1 (fun hx1=>?_);(conv=>whnf);obtain rfl:=sj_ hx1;exact ⟨_,rfl,leX []⟩
            · (conv=>whnf);refine Qu hx1 (fun _ hx1=>?_) (fun _ hx1=>?_)
              · (conv=>whnf);refine QcT (enc:=Jz) ([0,1000000,1000001,1]:List Int) ?_;(conv=>whnf);obtain ⟨x15,hx15,hx1⟩:=Qa hx1;refine cE [(9000,9000)] 0 (Qd hx15) ?_;(conv=>whnf);refine gdI hx1 (fun hx1=>?_);(conv=>whnf);obtain rfl:=sj_ hx1;exact ⟨_,rfl,leX []⟩
              · (conv=>whnf);refine Qu hx1 (fun _ hx1=>?_) (fun _ hx1=>?_)
                · (conv=>whnf);obtain ⟨x17,hx17,hx1⟩:=Qa hx1;obtain ⟨g18,hx1⟩:=Qg hx1;refine JA tOk [.e 7 [(9000,.box 75 [.d (slD Qq a0.b),dI x4.2.p])] (dI x17.1) [] [(9000,.box 75 [.d (slD Qq a0.b),dI x17.2.p])]] 11 [] [0,1,0,4,12,31,0,64,255,511,1023] [2047] [9000] ?_;(conv=>whnf);refine QcT (enc:=Jz) ([-1,a1.Turn,IntKind.i64.wrap (a1.Turn+1)]:List Int) ?_;(conv=>whnf);refine And.intro (eD [(9000,9000)] 0 (Qd hx17)) ?_;(conv=>whnf);refine And.intro g18 ?_;clear g18;(conv=>whnf);refine And.intro (by kernel_rfl) ?_;(conv=>whnf);obtain rfl:=sj_ hx1;exact ⟨_,rfl,leX []⟩
                · (conv=>whnf);refine Qu hx1 (fun _ hx1=>?_) (fun _ hx1=>?_)
                  · (conv=>whnf);refine QcT (enc:=Jz) ([-1,1000000,1000001]:List Int) ?_;(conv=>whnf);obtain ⟨x19,hx19,hx1⟩:=Qa hx1;refine cE [(9000,9000)] 0 (Qd hx19) ?_;(conv=>whnf);refine gdI hx1 (fun hx1=>?_);(conv=>whnf);obtain rfl:=sj_ hx1;exact ⟨_,rfl,leX []⟩
                  · (conv=>whnf);refine Qu hx1 (fun _ hx1=>?_) (fun _ hx1=>?_)
                    · (conv=>whnf);obtain ⟨x21,hx21,hx1⟩:=Qa hx1;obtain ⟨g22,hx1⟩:=Qg hx1;refine JA tOk [.e 5 [(9000,.box 75 [.d (slD Qq a0.b),dI x4.2.p])] (dI x21.1) [] [(9000,.box 75 [.d (slD Qq a0.b),dI x21.2.p])]] 9 [] [0,1,3,7,0,16,63,127,255] [511] [9000] ?_;(conv=>whnf);refine QcT (enc:=Jz) ([-1,2147483646,2147483647,IntKind.i64.wrap (a1.Sum+1)]:List Int) ?_;(conv=>whnf);refine And.intro (eD [(9000,9000)] 0 (Qd hx21)) ?_;(conv=>whnf);refine And.intro g22 ?_;clear g22;(conv=>whnf);refine And.intro (by kernel_rfl) ?_;(conv=>whnf);obtain rfl:=sj_ hx1;obtain rfl:=sj_ h;exact lfE []
                    · (conv=>whnf);refine Qu hx1 (fun _ hx1=>?_) (fun _ hx1=>?_)
                      · (conv=>whnf);obtain ⟨x23,hx23,hx1⟩:=Qa hx1;refine cE [(9000,9000)] 0 (Qb6 hx23) ?_;(conv=>whnf);obtain rfl:=sj_ hx1;exact ⟨_,rfl,leX []⟩
                      · (conv=>whnf);refine QcT (enc:=Jz) ([-1,0,1,2,3,4]:List Int) ?_;(conv=>whnf);obtain ⟨x24,hx24,hx1⟩:=Qa hx1;refine cE [(9000,9000)] 0 (Qd hx24) ?_;(conv=>whnf);refine gdI hx1 (fun hx1=>?_);(conv=>whnf);obtain rfl:=sj_ hx1;exact ⟨_,rfl,leX []⟩
  · intro d3 hdd3;subst hdd3;(conv=>whnf);refine Qe tOk ?_;(conv=>whnf);obtain ⟨x26,hx26,h⟩:=Qa h;refine cE [(9000,9000)] 0 (Qd hx26) ?_;(conv=>whnf);refine Qu h (fun _ h=>?_) (fun _ h=>?_)
    · (conv=>whnf);obtain ⟨x27,hx27,h⟩:=Qa h;refine cC 0 (QcC hx27) ?_;clear hx27;(conv=>whnf);obtain rfl:=sj_ h;exact lfE []
    · (conv=>whnf);obtain rfl:=sj_ h;exact lfE []
noncomputable def Qaq (a0:Qv0) (a1:(List Qv1)):Option ((List Qv1) × Qv0) :=
 bd (ZL a1) fun x1 =>
(if (((x1.length:Nat):Int) == 0)=true then
 some (x1,a0)
else
 bd (Qc a0 ((x1.length:Nat):Int)) fun x2 =>
 bd (Qc (⟨a0.b,x2.2.p⟩:Qv0) 4) fun x3 =>
(if (x3.1 == 0)=true then
 bd (Qc (⟨a0.b,x3.2.p⟩:Qv0) 4) fun x4 =>
 gd ((0:Int)≤x4.1∧x4.1<((([0,10,-1,9]:List Int).length:Nat):Int)) <|
 gd ((0:Int)≤x2.1∧x2.1<((x1.length:Nat):Int)) <|
 bd (some (x1.set x2.1.toNat (⟨(([0,10,-1,9]:List Int).getD x4.1.toNat default),(x1.getD x2.1.toNat default).Secret⟩:Qv1))) fun x7 =>
 some (x7,(⟨a0.b,x4.2.p⟩:Qv0))
else
(if (x3.1 == 1)=true then
 bd (Qc (⟨a0.b,x3.2.p⟩:Qv0) 4) fun x8 =>
 gd ((0:Int)≤x8.1∧x8.1<((([0,-1,2147483647,2147483646]:List Int).length:Nat):Int)) <|
 gd ((0:Int)≤x2.1∧x2.1<((x1.length:Nat):Int)) <|
 bd (some (x1.set x2.1.toNat (⟨(x1.getD x2.1.toNat default).Id,(([0,-1,2147483647,2147483646]:List Int).getD x8.1.toNat default)⟩:Qv1))) fun x11 =>
 some (x11,(⟨a0.b,x8.2.p⟩:Qv0))
else
(if (x3.1 == 2)=true then
 gd ((0:Int)≤x2.1∧x2.1<((x1.length:Nat):Int)) <|
 gd (((x1.length)+(([(x1.getD x2.1.toNat default)]:List Qv1).length))*(16+1)≤70368744177664) <|
 some ((x1 ++ ([(x1.getD x2.1.toNat default)]:List Qv1)),(⟨a0.b,x3.2.p⟩:Qv0))
else
 bd (Qc (⟨a0.b,x3.2.p⟩:Qv0) 2) fun x14 =>
 gd ((0:Int)≤(0:Int)∧(0:Int)≤IntKind.i64.wrap (3+x14.1)∧IntKind.i64.wrap (3+x14.1)≤((([(⟨1,1⟩:Qv1),(⟨2,1⟩:Qv1),(⟨3,1⟩:Qv1),(⟨4,1⟩:Qv1)]:List Qv1).length:Nat):Int)) <|
 some (([(⟨1,1⟩:Qv1),(⟨2,1⟩:Qv1),(⟨3,1⟩:Qv1),(⟨4,1⟩:Qv1)]:List Qv1).take ((IntKind.i64.wrap (3+x14.1)).toNat),(⟨a0.b,x14.2.p⟩:Qv0))))))
theorem QgP {a0:Qv0} {a1:(List Qv1)} {r:(List Qv1) × Qv0} (h:Qaq a0 a1=some r):EffC Tryz.prog 149 [.ref 9000 0 0,.d (slD Qv1.enc a1)] [(9000,.box 75 [.d (slD Qq a0.b),dI a0.p])] (.osl 5001 0 r.1.length) [(9000,.box 75 [.d (slD Qq a0.b),dI r.2.p]),(5001,.arr 93 2 r.1.length (rows Qv1.enc r.1))]:=by
  refine QQ tOk (fn:=Tryz.f149) (c:=Qj Tryz.f149) rfl rfl ?_;unfold Qaq at h;(conv=>whnf);obtain ⟨x1,hx1,h⟩:=Qa h;refine cC 1000 (Qca hx1) ?_;clear hx1;(conv=>whnf);refine Qe tOk ?_;(conv=>whnf);refine Qu h (fun _ h=>?_) (fun _ h=>?_)
  · (conv=>whnf);obtain rfl:=sj_ h;exact lfE [.s [(5001,6001),(6001,5001)]]
  · (conv=>whnf);obtain ⟨x2,hx2,h⟩:=Qa h;refine cE [(9000,9000)] 0 (Qd hx2) ?_;(conv=>whnf);refine Qe tOk ?_;(conv=>whnf);obtain ⟨x3,hx3,h⟩:=Qa h;refine cE [(9000,9000)] 0 (Qd hx3) ?_;(conv=>whnf);refine Qu h (fun _ h=>?_) (fun _ h=>?_)
    · (conv=>whnf);refine QcT (enc:=Jz) ([0,10,-1,9]:List Int) ?_;(conv=>whnf);obtain ⟨x4,hx4,h⟩:=Qa h;refine cE [(9000,9000)] 0 (Qd hx4) ?_;(conv=>whnf);refine gdI h (fun h=>?_);(conv=>whnf);refine gdI h (fun h=>?_);(conv=>whnf);obtain ⟨x7,hx7,hlx7,h⟩:=QgC h;refine Qr8 (enc:=Qv1.enc) hx7 ?_;(conv=>whnf);obtain rfl:=sj_ h;exact lfE [.s [(5001,6001),(6001,5001)]]
    · (conv=>whnf);refine Qu h (fun _ h=>?_) (fun _ h=>?_)
      · (conv=>whnf);refine QcT (enc:=Jz) ([0,-1,2147483647,2147483646]:List Int) ?_;(conv=>whnf);obtain ⟨x8,hx8,h⟩:=Qa h;refine cE [(9000,9000)] 0 (Qd hx8) ?_;(conv=>whnf);refine gdI h (fun h=>?_);(conv=>whnf);refine gdI h (fun h=>?_);(conv=>whnf);obtain ⟨x11,hx11,hlx11,h⟩:=QgC h;refine Qr8 (enc:=Qv1.enc) hx11 ?_;(conv=>whnf);obtain rfl:=sj_ h;exact lfE [.s [(5001,6001),(6001,5001)]]
      · (conv=>whnf);refine Qu h (fun _ h=>?_) (fun _ h=>?_)
        · (conv=>whnf);refine gdI h (fun h=>?_);(conv=>whnf);refine QcT (enc:=Qv1.enc) ([(x1.getD x2.1.toNat default)]:List Qv1) ?_;(conv=>whnf);refine gdI h (fun h=>?_);refine Qh0 (enc:=Qv1.enc) (xs:=x1) (ys:=([(x1.getD x2.1.toNat default)]:List Qv1)) ?_;(conv=>whnf);obtain rfl:=sj_ h;exact lfE [.s [(5001,6001),(6001,5001)]]
        · (conv=>whnf);refine QcT (enc:=Qv1.enc) ([(⟨1,1⟩:Qv1),(⟨2,1⟩:Qv1),(⟨3,1⟩:Qv1),(⟨4,1⟩:Qv1)]:List Qv1) ?_;(conv=>whnf);obtain ⟨x14,hx14,h⟩:=Qa h;refine cE [(9000,9000)] 0 (Qd hx14) ?_;(conv=>whnf);obtain ⟨g15,h⟩:=Qg h;refine And.intro g15 ?_;(conv=>whnf);obtain rfl:=sj_ h
          try simp only [List.length_cons,List.length_nil] at *
          exact lfE [.c 4,.s [(23,5001),(5001,23)]]
noncomputable def Js (a0:Qv0) (a1:(List Qv2)):Option ((List Qv2) × Qv0) :=
 bd (QT a1) fun x1 =>
 bd (α:=Int ⊕ (Nat × (List Qv2) × Int)) ((if (((x1.length:Nat):Int) == 0)=true then
(if ((((x1.length:Nat):Int) == 0) || ((0:Int) == 0))=true then
 bd (lp (σ:=List Qv2 × Int × Int) (β:=(Nat × (List Qv2) × Int)) (fun s14 =>
 bd (Qc (⟨a0.b,s14.2.1⟩:Qv0) 2) fun x18 =>
(if (decide (s14.2.2<(IntKind.i64.wrap (8+x18.1))))=true then
 gd (((s14.1.length)+(([(⟨IntKind.i64.wrap (61440+s14.2.2),16,1,0⟩:Qv2)]:List Qv2).length))*(32+1)≤70368744177664) <|
 some (.inl ((s14.1 ++ ([(⟨IntKind.i64.wrap (61440+s14.2.2),16,1,0⟩:Qv2)]:List Qv2)),x18.2.p,IntKind.i64.wrap (s14.2.2+1)))
else
 some (.inr (s14.1.length,s14.1,x18.2.p)))) (x1,a0.p,0)) fun x17 =>
 some (.inr (x17.1,x17.2.1,x17.2.2))
else
 some (.inl a0.p))
else
 bd (Qc a0 4) fun x6 =>
(if ((((x1.length:Nat):Int) == 0) || (x6.1 == 0))=true then
 bd (lp (σ:=List Qv2 × Int × Int) (β:=(Nat × (List Qv2) × Int)) (fun s7 =>
 bd (Qc (⟨a0.b,s7.2.1⟩:Qv0) 2) fun x11 =>
(if (decide (s7.2.2<(IntKind.i64.wrap (8+x11.1))))=true then
 gd (((s7.1.length)+(([(⟨IntKind.i64.wrap (61440+s7.2.2),16,1,0⟩:Qv2)]:List Qv2).length))*(32+1)≤70368744177664) <|
 some (.inl ((s7.1 ++ ([(⟨IntKind.i64.wrap (61440+s7.2.2),16,1,0⟩:Qv2)]:List Qv2)),x11.2.p,IntKind.i64.wrap (s7.2.2+1)))
else
 some (.inr (s7.1.length,s7.1,x11.2.p)))) (x1,x6.2.p,0)) fun x10 =>
 some (.inr (x10.1,x10.2.1,x10.2.2))
else
 some (.inl x6.2.p)))) fun x2 =>
(match x2 with
| .inl d4 =>
 bd (Qc (⟨a0.b,d4⟩:Qv0) ((x1.length:Nat):Int)) fun x21 =>
 bd (Qc (⟨a0.b,x21.2.p⟩:Qv0) 3) fun x22 =>
(if (x22.1 == 0)=true then
 gd ((0:Int)≤x21.1∧x21.1<((x1.length:Nat):Int)) <|
 gd (((x1.length)+(([(x1.getD x21.1.toNat default)]:List Qv2).length))*(32+1)≤70368744177664) <|
 some ((x1 ++ ([(x1.getD x21.1.toNat default)]:List Qv2)),(⟨a0.b,x22.2.p⟩:Qv0))
else
 gd ((0:Int)≤x21.1∧x21.1<((x1.length:Nat):Int)) <|
 bd (ZW (⟨a0.b,x22.2.p⟩:Qv0) (x1.getD x21.1.toNat default)) fun x26 =>
 gd ((0:Int)≤x21.1∧x21.1<((x1.length:Nat):Int)) <|
 some (x1.set x21.1.toNat x26.1,(⟨a0.b,x26.2.p⟩:Qv0)))
| .inr d28 =>
 some (d28.2.1,(⟨a0.b,d28.2.2⟩:Qv0)))
theorem Qdw {a0:Qv0} {a1:(List Qv2)} {r:(List Qv2) × Qv0} (h:Js a0 a1=some r):EffC Tryz.prog 150 [.ref 9000 0 0,.d (slD Qv2.enc a1)] [(9000,.box 75 [.d (slD Qq a0.b),dI a0.p])] (.osl 5001 0 r.1.length) [(9000,.box 75 [.d (slD Qq a0.b),dI r.2.p]),(5001,.arr 31 4 r.1.length (rows Qv2.enc r.1))]:=by
  refine QQ tOk (fn:=Tryz.f150) (c:=Qj Tryz.f150) rfl rfl ?_;unfold Js at h;(conv=>whnf);obtain ⟨x1,hx1,h⟩:=Qa h;refine cC 1000 (Zl hx1) ?_;clear hx1;(conv=>whnf);obtain ⟨x2,hx2,h⟩:=Qa h;refine Ji tOk (fun s3=>⟨0,56,[(0,.ref 9000 0 0),(5,.osl 6001 0 x1.length)],[],[(6001,.arr 31 4 x1.length (rows Qv2.enc x1)),(9000,.box 75 [.d (slD Qq a0.b),dI s3])],[⟨[(0,.ref 9000 0 0)],[]⟩]⟩) (fun s3=>x2=.inl s3) ?_ ?_
  · (conv=>whnf);refine spI hx2 (fun hb5 hx2=>?_) (fun hb5 hx2=>?_)
    · refine QiY (dI 0) ?_ (by (conv=>whnf); exact fun q=>absurd (hb5.symm.trans q) (by decide));(conv=>whnf);refine Qu hx2 (fun _ hx2=>?_) (fun _ hx2=>?_)
      · (conv=>whnf);refine Qe tOk ?_;(conv=>whnf);obtain ⟨x17,hx17,hx2⟩:=Qa hx2;refine Zh tOk hx17 (fun s14=>⟨0,56,[(0,.ref 9000 0 0),(5,.osl 6001 0 s14.1.length),(6,dI s14.2.2)],[],[(6001,.arr 31 4 s14.1.length (rows Qv2.enc s14.1)),(9000,.box 75 [.d (slD Qq a0.b),dI s14.2.1])],[⟨[(0,.ref 9000 0 0)],[]⟩]⟩) ?_ ?_
        · exact leX []
        · clear hx17;intro s14 y15 g16 hy15;(conv=>whnf);refine Qe tOk ?_;(conv=>whnf);obtain ⟨x18,hx18,g16⟩:=Qa g16;refine cE [(9000,9000)] 0 (Qd hx18) ?_;(conv=>whnf);refine Qu g16 (fun _ g16=>?_) (fun _ g16=>?_)
          · (conv=>whnf);refine Qe tOk ?_;(conv=>whnf);refine QcT (enc:=Qv2.enc) ([(⟨IntKind.i64.wrap (61440+s14.2.2),16,1,0⟩:Qv2)]:List Qv2) ?_;(conv=>whnf);refine gdI g16 (fun g16=>?_);refine Qh0 (enc:=Qv2.enc) (xs:=s14.1) (ys:=([(⟨IntKind.i64.wrap (61440+s14.2.2),16,1,0⟩:Qv2)]:List Qv2)) ?_;(conv=>whnf);obtain rfl:=sj_ g16;exact ⟨_,rfl,leX []⟩
          · (conv=>whnf);obtain rfl:=sj_ g16;obtain rfl:=hy15 _ rfl;obtain rfl:=sj_ hx2;obtain rfl:=sj_ h;exact lfE [.s [(5001,6001),(6001,5001)]]
      · (conv=>whnf);obtain rfl:=sj_ hx2;exact ⟨_,rfl,leX []⟩
    · obtain ⟨x6,hx6,hx2⟩:=Qa hx2;refine QlE [(9000,9000)] 0 (Qd hx6) (by (conv=>whnf); exact fun q=>absurd (q.symm.trans hb5) (by decide)) ?_;(conv=>whnf);refine Qu hx2 (fun _ hx2=>?_) (fun _ hx2=>?_)
      · (conv=>whnf);refine Qe tOk ?_;(conv=>whnf);obtain ⟨x10,hx10,hx2⟩:=Qa hx2;refine Zh tOk hx10 (fun s7=>⟨0,56,[(0,.ref 9000 0 0),(5,.osl 6001 0 s7.1.length),(6,dI s7.2.2)],[],[(6001,.arr 31 4 s7.1.length (rows Qv2.enc s7.1)),(9000,.box 75 [.d (slD Qq a0.b),dI s7.2.1])],[⟨[(0,.ref 9000 0 0)],[]⟩]⟩) ?_ ?_
        · exact leX []
        · clear hx10;intro s7 y8 g9 hy8;(conv=>whnf);refine Qe tOk ?_;(conv=>whnf);obtain ⟨x11,hx11,g9⟩:=Qa g9;refine cE [(9000,9000)] 0 (Qd hx11) ?_;(conv=>whnf);refine Qu g9 (fun _ g9=>?_) (fun _ g9=>?_)
          · (conv=>whnf);refine Qe tOk ?_;(conv=>whnf);refine QcT (enc:=Qv2.enc) ([(⟨IntKind.i64.wrap (61440+s7.2.2),16,1,0⟩:Qv2)]:List Qv2) ?_;(conv=>whnf);refine gdI g9 (fun g9=>?_);refine Qh0 (enc:=Qv2.enc) (xs:=s7.1) (ys:=([(⟨IntKind.i64.wrap (61440+s7.2.2),16,1,0⟩:Qv2)]:List Qv2)) ?_;(conv=>whnf);obtain rfl:=sj_ g9;exact ⟨_,rfl,leX []⟩
          · (conv=>whnf);obtain rfl:=sj_ g9;obtain rfl:=hy8 _ rfl;obtain rfl:=sj_ hx2;obtain rfl:=sj_ h;exact lfE [.s [(5001,6001),(6001,5001)]]
      · (conv=>whnf);obtain rfl:=sj_ hx2;exact ⟨_,rfl,leX []⟩
  · intro d4 hdd4;subst hdd4;(conv=>whnf);obtain ⟨x21,hx21,h⟩:=Qa h;refine cE [(9000,9000)] 0 (Qd hx21) ?_;(conv=>whnf);refine Qe tOk ?_;(conv=>whnf);obtain ⟨x22,hx22,h⟩:=Qa h;refine cE [(9000,9000)] 0 (Qd hx22) ?_;(conv=>whnf);refine Qu h (fun _ h=>?_) (fun _ h=>?_)
    · (conv=>whnf);refine gdI h (fun h=>?_);(conv=>whnf);refine QcT (enc:=Qv2.enc) ([(x1.getD x21.1.toNat default)]:List Qv2) ?_;(conv=>whnf);refine gdI h (fun h=>?_);refine Qh0 (enc:=Qv2.enc) (xs:=x1) (ys:=([(x1.getD x21.1.toNat default)]:List Qv2)) ?_;(conv=>whnf);obtain rfl:=sj_ h;exact lfE [.s [(5001,6001),(6001,5001)]]
    · (conv=>whnf);refine gdI h (fun h=>?_);(conv=>whnf);obtain ⟨x26,hx26,h⟩:=Qa h;refine cE [(9000,9000)] 0 (Qb6 hx26) ?_;(conv=>whnf);refine gdI h (fun h=>?_);(conv=>whnf);refine ⟨rows Qv2.enc (x1.set x21.1.toNat x26.1),Zd Qjk rfl,?_⟩;(conv=>whnf);obtain rfl:=sj_ h;exact lfE [.s [(5001,6001),(6001,5001)]]
end Go.Proofs.YtjgjdobkahdgfaaGreat
