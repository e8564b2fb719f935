/-
  What some of the program's functions compute: their models, and that the functions compute these; no condition.
-/
import Derived.Test.YtjgjdobkahdgfaaGreatTyz
import Derived.Test.YtjgjdobkahdgfaaGreatTbz
import Derived.Test.YtjgjdobkahdgfaaGreatAbz7
import Derived.Test.YtjgjdobkahdgfaaGreatKz2
set_option linter.all false
namespace Go.Proofs.YtjgjdobkahdgfaaGreat
open Go Go.Ab
set_option maxRecDepth 100000
set_option maxHeartbeats 40000000
noncomputable def Qbi (a0:Qxe) (a1:Int):Option (Qxe) :=
 bd (Z8 a0) fun x1 =>
(if (!x1)=true then
 some (⟨[],[]⟩:Qxe)
else
 bd (QaF a0) fun x2 =>
 bd (lp (σ:=List Qxc × List Qxd × Int) (β:=(Nat × Nat × (List Qxc) × (List Qxd))) (fun s3 =>
(if ((decide (s3.2.2<a1)) && (decide (s3.2.2<100)))=true then
 bd (JB (⟨s3.1,s3.2.1⟩:Qxe)) fun x7 =>
 some (.inl (x7.Sides,x7.Radio,IntKind.i64.wrap (s3.2.2+1)))
else
 some (.inr (s3.1.length,s3.2.1.length,s3.1,s3.2.1)))) (x2.Sides,x2.Radio,0)) fun x6 =>
 bd (Qai (⟨x6.2.2.1,x6.2.2.2⟩:Qxe)) fun x9 =>
 some x9)
theorem QiU {a0:Qxe} {a1:Int} {r:Qxe} (h:Qbi a0 a1=some r):EffC Tryz.prog 20 [.agg [.d (slD Qxc.enc a0.Sides),.d (slD Qxd.enc a0.Radio)],dI a1] [] (.agg [.osl 5001 0 r.Sides.length,.osl 5002 0 r.Radio.length]) [(5001,.arr 38 23 r.Sides.length (rows Qxc.enc r.Sides)),(5002,.arr 42 14 r.Radio.length (rows Qxd.enc r.Radio))]:=by
  refine QS tOk (fn:=Tryz.f20) (c:=Ql Tryz.f20) rfl rfl ?_;unfold Qbi at h;(conv=>whnf);refine Qc tOk ?_;(conv=>whnf);obtain ⟨x1,hx1,h⟩:=Qa h;refine cC 0 (Qcw hx1) ?_;clear hx1;(conv=>whnf);refine QA h (fun _ h=>?_) (fun _ h=>?_)
  · (conv=>whnf);obtain rfl:=sj_ h;exact lfE [.k [2],.p 5001 38 23 (rows Qxc.enc ([]:List Qxc)),.p 5002 42 14 (rows Qxd.enc ([]:List Qxd))]
  · (conv=>whnf);obtain ⟨x2,hx2,h⟩:=Qa h;refine cE [] 1000 (QfH hx2) ?_;(conv=>whnf);refine Qc tOk ?_;(conv=>whnf);obtain ⟨x6,hx6,h⟩:=Qa h;refine Zm tOk hx6 (fun s3=>⟨0,26,[(1,dI a1),(4,.ref 4 0 0),(5,.ref 5 0 0),(6,dI s3.2.2)],[],[(5,.box 26 [.osl 6001 0 s3.1.length,.osl 6002 0 s3.2.1.length]),(6001,.arr 38 23 s3.1.length (rows Qxc.enc s3.1)),(6002,.arr 42 14 s3.2.1.length (rows Qxd.enc s3.2.1)),(4,.box 26 [.d (.nil),.d (.nil)])],[⟨[],[]⟩]⟩) ?_ ?_
    · exact leX []
    · clear hx6;intro s3 y4 g5 hy4;(conv=>whnf);refine Qc tOk ?_;(conv=>whnf);refine QA g5 (fun _ g5=>?_) (fun _ g5=>?_)
      · (conv=>whnf);refine Qc tOk ?_;(conv=>whnf);obtain ⟨x7,hx7,g5⟩:=Qa g5;refine cE [(9000,6001),(9001,6002)] 2000 (Qfz hx7) ?_;(conv=>whnf);obtain rfl:=sj_ g5;exact ⟨_,rfl,leX [.s [(6001,7001),(6002,7002),(7001,6001),(7002,6002)]]⟩
      · (conv=>whnf);obtain rfl:=sj_ g5;obtain rfl:=hy4 _ rfl;obtain ⟨x9,hx9,h⟩:=Qa h;refine QdY [6001,6002] ?_;(conv=>whnf);refine cE [] 1000 (Qeu hx9) ?_;(conv=>whnf);obtain rfl:=sj_ h;exact lfE [.s [(5001,6001),(5002,6002),(6001,5001),(6002,5002)]]
noncomputable def Qbj (a0:Qw6) (a1:Qxe):Option (Qxd × Qw6) :=
 bd (Qd a0 2) fun x1 =>
 gd ((0:Int)≤x1.1∧x1.1<((a1.Sides.length:Nat):Int)) <|
 bd (Qd (⟨a0.b,x1.2.p⟩:Qw6) 2) fun x3 =>
 bd (Qd (⟨a0.b,x3.2.p⟩:Qw6) 5) fun x4 =>
 bd (Qd (⟨a0.b,x4.2.p⟩:Qw6) 200) fun x5 =>
 bd (Qd (⟨a0.b,x5.2.p⟩:Qw6) 3) fun x6 =>
 bd (Qd (⟨a0.b,x6.2.p⟩:Qw6) 9) fun x7 =>
 bd (Qd (⟨a0.b,x7.2.p⟩:Qw6) 2) fun x8 =>
 bd (Qd (⟨a0.b,x8.2.p⟩:Qw6) 4) fun x9 =>
 bd (α:=Int ⊕ ((Int × Int × Int × Int × Int × Int × Int × Int × Int × Int × Int × Int × Int × Int × Int) ⊕ (Int × Int × Int × Int × Int × Int × Int × Int × Int × Int × Int × Int × Int × Int))) ((if (decide (((a1.Radio.length:Nat):Int) > 0))=true then
 bd (Qd (⟨a0.b,x9.2.p⟩:Qw6) 2) fun x14 =>
(if ((decide (((a1.Radio.length:Nat):Int) > 0)) && (x14.1 == 0))=true then
 bd (Qd (⟨a0.b,x14.2.p⟩:Qw6) ((a1.Radio.length:Nat):Int)) fun x15 =>
 gd ((0:Int)≤x15.1∧x15.1<((a1.Radio.length:Nat):Int)) <|
 bd (Qd (⟨a0.b,x15.2.p⟩:Qw6) 4) fun x17 =>
(if (x17.1 == 0)=true then
 bd (Qd (⟨a0.b,x17.2.p⟩:Qw6) 9) fun x18 =>
 some (.inr (.inl ((a1.Radio.getD x15.1.toNat default).From,(a1.Radio.getD x15.1.toNat default).To,(a1.Radio.getD x15.1.toNat default).Key,(a1.Radio.getD x15.1.toNat default).Boot,(a1.Radio.getD x15.1.toNat default).Yours,IntKind.i64.wrap ((IntKind.i64.wrap (((a1.Radio.getD x15.1.toNat default).Turn)+1))+x18.1),(a1.Radio.getD x15.1.toNat default).Num,(a1.Radio.getD x15.1.toNat default).Heard,((a1.Radio.getD x15.1.toNat default).Change).Kind,(((a1.Radio.getD x15.1.toNat default).Change).Entry).Addr,(((a1.Radio.getD x15.1.toNat default).Change).Entry).Len,(((a1.Radio.getD x15.1.toNat default).Change).Entry).Cost,(((a1.Radio.getD x15.1.toNat default).Change).Entry).Label,(a1.Radio.getD x15.1.toNat default).Sum,x18.2.p)))
else
(if (x17.1 == 1)=true then
 some (.inr (.inl ((a1.Radio.getD x15.1.toNat default).From,(a1.Radio.getD x15.1.toNat default).To,(a1.Radio.getD x15.1.toNat default).Key,(a1.Radio.getD x15.1.toNat default).Boot,(a1.Radio.getD x15.1.toNat default).Yours,(a1.Radio.getD x15.1.toNat default).Turn,(a1.Radio.getD x15.1.toNat default).Num,IntKind.i64.wrap (((a1.Radio.getD x15.1.toNat default).Heard)+1),((a1.Radio.getD x15.1.toNat default).Change).Kind,(((a1.Radio.getD x15.1.toNat default).Change).Entry).Addr,(((a1.Radio.getD x15.1.toNat default).Change).Entry).Len,(((a1.Radio.getD x15.1.toNat default).Change).Entry).Cost,(((a1.Radio.getD x15.1.toNat default).Change).Entry).Label,(a1.Radio.getD x15.1.toNat default).Sum,x17.2.p)))
else
(if (x17.1 == 2)=true then
 some (.inr (.inl ((a1.Radio.getD x15.1.toNat default).From,(a1.Radio.getD x15.1.toNat default).To,(a1.Radio.getD x15.1.toNat default).Key,IntKind.i64.wrap (((a1.Radio.getD x15.1.toNat default).Boot)+1),(a1.Radio.getD x15.1.toNat default).Yours,(a1.Radio.getD x15.1.toNat default).Turn,(a1.Radio.getD x15.1.toNat default).Num,(a1.Radio.getD x15.1.toNat default).Heard,((a1.Radio.getD x15.1.toNat default).Change).Kind,(((a1.Radio.getD x15.1.toNat default).Change).Entry).Addr,(((a1.Radio.getD x15.1.toNat default).Change).Entry).Len,(((a1.Radio.getD x15.1.toNat default).Change).Entry).Cost,(((a1.Radio.getD x15.1.toNat default).Change).Entry).Label,(a1.Radio.getD x15.1.toNat default).Sum,x17.2.p)))
else
 bd (Qam (⟨a0.b,x17.2.p⟩:Qw6)) fun x19 =>
 some (.inr (.inr ((a1.Radio.getD x15.1.toNat default).From,(a1.Radio.getD x15.1.toNat default).To,(a1.Radio.getD x15.1.toNat default).Key,(a1.Radio.getD x15.1.toNat default).Boot,(a1.Radio.getD x15.1.toNat default).Yours,IntKind.i64.wrap (((a1.Radio.getD x15.1.toNat default).Turn)+1),IntKind.i64.wrap (((a1.Radio.getD x15.1.toNat default).Num)+1),(a1.Radio.getD x15.1.toNat default).Heard,x19.1.Addr,x19.1.Len,x19.1.Cost,x19.1.Label,(a1.Radio.getD x15.1.toNat default).Sum,x19.2.p))))))
else
 some (.inl x14.2.p))
else
(if ((decide (((a1.Radio.length:Nat):Int) > 0)) && ((0:Int) == 0))=true then
 bd (Qd (⟨a0.b,x9.2.p⟩:Qw6) ((a1.Radio.length:Nat):Int)) fun x20 =>
 gd ((0:Int)≤x20.1∧x20.1<((a1.Radio.length:Nat):Int)) <|
 bd (Qd (⟨a0.b,x20.2.p⟩:Qw6) 4) fun x22 =>
(if (x22.1 == 0)=true then
 bd (Qd (⟨a0.b,x22.2.p⟩:Qw6) 9) fun x23 =>
 some (.inr (.inl ((a1.Radio.getD x20.1.toNat default).From,(a1.Radio.getD x20.1.toNat default).To,(a1.Radio.getD x20.1.toNat default).Key,(a1.Radio.getD x20.1.toNat default).Boot,(a1.Radio.getD x20.1.toNat default).Yours,IntKind.i64.wrap ((IntKind.i64.wrap (((a1.Radio.getD x20.1.toNat default).Turn)+1))+x23.1),(a1.Radio.getD x20.1.toNat default).Num,(a1.Radio.getD x20.1.toNat default).Heard,((a1.Radio.getD x20.1.toNat default).Change).Kind,(((a1.Radio.getD x20.1.toNat default).Change).Entry).Addr,(((a1.Radio.getD x20.1.toNat default).Change).Entry).Len,(((a1.Radio.getD x20.1.toNat default).Change).Entry).Cost,(((a1.Radio.getD x20.1.toNat default).Change).Entry).Label,(a1.Radio.getD x20.1.toNat default).Sum,x23.2.p)))
else
(if (x22.1 == 1)=true then
 some (.inr (.inl ((a1.Radio.getD x20.1.toNat default).From,(a1.Radio.getD x20.1.toNat default).To,(a1.Radio.getD x20.1.toNat default).Key,(a1.Radio.getD x20.1.toNat default).Boot,(a1.Radio.getD x20.1.toNat default).Yours,(a1.Radio.getD x20.1.toNat default).Turn,(a1.Radio.getD x20.1.toNat default).Num,IntKind.i64.wrap (((a1.Radio.getD x20.1.toNat default).Heard)+1),((a1.Radio.getD x20.1.toNat default).Change).Kind,(((a1.Radio.getD x20.1.toNat default).Change).Entry).Addr,(((a1.Radio.getD x20.1.toNat default).Change).Entry).Len,(((a1.Radio.getD x20.1.toNat default).Change).Entry).Cost,(((a1.Radio.getD x20.1.toNat default).Change).Entry).Label,(a1.Radio.getD x20.1.toNat default).Sum,x22.2.p)))
else
(if (x22.1 == 2)=true then
 some (.inr (.inl ((a1.Radio.getD x20.1.toNat default).From,(a1.Radio.getD x20.1.toNat default).To,(a1.Radio.getD x20.1.toNat default).Key,IntKind.i64.wrap (((a1.Radio.getD x20.1.toNat default).Boot)+1),(a1.Radio.getD x20.1.toNat default).Yours,(a1.Radio.getD x20.1.toNat default).Turn,(a1.Radio.getD x20.1.toNat default).Num,(a1.Radio.getD x20.1.toNat default).Heard,((a1.Radio.getD x20.1.toNat default).Change).Kind,(((a1.Radio.getD x20.1.toNat default).Change).Entry).Addr,(((a1.Radio.getD x20.1.toNat default).Change).Entry).Len,(((a1.Radio.getD x20.1.toNat default).Change).Entry).Cost,(((a1.Radio.getD x20.1.toNat default).Change).Entry).Label,(a1.Radio.getD x20.1.toNat default).Sum,x22.2.p)))
else
 bd (Qam (⟨a0.b,x22.2.p⟩:Qw6)) fun x24 =>
 some (.inr (.inr ((a1.Radio.getD x20.1.toNat default).From,(a1.Radio.getD x20.1.toNat default).To,(a1.Radio.getD x20.1.toNat default).Key,(a1.Radio.getD x20.1.toNat default).Boot,(a1.Radio.getD x20.1.toNat default).Yours,IntKind.i64.wrap (((a1.Radio.getD x20.1.toNat default).Turn)+1),IntKind.i64.wrap (((a1.Radio.getD x20.1.toNat default).Num)+1),(a1.Radio.getD x20.1.toNat default).Heard,x24.1.Addr,x24.1.Len,x24.1.Cost,x24.1.Label,(a1.Radio.getD x20.1.toNat default).Sum,x24.2.p))))))
else
 some (.inl x9.2.p)))) fun x10 =>
(match x10 with
| .inl d12 =>
 bd (Qd (⟨a0.b,d12⟩:Qw6) 256) fun x25 =>
 bd (Qd (⟨a0.b,x25.2.p⟩:Qw6) 2) fun x26 =>
(if (x26.1 == 0)=true then
 bd (Qap 8 (⟨((a1.Sides.getD x1.1.toNat default).End).Name,((a1.Sides.getD x1.1.toNat default).End).Peer,IntKind.i64.wrap (1+x3.1),IntKind.i64.wrap (1+(IntKind.i64.wrap (x4.1*x5.1))),IntKind.i64.wrap (1+x6.1),IntKind.i64.wrap (1+x7.1),x8.1,x9.1,(⟨0,(⟨0,0,0,0⟩:Qw8)⟩:Qw9),x25.1⟩:Qxd)) fun x27 =>
 some ((⟨((a1.Sides.getD x1.1.toNat default).End).Name,((a1.Sides.getD x1.1.toNat default).End).Peer,IntKind.i64.wrap (1+x3.1),IntKind.i64.wrap (1+(IntKind.i64.wrap (x4.1*x5.1))),IntKind.i64.wrap (1+x6.1),IntKind.i64.wrap (1+x7.1),x8.1,x9.1,(⟨0,(⟨0,0,0,0⟩:Qw8)⟩:Qw9),x27⟩:Qxd),(⟨a0.b,x26.2.p⟩:Qw6))
else
 some ((⟨((a1.Sides.getD x1.1.toNat default).End).Name,((a1.Sides.getD x1.1.toNat default).End).Peer,IntKind.i64.wrap (1+x3.1),IntKind.i64.wrap (1+(IntKind.i64.wrap (x4.1*x5.1))),IntKind.i64.wrap (1+x6.1),IntKind.i64.wrap (1+x7.1),x8.1,x9.1,(⟨0,(⟨0,0,0,0⟩:Qw8)⟩:Qw9),x25.1⟩:Qxd),(⟨a0.b,x26.2.p⟩:Qw6)))
| .inr (.inl d28) =>
 some ((⟨d28.1,d28.2.1,d28.2.2.1,d28.2.2.2.1,d28.2.2.2.2.1,d28.2.2.2.2.2.1,d28.2.2.2.2.2.2.1,d28.2.2.2.2.2.2.2.1,(⟨d28.2.2.2.2.2.2.2.2.1,(⟨d28.2.2.2.2.2.2.2.2.2.1,d28.2.2.2.2.2.2.2.2.2.2.1,d28.2.2.2.2.2.2.2.2.2.2.2.1,d28.2.2.2.2.2.2.2.2.2.2.2.2.1⟩:Qw8)⟩:Qw9),d28.2.2.2.2.2.2.2.2.2.2.2.2.2.1⟩:Qxd),(⟨a0.b,d28.2.2.2.2.2.2.2.2.2.2.2.2.2.2⟩:Qw6))
| .inr (.inr d29) =>
 some ((⟨d29.1,d29.2.1,d29.2.2.1,d29.2.2.2.1,d29.2.2.2.2.1,d29.2.2.2.2.2.1,d29.2.2.2.2.2.2.1,d29.2.2.2.2.2.2.2.1,(⟨1,(⟨d29.2.2.2.2.2.2.2.2.1,d29.2.2.2.2.2.2.2.2.2.1,d29.2.2.2.2.2.2.2.2.2.2.1,d29.2.2.2.2.2.2.2.2.2.2.2.1⟩:Qw8)⟩:Qw9),d29.2.2.2.2.2.2.2.2.2.2.2.2.1⟩:Qxd),(⟨a0.b,d29.2.2.2.2.2.2.2.2.2.2.2.2.2⟩:Qw6)))
theorem QiV {a0:Qw6} {a1:Qxe} {r:Qxd × Qw6} (h:Qbj a0 a1=some r):EffC Tryz.prog 71 [.ref 9000 0 0,.agg [.d (slD Qxc.enc a1.Sides),.d (slD Qxd.enc a1.Radio)]] [(9000,.box 75 [.d (slD QL a0.b),dI a0.p])] (.agg (hwC r.1)) [(9000,.box 75 [.d (slD QL a0.b),dI r.2.p])]:=by
  refine QS tOk (fn:=Tryz.f71) (c:=Ql Tryz.f71) rfl rfl ?_;unfold Qbj at h;(conv=>whnf);obtain ⟨x1,hx1,h⟩:=Qa h;refine cE [(9000,9000)] 0 (Qg hx1) ?_;(conv=>whnf);refine gdI h (fun h=>?_);(conv=>whnf);obtain ⟨x3,hx3,h⟩:=Qa h;obtain ⟨x4,hx4,h⟩:=Qa h;obtain ⟨x5,hx5,h⟩:=Qa h;obtain ⟨x6,hx6,h⟩:=Qa h;obtain ⟨x7,hx7,h⟩:=Qa h;obtain ⟨x8,hx8,h⟩:=Qa h;obtain ⟨x9,hx9,h⟩:=Qa h;refine QaS tOk [.e 5 [(9000,.box 75 [.d (slD QL a0.b),dI x1.2.p])] (dI x3.1) [] [(9000,.box 75 [.d (slD QL a0.b),dI x3.2.p])],.e 8 [(9000,.box 75 [.d (slD QL a0.b),dI x3.2.p])] (dI x4.1) [] [(9000,.box 75 [.d (slD QL a0.b),dI x4.2.p])],.e 10 [(9000,.box 75 [.d (slD QL a0.b),dI x4.2.p])] (dI x5.1) [] [(9000,.box 75 [.d (slD QL a0.b),dI x5.2.p])],.e 14 [(9000,.box 75 [.d (slD QL a0.b),dI x5.2.p])] (dI x6.1) [] [(9000,.box 75 [.d (slD QL a0.b),dI x6.2.p])],.e 17 [(9000,.box 75 [.d (slD QL a0.b),dI x6.2.p])] (dI x7.1) [] [(9000,.box 75 [.d (slD QL a0.b),dI x7.2.p])],.e 20 [(9000,.box 75 [.d (slD QL a0.b),dI x7.2.p])] (dI x8.1) [] [(9000,.box 75 [.d (slD QL a0.b),dI x8.2.p])],.e 22 [(9000,.box 75 [.d (slD QL a0.b),dI x8.2.p])] (dI x9.1) [] [(9000,.box 75 [.d (slD QL a0.b),dI x9.2.p])]] 25 [] [0,1,0,4,0,16,48,0,176,0,944,1968,4016,0,10160,26544,0,92080,223152,0,747440,0,3893168,8388607,0] [33554431] [9000] ?_;(conv=>whnf);refine And.intro (eD [(9000,9000)] 0 (Qg hx3)) ?_;(conv=>whnf);refine And.intro (eD [(9000,9000)] 0 (Qg hx4)) ?_;(conv=>whnf);refine And.intro (eD [(9000,9000)] 0 (Qg hx5)) ?_;(conv=>whnf);refine And.intro (eD [(9000,9000)] 0 (Qg hx6)) ?_;(conv=>whnf);refine And.intro (eD [(9000,9000)] 0 (Qg hx7)) ?_;(conv=>whnf);refine And.intro (eD [(9000,9000)] 0 (Qg hx8)) ?_;(conv=>whnf);refine And.intro (eD [(9000,9000)] 0 (Qg hx9)) ?_;(conv=>whnf);refine And.intro (by kernel_rfl) ?_;(conv=>whnf);obtain ⟨x10,hx10,h⟩:=Qa h;refine JP tOk (fun s11=>⟨0,104,[(0,.ref 9000 0 0),(4,.ref 4 0 0),(7,.ref 7 0 0)],[],[(7,.box 42 [dI (((a1.Sides.getD x1.1.toNat default).End).Name),dI (((a1.Sides.getD x1.1.toNat default).End).Peer),dI (IntKind.i64.wrap (1+x3.1)),dI (IntKind.i64.wrap (1+(IntKind.i64.wrap (x4.1*x5.1)))),dI (IntKind.i64.wrap (1+x6.1)),dI (IntKind.i64.wrap (1+x7.1)),dI x8.1,dI x9.1,dI 0,dI 0,dI 0,dI 0,dI 0,dI 0]),(4,.box 42 [dI 0,dI 0,dI 0,dI 0,dI 0,dI 0,dI 0,dI 0,dI 0,dI 0,dI 0,dI 0,dI 0,dI 0]),(9000,.box 75 [.d (slD QL a0.b),dI s11])],[⟨[(0,.ref 9000 0 0)],[]⟩]⟩) (fun s11=>x10=.inl s11) ?_ ?_
  · (conv=>whnf);refine spI hx10 (fun hb13 hx10=>?_) (fun hb13 hx10=>?_)
    · obtain ⟨x14,hx14,hx10⟩:=Qa hx10;refine QnR [(9000,9000)] 0 (Qg hx14) (by (conv=>whnf); exact fun q=>absurd (q.symm.trans hb13) (by decide)) ?_;(conv=>whnf);refine QA hx10 (fun _ hx10=>?_) (fun _ hx10=>?_)
      · (conv=>whnf);obtain ⟨x15,hx15,hx10⟩:=Qa hx10;obtain ⟨g16,hx10⟩:=Qi hx10;refine QaS tOk [.e 6 [(9000,.box 75 [.d (slD QL a0.b),dI x14.2.p])] (dI x15.1) [] [(9000,.box 75 [.d (slD QL a0.b),dI x15.2.p])]] 9 [] [0,1,0,0,8,24,60,127,255] [511] [9000] ?_;(conv=>whnf);refine And.intro (eD [(9000,9000)] 0 (Qg hx15)) ?_;(conv=>whnf);refine And.intro g16 ?_;clear g16;(conv=>whnf);refine And.intro (by kernel_rfl) ?_;(conv=>whnf);refine Qc tOk ?_;(conv=>whnf);obtain ⟨x17,hx17,hx10⟩:=Qa hx10;refine cE [(9000,9000)] 0 (Qg hx17) ?_;(conv=>whnf);refine QA hx10 (fun _ hx10=>?_) (fun _ hx10=>?_)
        · (conv=>whnf);obtain ⟨x18,hx18,hx10⟩:=Qa hx10;refine QaS tOk [.e 4 [(9000,.box 75 [.d (slD QL a0.b),dI x17.2.p])] (dI x18.1) [] [(9000,.box 75 [.d (slD QL a0.b),dI x18.2.p])]] 7 [] [0,1,3,0,8,31,63] [127] [9000] ?_;(conv=>whnf);refine And.intro (eD [(9000,9000)] 0 (Qg hx18)) ?_;(conv=>whnf);refine And.intro (by kernel_rfl) ?_;(conv=>whnf);obtain rfl:=sj_ hx10;obtain rfl:=sj_ h;exact lfE []
        · (conv=>whnf);refine QA hx10 (fun _ hx10=>?_) (fun _ hx10=>?_)
          · (conv=>whnf);obtain rfl:=sj_ hx10;obtain rfl:=sj_ h;exact lfE []
          · (conv=>whnf);refine QA hx10 (fun _ hx10=>?_) (fun _ hx10=>?_)
            · (conv=>whnf);obtain rfl:=sj_ hx10;obtain rfl:=sj_ h;exact lfE []
            · (conv=>whnf);obtain ⟨x19,hx19,hx10⟩:=Qa hx10;refine cE [(9000,9000)] 0 (QdW hx19) ?_;(conv=>whnf);obtain rfl:=sj_ hx10;obtain rfl:=sj_ h;exact lfE []
      · (conv=>whnf);obtain rfl:=sj_ hx10;exact ⟨_,rfl,leX []⟩
    · refine QlH (dI 0) ?_ (by (conv=>whnf); exact fun q=>absurd (hb13.symm.trans q) (by decide));(conv=>whnf);refine QA hx10 (fun _ hx10=>?_) (fun _ hx10=>?_)
      · (conv=>whnf);obtain ⟨x20,hx20,hx10⟩:=Qa hx10;obtain ⟨g21,hx10⟩:=Qi hx10;refine QaS tOk [.e 6 [(9000,.box 75 [.d (slD QL a0.b),dI x9.2.p])] (dI x20.1) [] [(9000,.box 75 [.d (slD QL a0.b),dI x20.2.p])]] 9 [] [0,1,0,0,8,24,60,127,255] [511] [9000] ?_;(conv=>whnf);refine And.intro (eD [(9000,9000)] 0 (Qg hx20)) ?_;(conv=>whnf);refine And.intro g21 ?_;clear g21;(conv=>whnf);refine And.intro (by kernel_rfl) ?_;(conv=>whnf);refine Qc tOk ?_;(conv=>whnf);obtain ⟨x22,hx22,hx10⟩:=Qa hx10;refine cE [(9000,9000)] 0 (Qg hx22) ?_;(conv=>whnf);refine QA hx10 (fun _ hx10=>?_) (fun _ hx10=>?_)
        · (conv=>whnf);obtain ⟨x23,hx23,hx10⟩:=Qa hx10;refine QaS tOk [.e 4 [(9000,.box 75 [.d (slD QL a0.b),dI x22.2.p])] (dI x23.1) [] [(9000,.box 75 [.d (slD QL a0.b),dI x23.2.p])]] 7 [] [0,1,3,0,8,31,63] [127] [9000] ?_;(conv=>whnf);refine And.intro (eD [(9000,9000)] 0 (Qg hx23)) ?_;(conv=>whnf);refine And.intro (by kernel_rfl) ?_;(conv=>whnf);obtain rfl:=sj_ hx10;obtain rfl:=sj_ h;exact lfE []
        · (conv=>whnf);refine QA hx10 (fun _ hx10=>?_) (fun _ hx10=>?_)
          · (conv=>whnf);obtain rfl:=sj_ hx10;obtain rfl:=sj_ h;exact lfE []
          · (conv=>whnf);refine QA hx10 (fun _ hx10=>?_) (fun _ hx10=>?_)
            · (conv=>whnf);obtain rfl:=sj_ hx10;obtain rfl:=sj_ h;exact lfE []
            · (conv=>whnf);obtain ⟨x24,hx24,hx10⟩:=Qa hx10;refine cE [(9000,9000)] 0 (QdW hx24) ?_;(conv=>whnf);obtain rfl:=sj_ hx10;obtain rfl:=sj_ h;exact lfE []
      · (conv=>whnf);obtain rfl:=sj_ hx10;exact ⟨_,rfl,leX []⟩
  · intro d12 hdd12;subst hdd12;(conv=>whnf);obtain ⟨x25,hx25,h⟩:=Qa h;refine cE [(9000,9000)] 0 (Qg hx25) ?_;(conv=>whnf);refine Qc tOk ?_;(conv=>whnf);obtain ⟨x26,hx26,h⟩:=Qa h;refine cE [(9000,9000)] 0 (Qg hx26) ?_;(conv=>whnf);refine QA h (fun _ h=>?_) (fun _ h=>?_)
    · (conv=>whnf);obtain ⟨x27,hx27,h⟩:=Qa h;refine cC 0 (QdZ hx27) ?_;clear hx27;(conv=>whnf);obtain rfl:=sj_ h;exact lfE []
    · (conv=>whnf);obtain rfl:=sj_ h;exact lfE []
noncomputable def Qci (a0:Qxe) (a1:Qxf):Option (Qxe) :=
 bd (Qy a1.At 0 (IntKind.i64.wrap (((a0.Radio.length:Nat):Int) - 1))) fun x1 =>
(if (!x1)=true then
 some a0
else
(if (a1.Kind == 2)=true then
 bd (Jp a0 a1.At) fun x2 =>
 some x2
else
(if (a1.Kind == 3)=true then
 gd ((0:Int)≤a1.At∧a1.At<((a0.Radio.length:Nat):Int)) <|
 bd (JQ a0 ({ (a0.Radio.getD a1.At.toNat default) with Change:=(⟨((a0.Radio.getD a1.At.toNat default).Change).Kind,(((a0.Radio.getD a1.At.toNat default).Change).Entry)⟩:Qw9) })) fun x4 =>
 some x4
else
 gd ((0:Int)≤(0:Int)∧(0:Int)≤a1.At∧a1.At≤((a0.Radio.length:Nat):Int)) <|
 gd (((0)+(a1.At.toNat))*(112+1)≤70368744177664) <|
 gd ((0:Int)≤IntKind.i64.wrap (a1.At+1)∧IntKind.i64.wrap (a1.At+1)≤((a0.Radio.length:Nat):Int)∧((a0.Radio.length:Nat):Int)≤((a0.Radio.length:Nat):Int)) <|
 gd ((((a0.Radio.take a1.At.toNat).length)+((Qdg ((a0.Radio.length:Nat):Int) (IntKind.i64.wrap (a1.At+1)))))*(112+1)≤70368744177664) <|
 some (⟨a0.Sides,((a0.Radio.take a1.At.toNat) ++ (((a0.Radio).take ((IntKind.i64.wrap (a1.At+1)).toNat+(Qdg ((a0.Radio.length:Nat):Int) (IntKind.i64.wrap (a1.At+1))))).drop ((IntKind.i64.wrap (a1.At+1)).toNat)))⟩:Qxe))))
theorem Qkz {a0:Qxe} {a1:Qxf} {r:Qxe} (h:Qci a0 a1=some r):EffC Tryz.prog 76 [.agg [.osl 9000 0 a0.Sides.length,.osl 9001 0 a0.Radio.length],.agg (dI a1.Kind :: dI a1.At :: .d (slD Qw8.enc a1.Want) :: .d (slD Qw7.enc a1.Keys) :: hwC a1.Word)] [(9000,.arr 38 23 a0.Sides.length (rows Qxc.enc a0.Sides)),(9001,.arr 42 14 a0.Radio.length (rows Qxd.enc a0.Radio))] (.agg [.d (slD Qxc.enc r.Sides),.d (slD Qxd.enc r.Radio)]) []:=by
  refine QS tOk (fn:=Tryz.f76) (c:=Ql Tryz.f76) rfl rfl ?_;unfold Qci at h;(conv=>whnf);refine Qc tOk ?_;(conv=>whnf);obtain ⟨x1,hx1,h⟩:=Qa h;refine cC 0 (QG hx1) ?_;clear hx1;(conv=>whnf);refine QA h (fun _ h=>?_) (fun _ h=>?_)
  · (conv=>whnf);obtain rfl:=sj_ h;exact lfE [.f [9000,9001]]
  · (conv=>whnf);refine Qc tOk ?_;(conv=>whnf);refine QA h (fun _ h=>?_) (fun _ h=>?_)
    · (conv=>whnf);obtain ⟨x2,hx2,h⟩:=Qa h;refine QdY [9001] ?_;(conv=>whnf);refine cE [(9000,9000)] 1000 (Qd1 hx2) ?_;(conv=>whnf);obtain rfl:=sj_ h;exact lfE [.f [6001,6002]]
    · (conv=>whnf);refine QA h (fun _ h=>?_) (fun _ h=>?_)
      · (conv=>whnf);obtain ⟨g3,h⟩:=Qi h;obtain ⟨x4,hx4,h⟩:=Qa h;refine Qq6 [9000] ?_;(conv=>whnf);refine QaS tOk [.l 5 [(9001,.arr 42 14 a0.Radio.length (rows Qxd.enc a0.Radio))] (.ref 9001 a1.At.toNat 0),.l 6 [(9001,.arr 42 14 a0.Radio.length (rows Qxd.enc a0.Radio))] (.agg (hwC (a0.Radio.getD a1.At.toNat default))),.e 7 [(9001,.arr 42 14 a0.Radio.length (rows Qxd.enc a0.Radio))] (.agg [.d (slD Qxc.enc x4.Sides),.osl 6001 0 x4.Radio.length]) [(6001,.arr 42 14 x4.Radio.length (rows Qxd.enc x4.Radio))] []] 8 [] [0,0,2,0,8,30,62,127] [255] [9001] ?_;(conv=>whnf);refine And.intro (by (conv=>whnf); exact ⟨g3,rfl,rfl⟩) ?_;(conv=>whnf);refine And.intro (by (conv=>whnf); exact ⟨rfl,rfl⟩) ?_;(conv=>whnf);refine And.intro (eD [(9000,9001)] 1000 (QeY hx4)) ?_;(conv=>whnf);refine And.intro (by kernel_rfl) ?_;(conv=>whnf);obtain rfl:=sj_ h;exact lfE [.f [6001]]
      · (conv=>whnf);obtain ⟨g5,h⟩:=Qi h;obtain ⟨g6,h⟩:=Qi h;obtain ⟨g7,h⟩:=Qi h;refine QV tOk [] 13 [] [0,0,2,0,8,30,63,0,128,0,512,1536,3968] [8191,16383,32767] ?_;(conv=>whnf);refine And.intro g5 ?_;(conv=>whnf);refine And.intro g6 ?_;clear g6;refine QuJ (enc:=Qxd.enc) (ys:=a0.Radio.take a1.At.toNat) ?_;(conv=>whnf);refine And.intro g7 ?_;(conv=>whnf);refine And.intro (by kernel_rfl) ?_;(conv=>whnf);refine gdI h (fun h=>?_);refine Qjq (enc:=Qxd.enc) (xs:=(a0.Radio.take a1.At.toNat)) (ys:=((a0.Radio).take ((IntKind.i64.wrap (a1.At+1)).toNat+(Qdg ((a0.Radio.length:Nat):Int) (IntKind.i64.wrap (a1.At+1))))).drop ((IntKind.i64.wrap (a1.At+1)).toNat)) ?_;(conv=>whnf);obtain rfl:=sj_ h;exact lfE [.f [38,9000]]
noncomputable def QbM (a0:Qxe) (a1:Qxd):Option (Qxe) :=
 bd (Jo a1) fun x1 =>
 gd ((!x1)=false→((0:Int)≤0∧0<((a0.Sides.length:Nat):Int))) <|
 bd (gcall ((!x1)=false) (ZO (((a0.Sides.getD 0 default).End).Keys) a1)) fun x3 =>
 gd (((!x1) || x3)=false→((0:Int)≤1∧1<((a0.Sides.length:Nat):Int))) <|
 bd (gcall (((!x1) || x3)=false) (ZO (((a0.Sides.getD 1 default).End).Keys) a1)) fun x5 =>
(if (((!x1) || x3) || x5)=true then
 some a0
else
 bd (JQ a0 a1) fun x6 =>
 some x6)
theorem Qjw {a0:Qxe} {a1:Qxd} {r:Qxe} (h:QbM a0 a1=some r):EffC Tryz.prog 77 [.agg [.d (slD Qxc.enc a0.Sides),.osl 9000 0 a0.Radio.length],.agg (hwC a1)] [(9000,.arr 42 14 a0.Radio.length (rows Qxd.enc a0.Radio))] (.agg [.d (slD Qxc.enc r.Sides),.d (slD Qxd.enc r.Radio)]) []:=by
  refine QS tOk (fn:=Tryz.f77) (c:=Ql Tryz.f77) rfl rfl ?_;unfold QbM at h;(conv=>whnf);refine Qc tOk ?_;(conv=>whnf);obtain ⟨x1,hx1,h⟩:=Qa h;obtain ⟨g2,h⟩:=Qi h;obtain ⟨x3,hx3,h⟩:=Qa h;obtain ⟨g4,h⟩:=Qi h;obtain ⟨x5,hx5,h⟩:=Qa h;refine QV tOk [.u 1 0 (dB x1) [],.u 11 0 (dB x3) [],.u 21 0 (dB x5) []] 23 [] [0,1,3,7,15,31,63,127,255,511,15,2047,4095,8191,16383,32767,65535,131071,262143,524287,16383,2097151,4194303] [] ?_;(conv=>whnf);refine And.intro (QJ (QcG hx1) (by kernel_rfl)) ?_;(conv=>whnf);refine And.intro g2 ?_;clear g2;(conv=>whnf);refine And.intro (Zc rfl rfl rfl rfl (by intro c0; exact QaY (Qf hx3 c0))) ?_;(conv=>whnf);refine And.intro g4 ?_;clear g4;(conv=>whnf);refine And.intro (Zc rfl rfl rfl rfl (by intro c0; exact QaY (Qf hx5 c0))) ?_;(conv=>whnf);refine And.intro (by kernel_rfl) ?_;(conv=>whnf);refine QA h (fun _ h=>?_) (fun _ h=>?_)
  · (conv=>whnf);obtain rfl:=sj_ h;exact lfE [.f [9000]]
  · (conv=>whnf);obtain ⟨x6,hx6,h⟩:=Qa h;refine cE [(9000,9000)] 1000 (QeY hx6) ?_;(conv=>whnf);obtain rfl:=sj_ h;exact lfE [.f [6001]]
noncomputable def Qdh (a0:Qxe) (a1:Qxf):Option (Qxe) :=
 bd (α:=Bool) ((if (a1.Kind == 2)=true then
 some (a1.Kind == 2)
else
(if (a1.Kind == 3)=true then
 some (a1.Kind == 3)
else
 some (a1.Kind == 4)))) fun x1 =>
(if x1=true then
 bd (Qci a0 a1) fun x4 =>
 some x4
else
(if (a1.Kind == 10)=true then
 bd (QbM a0 a1.Word) fun x5 =>
 some x5
else
 bd (Qbu a0 a1) fun x6 =>
 some x6))
theorem QmI {a0:Qxe} {a1:Qxf} {r:Qxe} (h:Qdh a0 a1=some r):EffC Tryz.prog 39 [.agg [.osl 9000 0 a0.Sides.length,.osl 9001 0 a0.Radio.length],.agg (dI a1.Kind :: dI a1.At :: .d (slD Qw8.enc a1.Want) :: .d (slD Qw7.enc a1.Keys) :: hwC a1.Word)] [(9000,.arr 38 23 a0.Sides.length (rows Qxc.enc a0.Sides)),(9001,.arr 42 14 a0.Radio.length (rows Qxd.enc a0.Radio))] (.agg [.d (slD Qxc.enc r.Sides),.d (slD Qxd.enc r.Radio)]) []:=by
  refine QS tOk (fn:=Tryz.f39) (c:=Ql Tryz.f39) rfl rfl ?_;unfold Qdh at h;(conv=>whnf);refine Qc tOk ?_;(conv=>whnf);obtain ⟨x1,hx1,h⟩:=Qa h;refine JP tOk (fun s2=>⟨0,23,[(2,.ref 2 0 0),(3,.ref 3 0 0),(4,.ref 4 0 0),(6,dI a1.Kind),(7,dB s2)],[],[(4,.box 26 [.d (.nil),.d (.nil)]),(3,.box 44 (dI a1.Kind :: dI a1.At :: .d (slD Qw8.enc a1.Want) :: .d (slD Qw7.enc a1.Keys) :: hwC a1.Word)),(2,.box 26 [.osl 9000 0 a0.Sides.length,.osl 9001 0 a0.Radio.length]),(9000,.arr 38 23 a0.Sides.length (rows Qxc.enc a0.Sides)),(9001,.arr 42 14 a0.Radio.length (rows Qxd.enc a0.Radio))],[⟨[],[]⟩]⟩) (fun s2=>x1=s2) ?_ ?_
  · (conv=>whnf);refine QA hx1 (fun _ hx1=>?_) (fun _ hx1=>?_)
    · (conv=>whnf);obtain rfl:=sj_ hx1;exact ⟨_,rfl,leX []⟩
    · (conv=>whnf);refine QA hx1 (fun _ hx1=>?_) (fun _ hx1=>?_)
      · (conv=>whnf);obtain rfl:=sj_ hx1;exact ⟨_,rfl,leX []⟩
      · (conv=>whnf);obtain rfl:=sj_ hx1;exact ⟨_,rfl,leX []⟩
  · rintro _ rfl;(conv=>whnf);refine QA h (fun _ h=>?_) (fun _ h=>?_)
    · (conv=>whnf);obtain ⟨x4,hx4,h⟩:=Qa h;refine cE [(9000,9000),(9001,9001)] 0 (Qkz hx4) ?_;(conv=>whnf);obtain rfl:=sj_ h;exact lfE []
    · (conv=>whnf);refine QA h (fun _ h=>?_) (fun _ h=>?_)
      · (conv=>whnf);obtain ⟨x5,hx5,h⟩:=Qa h;refine QdY [9000] ?_;(conv=>whnf);refine cE [(9000,9001)] 0 (Qjw hx5) ?_;(conv=>whnf);obtain rfl:=sj_ h;exact lfE []
      · (conv=>whnf);obtain ⟨x6,hx6,h⟩:=Qa h;refine cE [(9000,9000),(9001,9001)] 0 (Qky hx6) ?_;(conv=>whnf);obtain rfl:=sj_ h;exact lfE []
noncomputable def Qbk (a0:Qxe) (a1:Qxf):Option (Qxe) :=
 bd (Z8 a0) fun x1 =>
(if (!x1)=true then
 some (⟨[],[]⟩:Qxe)
else
 bd (Qai a0) fun x2 =>
 bd (Qdh x2 a1) fun x3 =>
 bd (Qai x3) fun x4 =>
 some x4)
theorem QiW {a0:Qxe} {a1:Qxf} {r:Qxe} (h:Qbk a0 a1=some r):EffC Tryz.prog 16 [.agg [.d (slD Qxc.enc a0.Sides),.d (slD Qxd.enc a0.Radio)],.agg (dI a1.Kind :: dI a1.At :: .d (slD Qw8.enc a1.Want) :: .d (slD Qw7.enc a1.Keys) :: hwC a1.Word)] [] (.agg [.osl 5001 0 r.Sides.length,.osl 5002 0 r.Radio.length]) [(5001,.arr 38 23 r.Sides.length (rows Qxc.enc r.Sides)),(5002,.arr 42 14 r.Radio.length (rows Qxd.enc r.Radio))]:=by
  refine QS tOk (fn:=Tryz.f16) (c:=Ql Tryz.f16) rfl rfl ?_;unfold Qbk at h;(conv=>whnf);refine Qc tOk ?_;(conv=>whnf);obtain ⟨x1,hx1,h⟩:=Qa h;refine cC 0 (Qcw hx1) ?_;clear hx1;(conv=>whnf);refine QA h (fun _ h=>?_) (fun _ h=>?_)
  · (conv=>whnf);obtain rfl:=sj_ h;exact lfE [.k [2,3],.p 5001 38 23 (rows Qxc.enc ([]:List Qxc)),.p 5002 42 14 (rows Qxd.enc ([]:List Qxd))]
  · (conv=>whnf);obtain ⟨x2,hx2,h⟩:=Qa h;obtain ⟨x3,hx3,h⟩:=Qa h;obtain ⟨x4,hx4,h⟩:=Qa h;refine QaS tOk [.e 1 [] (.agg [.osl 6001 0 x2.Sides.length,.osl 6002 0 x2.Radio.length]) [] [(6001,.arr 38 23 x2.Sides.length (rows Qxc.enc x2.Sides)),(6002,.arr 42 14 x2.Radio.length (rows Qxd.enc x2.Radio))],.e 3 [(6001,.arr 38 23 x2.Sides.length (rows Qxc.enc x2.Sides)),(6002,.arr 42 14 x2.Radio.length (rows Qxd.enc x2.Radio))] (.agg [.d (slD Qxc.enc x3.Sides),.d (slD Qxd.enc x3.Radio)]) [] [],.e 4 [] (.agg [.osl 7001 0 x4.Sides.length,.osl 7002 0 x4.Radio.length]) [(7001,.arr 38 23 x4.Sides.length (rows Qxc.enc x4.Sides)),(7002,.arr 42 14 x4.Radio.length (rows Qxd.enc x4.Radio))] []] 5 [] [0,1,0,7,15] [31] [] ?_;(conv=>whnf);refine And.intro (eH [] 1000 (Qeu hx2)) ?_;(conv=>whnf);refine And.intro (eD [(9000,6001),(9001,6002)] 0 (QmI hx3)) ?_;(conv=>whnf);refine And.intro (eD [] 2000 (Qeu hx4)) ?_;(conv=>whnf);refine And.intro (by kernel_rfl) ?_;(conv=>whnf);obtain rfl:=sj_ h;exact lfE [.s [(5001,7001),(5002,7002),(7001,5001),(7002,5002)]]
noncomputable def Jb (a0:Qw6) (a1:Qxe):Option (Qxf × Qw6) :=
 bd (Qd a0 2) fun x1 =>
 bd (α:=Int × Int) ((if (decide (((a1.Radio.length:Nat):Int) > 0))=true then
 bd (Qd (⟨a0.b,x1.2.p⟩:Qw6) 3) fun x6 =>
(if ((decide (((a1.Radio.length:Nat):Int) > 0)) && (x6.1 == 0))=true then
 bd (Qd (⟨a0.b,x6.2.p⟩:Qw6) ((a1.Radio.length:Nat):Int)) fun x7 =>
 some (x7.2.p,x7.1)
else
 some (x6.2.p,0))
else
(if ((decide (((a1.Radio.length:Nat):Int) > 0)) && ((0:Int) == 0))=true then
 bd (Qd (⟨a0.b,x1.2.p⟩:Qw6) ((a1.Radio.length:Nat):Int)) fun x8 =>
 some (x8.2.p,x8.1)
else
 some (x1.2.p,0)))) fun x2 =>
 bd (Qd (⟨a0.b,x2.1⟩:Qw6) 22) fun x9 =>
 bd (α:=Bool) ((if (x9.1 == 0)=true then
 some (x9.1 == 0)
else
(if (x9.1 == 1)=true then
 some (x9.1 == 1)
else
(if (x9.1 == 2)=true then
 some (x9.1 == 2)
else
(if (x9.1 == 3)=true then
 some (x9.1 == 3)
else
(if (x9.1 == 4)=true then
 some (x9.1 == 4)
else
 some (x9.1 == 5))))))) fun x10 =>
(if x10=true then
 some ((⟨1,x1.1,[],[],(⟨0,0,0,0,0,0,0,0,(⟨0,(⟨0,0,0,0⟩:Qw8)⟩:Qw9),0⟩:Qxd)⟩:Qxf),(⟨a0.b,x9.2.p⟩:Qw6))
else
 bd (α:=Bool) ((if (x9.1 == 6)=true then
 some (x9.1 == 6)
else
(if (x9.1 == 7)=true then
 some (x9.1 == 7)
else
(if (x9.1 == 8)=true then
 some (x9.1 == 8)
else
(if (x9.1 == 9)=true then
 some (x9.1 == 9)
else
(if (x9.1 == 10)=true then
 some (x9.1 == 10)
else
(if (x9.1 == 11)=true then
 some (x9.1 == 11)
else
(if (x9.1 == 12)=true then
 some (x9.1 == 12)
else
 some (x9.1 == 13))))))))) fun x13 =>
(if x13=true then
 some ((⟨2,x2.2,[],[],(⟨0,0,0,0,0,0,0,0,(⟨0,(⟨0,0,0,0⟩:Qw8)⟩:Qw9),0⟩:Qxd)⟩:Qxf),(⟨a0.b,x9.2.p⟩:Qw6))
else
(if (x9.1 == 14)=true then
 some ((⟨3,x2.2,[],[],(⟨0,0,0,0,0,0,0,0,(⟨0,(⟨0,0,0,0⟩:Qw8)⟩:Qw9),0⟩:Qxd)⟩:Qxf),(⟨a0.b,x9.2.p⟩:Qw6))
else
(if (x9.1 == 15)=true then
 some ((⟨4,x2.2,[],[],(⟨0,0,0,0,0,0,0,0,(⟨0,(⟨0,0,0,0⟩:Qw8)⟩:Qw9),0⟩:Qxd)⟩:Qxf),(⟨a0.b,x9.2.p⟩:Qw6))
else
(if (x9.1 == 16)=true then
 some ((⟨5,x1.1,[],[],(⟨0,0,0,0,0,0,0,0,(⟨0,(⟨0,0,0,0⟩:Qw8)⟩:Qw9),0⟩:Qxd)⟩:Qxf),(⟨a0.b,x9.2.p⟩:Qw6))
else
(if (x9.1 == 17)=true then
 bd (Qd (⟨a0.b,x9.2.p⟩:Qw6) 3) fun x16 =>
(if (x16.1 == 0)=true then
 some ((⟨6,x1.1,[],[],(⟨0,0,0,0,0,0,0,0,(⟨0,(⟨0,0,0,0⟩:Qw8)⟩:Qw9),0⟩:Qxd)⟩:Qxf),(⟨a0.b,x16.2.p⟩:Qw6))
else
 some ((⟨5,x1.1,[],[],(⟨0,0,0,0,0,0,0,0,(⟨0,(⟨0,0,0,0⟩:Qw8)⟩:Qw9),0⟩:Qxd)⟩:Qxf),(⟨a0.b,x16.2.p⟩:Qw6)))
else
(if (x9.1 == 18)=true then
 some ((⟨7,x1.1,[],[],(⟨0,0,0,0,0,0,0,0,(⟨0,(⟨0,0,0,0⟩:Qw8)⟩:Qw9),0⟩:Qxd)⟩:Qxf),(⟨a0.b,x9.2.p⟩:Qw6))
else
(if (x9.1 == 19)=true then
 bd (Qan (⟨a0.b,x9.2.p⟩:Qw6)) fun x17 =>
 some ((⟨8,x1.1,x17.1,[],(⟨0,0,0,0,0,0,0,0,(⟨0,(⟨0,0,0,0⟩:Qw8)⟩:Qw9),0⟩:Qxd)⟩:Qxf),(⟨a0.b,x17.2.p⟩:Qw6))
else
(if (x9.1 == 20)=true then
 bd (Qd (⟨a0.b,x9.2.p⟩:Qw6) 3) fun x18 =>
(if (x18.1 == 0)=true then
 bd (Qbq (⟨a0.b,x18.2.p⟩:Qw6)) fun x19 =>
 some ((⟨9,x1.1,[],x19.1,(⟨0,0,0,0,0,0,0,0,(⟨0,(⟨0,0,0,0⟩:Qw8)⟩:Qw9),0⟩:Qxd)⟩:Qxf),(⟨a0.b,x19.2.p⟩:Qw6))
else
 some ((⟨7,x1.1,[],[],(⟨0,0,0,0,0,0,0,0,(⟨0,(⟨0,0,0,0⟩:Qw8)⟩:Qw9),0⟩:Qxd)⟩:Qxf),(⟨a0.b,x18.2.p⟩:Qw6)))
else
 bd (Qbj (⟨a0.b,x9.2.p⟩:Qw6) a1) fun x20 =>
 some ((⟨10,0,[],[],x20.1⟩:Qxf),(⟨a0.b,x20.2.p⟩:Qw6)))))))))))
theorem QeB {a0:Qw6} {a1:Qxe} {r:Qxf × Qw6} (h:Jb a0 a1=some r):EffC Tryz.prog 35 [.ref 9000 0 0,.agg [.d (slD Qxc.enc a1.Sides),.d (slD Qxd.enc a1.Radio)]] [(9000,.box 75 [.d (slD QL a0.b),dI a0.p])] (.agg (dI r.1.Kind :: dI r.1.At :: .d (slD Qw8.enc r.1.Want) :: .d (slD Qw7.enc r.1.Keys) :: hwC r.1.Word)) [(9000,.box 75 [.d (slD QL a0.b),dI r.2.p])]:=by
  refine QS tOk (fn:=Tryz.f35) (c:=Ql Tryz.f35) rfl rfl ?_;unfold Jb at h;(conv=>whnf);obtain ⟨x1,hx1,h⟩:=Qa h;refine cE [(9000,9000)] 0 (Qg hx1) ?_;(conv=>whnf);obtain ⟨x2,hx2,h⟩:=Qa h;refine JP tOk (fun s3=>⟨0,91,[(0,.ref 9000 0 0),(3,.ref 3 0 0),(4,.ref 4 0 0),(5,dI x1.1),(6,dI s3.2)],[],[(4,.box 44 [dI 0,dI 0,.d (.nil),.d (.nil),dI 0,dI 0,dI 0,dI 0,dI 0,dI 0,dI 0,dI 0,dI 0,dI 0,dI 0,dI 0,dI 0,dI 0]),(3,.box 26 [.d (slD Qxc.enc a1.Sides),.d (slD Qxd.enc a1.Radio)]),(9000,.box 75 [.d (slD QL a0.b),dI s3.1])],[⟨[(0,.ref 9000 0 0)],[]⟩]⟩) (fun s3=>x2=s3) ?_ ?_
  · (conv=>whnf);refine spI hx2 (fun hb5 hx2=>?_) (fun hb5 hx2=>?_)
    · obtain ⟨x6,hx6,hx2⟩:=Qa hx2;refine QnR [(9000,9000)] 0 (Qg hx6) (by (conv=>whnf); exact fun q=>absurd (q.symm.trans hb5) (by decide)) ?_;(conv=>whnf);refine QA hx2 (fun _ hx2=>?_) (fun _ hx2=>?_)
      · (conv=>whnf);obtain ⟨x7,hx7,hx2⟩:=Qa hx2;refine cE [(9000,9000)] 0 (Qg hx7) ?_;(conv=>whnf);obtain rfl:=sj_ hx2;exact ⟨_,rfl,leX []⟩
      · (conv=>whnf);obtain rfl:=sj_ hx2;exact ⟨_,rfl,leX []⟩
    · refine QlH (dI 0) ?_ (by (conv=>whnf); exact fun q=>absurd (hb5.symm.trans q) (by decide));(conv=>whnf);refine QA hx2 (fun _ hx2=>?_) (fun _ hx2=>?_)
      · (conv=>whnf);obtain ⟨x8,hx8,hx2⟩:=Qa hx2;refine cE [(9000,9000)] 0 (Qg hx8) ?_;(conv=>whnf);obtain rfl:=sj_ hx2;exact ⟨_,rfl,leX []⟩
      · (conv=>whnf);obtain rfl:=sj_ hx2;exact ⟨_,rfl,leX []⟩
  · rintro _ rfl;(conv=>whnf);refine Qc tOk ?_;(conv=>whnf);obtain ⟨x9,hx9,h⟩:=Qa h;refine cE [(9000,9000)] 0 (Qg hx9) ?_;(conv=>whnf);obtain ⟨x10,hx10,h⟩:=Qa h;refine JP tOk (fun s11=>⟨0,91,[(0,.ref 9000 0 0),(3,.ref 3 0 0),(4,.ref 4 0 0),(5,dI x1.1),(6,dI x2.2),(24,dI x9.1),(25,dB s11)],[],[(4,.box 44 [dI 0,dI 0,.d (.nil),.d (.nil),dI 0,dI 0,dI 0,dI 0,dI 0,dI 0,dI 0,dI 0,dI 0,dI 0,dI 0,dI 0,dI 0,dI 0]),(3,.box 26 [.d (slD Qxc.enc a1.Sides),.d (slD Qxd.enc a1.Radio)]),(9000,.box 75 [.d (slD QL a0.b),dI x9.2.p])],[⟨[(0,.ref 9000 0 0)],[]⟩]⟩) (fun s11=>x10=s11) ?_ ?_
    · (conv=>whnf);refine QA hx10 (fun _ hx10=>?_) (fun _ hx10=>?_)
      · (conv=>whnf);obtain rfl:=sj_ hx10;exact ⟨_,rfl,leX []⟩
      · (conv=>whnf);refine QA hx10 (fun _ hx10=>?_) (fun _ hx10=>?_)
        · (conv=>whnf);obtain rfl:=sj_ hx10;exact ⟨_,rfl,leX []⟩
        · (conv=>whnf);refine QA hx10 (fun _ hx10=>?_) (fun _ hx10=>?_)
          · (conv=>whnf);obtain rfl:=sj_ hx10;exact ⟨_,rfl,leX []⟩
          · (conv=>whnf);refine QA hx10 (fun _ hx10=>?_) (fun _ hx10=>?_)
            · (conv=>whnf);obtain rfl:=sj_ hx10;exact ⟨_,rfl,leX []⟩
            · (conv=>whnf);refine QA hx10 (fun _ hx10=>?_) (fun _ hx10=>?_)
              · (conv=>whnf);obtain rfl:=sj_ hx10;exact ⟨_,rfl,leX []⟩
              · (conv=>whnf);obtain rfl:=sj_ hx10;exact ⟨_,rfl,leX []⟩
    · rintro _ rfl;(conv=>whnf);refine QA h (fun _ h=>?_) (fun _ h=>?_)
      · (conv=>whnf);obtain rfl:=sj_ h;exact lfE []
      · (conv=>whnf);obtain ⟨x13,hx13,h⟩:=Qa h;refine JP tOk (fun s14=>⟨0,91,[(0,.ref 9000 0 0),(3,.ref 3 0 0),(4,.ref 4 0 0),(5,dI x1.1),(6,dI x2.2),(24,dI x9.1),(34,dB s14)],[],[(4,.box 44 [dI 0,dI 0,.d (.nil),.d (.nil),dI 0,dI 0,dI 0,dI 0,dI 0,dI 0,dI 0,dI 0,dI 0,dI 0,dI 0,dI 0,dI 0,dI 0]),(3,.box 26 [.d (slD Qxc.enc a1.Sides),.d (slD Qxd.enc a1.Radio)]),(9000,.box 75 [.d (slD QL a0.b),dI x9.2.p])],[⟨[(0,.ref 9000 0 0)],[]⟩]⟩) (fun s14=>x13=s14) ?_ ?_
        · (conv=>whnf);refine QA hx13 (fun _ hx13=>?_) (fun _ hx13=>?_)
          · (conv=>whnf);obtain rfl:=sj_ hx13;exact ⟨_,rfl,leX []⟩
          · (conv=>whnf);refine QA hx13 (fun _ hx13=>?_) (fun _ hx13=>?_)
            · (conv=>whnf);obtain rfl:=sj_ hx13;exact ⟨_,rfl,leX []⟩
            · (conv=>whnf);refine QA hx13 (fun _ hx13=>?_) (fun _ hx13=>?_)
              · (conv=>whnf);obtain rfl:=sj_ hx13;exact ⟨_,rfl,leX []⟩
              · (conv=>whnf);refine QA hx13 (fun _ hx13=>?_) (fun _ hx13=>?_)
                · (conv=>whnf);obtain rfl:=sj_ hx13;exact ⟨_,rfl,leX []⟩
                · (conv=>whnf);refine QA hx13 (fun _ hx13=>?_) (fun _ hx13=>?_)
                  · (conv=>whnf);obtain rfl:=sj_ hx13;exact ⟨_,rfl,leX []⟩
                  · (conv=>whnf);refine QA hx13 (fun _ hx13=>?_) (fun _ hx13=>?_)
                    · (conv=>whnf);obtain rfl:=sj_ hx13;exact ⟨_,rfl,leX []⟩
                    · (conv=>whnf);refine QA hx13 (fun _ hx13=>?_) (fun _ hx13=>?_)
                      · (conv=>whnf);obtain rfl:=sj_ hx13;exact ⟨_,rfl,leX []⟩
                      · (conv=>whnf);obtain rfl:=sj_ hx13;exact ⟨_,rfl,leX []⟩
        · rintro _ rfl;(conv=>whnf);refine QA h (fun _ h=>?_) (fun _ h=>?_)
          · (conv=>whnf);obtain rfl:=sj_ h;exact lfE []
          · (conv=>whnf);refine QA h (fun _ h=>?_) (fun _ h=>?_)
            · (conv=>whnf);obtain rfl:=sj_ h;exact lfE []
            · (conv=>whnf);refine QA h (fun _ h=>?_) (fun _ h=>?_)
              · (conv=>whnf);obtain rfl:=sj_ h;exact lfE []
              · (conv=>whnf);refine QA h (fun _ h=>?_) (fun _ h=>?_)
                · (conv=>whnf);obtain rfl:=sj_ h;exact lfE []
                · (conv=>whnf);refine QA h (fun _ h=>?_) (fun _ h=>?_)
                  · (conv=>whnf);refine Qc tOk ?_;(conv=>whnf);obtain ⟨x16,hx16,h⟩:=Qa h;refine cE [(9000,9000)] 0 (Qg hx16) ?_;(conv=>whnf);refine QA h (fun _ h=>?_) (fun _ h=>?_)
                    · (conv=>whnf);obtain rfl:=sj_ h;exact lfE []
                    · (conv=>whnf);obtain rfl:=sj_ h;exact lfE []
                  · (conv=>whnf);refine QA h (fun _ h=>?_) (fun _ h=>?_)
                    · (conv=>whnf);obtain rfl:=sj_ h;exact lfE []
                    · (conv=>whnf);refine QA h (fun _ h=>?_) (fun _ h=>?_)
                      · (conv=>whnf);obtain ⟨x17,hx17,h⟩:=Qa h;refine cE [(9000,9000)] 1000 (QdX hx17) ?_;(conv=>whnf);obtain rfl:=sj_ h;exact lfE [.f [6001]]
                      · (conv=>whnf);refine QA h (fun _ h=>?_) (fun _ h=>?_)
                        · (conv=>whnf);refine Qc tOk ?_;(conv=>whnf);obtain ⟨x18,hx18,h⟩:=Qa h;refine cE [(9000,9000)] 0 (Qg hx18) ?_;(conv=>whnf);refine QA h (fun _ h=>?_) (fun _ h=>?_)
                          · (conv=>whnf);obtain ⟨x19,hx19,h⟩:=Qa h;refine cE [(9000,9000)] 1000 (Qgt hx19) ?_;(conv=>whnf);obtain rfl:=sj_ h;exact lfE [.f [6001]]
                          · (conv=>whnf);obtain rfl:=sj_ h;exact lfE []
                        · (conv=>whnf);obtain ⟨x20,hx20,h⟩:=Qa h;refine cE [(9000,9000)] 0 (QiV hx20) ?_;(conv=>whnf);obtain rfl:=sj_ h;exact lfE []
noncomputable def Qcj (a0:Qw6) (a1:Int):Option (Qxe × Qw6) :=
 bd (QbI a0) fun x1 =>
 bd (lp (σ:=List Qxc × List Qxd × Int × Int) (β:=(Nat × Nat × (List Qxc) × (List Qxd) × Int)) (fun s2 =>
(if (decide (s2.2.2.2 > 0))=true then
 bd (α:=List Qxc × List Qxd × Int) (bd (Qd (⟨a0.b,s2.2.2.1⟩:Qw6) 6) fun x9 =>
(if (x9.1 == 0)=true then
 bd (Qbi (⟨s2.1,s2.2.1⟩:Qxe) 1) fun x10 =>
 some (x10.Sides,x10.Radio,x9.2.p)
else
 some (s2.1,s2.2.1,x9.2.p))) fun x6 =>
 bd (Jb (⟨a0.b,x6.2.2⟩:Qw6) (⟨x6.1,x6.2.1⟩:Qxe)) fun x11 =>
 bd (Qbk (⟨x6.1,x6.2.1⟩:Qxe) x11.1) fun x12 =>
 some (.inl (x12.Sides,x12.Radio,x11.2.p,IntKind.i64.wrap (s2.2.2.2 - 1)))
else
 some (.inr (s2.1.length,s2.2.1.length,s2.1,s2.2.1,s2.2.2.1)))) (x1.1.Sides,x1.1.Radio,x1.2.p,a1)) fun x5 =>
 some ((⟨x5.2.2.1,x5.2.2.2.1⟩:Qxe),(⟨a0.b,x5.2.2.2.2⟩:Qw6))
theorem QkA {a0:Qw6} {a1:Int} {r:Qxe × Qw6} (h:Qcj a0 a1=some r):EffC Tryz.prog 23 [.ref 9000 0 0,dI a1] [(9000,.box 75 [.d (slD QL a0.b),dI a0.p])] (.agg [.osl 5001 0 r.1.Sides.length,.osl 5002 0 r.1.Radio.length]) [(9000,.box 75 [.d (slD QL a0.b),dI r.2.p]),(5001,.arr 38 23 r.1.Sides.length (rows Qxc.enc r.1.Sides)),(5002,.arr 42 14 r.1.Radio.length (rows Qxd.enc r.1.Radio))]:=by
  refine QS tOk (fn:=Tryz.f23) (c:=Ql Tryz.f23) rfl rfl ?_;unfold Qcj at h;(conv=>whnf);obtain ⟨x1,hx1,h⟩:=Qa h;refine cE [(9000,9000)] 1000 (Qjs hx1) ?_;(conv=>whnf);refine Qc tOk ?_;(conv=>whnf);obtain ⟨x5,hx5,h⟩:=Qa h;refine Zm tOk hx5 (fun s2=>⟨0,23,[(0,.ref 9000 0 0),(1,dI s2.2.2.2),(4,.ref 4 0 0),(5,.ref 5 0 0)],[],[(5,.box 26 [.osl 6001 0 s2.1.length,.osl 6002 0 s2.2.1.length]),(6001,.arr 38 23 s2.1.length (rows Qxc.enc s2.1)),(6002,.arr 42 14 s2.2.1.length (rows Qxd.enc s2.2.1)),(4,.box 26 [.d (.nil),.d (.nil)]),(9000,.box 75 [.d (slD QL a0.b),dI s2.2.2.1])],[⟨[(0,.ref 9000 0 0)],[]⟩]⟩) ?_ ?_
  · exact leX []
  · clear hx5;intro s2 y3 g4 hy3;(conv=>whnf);refine Qc tOk ?_;(conv=>whnf);refine QA g4 (fun _ g4=>?_) (fun _ g4=>?_)
    · (conv=>whnf);refine Qc tOk ?_;(conv=>whnf);obtain ⟨x6,hx6,g4⟩:=Qa g4;refine JP tOk (fun s7=>⟨0,23,[(0,.ref 9000 0 0),(1,dI s2.2.2.2),(4,.ref 4 0 0),(5,.ref 5 0 0)],[],[(6001,.arr 38 23 s7.1.length (rows Qxc.enc s7.1)),(6002,.arr 42 14 s7.2.1.length (rows Qxd.enc s7.2.1)),(5,.box 26 [.osl 6001 0 s7.1.length,.osl 6002 0 s7.2.1.length]),(4,.box 26 [.d (.nil),.d (.nil)]),(9000,.box 75 [.d (slD QL a0.b),dI s7.2.2])],[⟨[(0,.ref 9000 0 0)],[]⟩]⟩) (fun s7=>x6=s7) ?_ ?_
      · (conv=>whnf);obtain ⟨x9,hx9,hx6⟩:=Qa hx6;refine cE [(9000,9000)] 0 (Qg hx9) ?_;(conv=>whnf);refine QA hx6 (fun _ hx6=>?_) (fun _ hx6=>?_)
        · (conv=>whnf);obtain ⟨x10,hx10,hx6⟩:=Qa hx6;refine QdY [6001,6002] ?_;(conv=>whnf);refine cE [] 1000 (QiU hx10) ?_;(conv=>whnf);obtain rfl:=sj_ hx6;exact ⟨_,rfl,leX []⟩
        · (conv=>whnf);obtain rfl:=sj_ hx6;exact ⟨_,rfl,leX []⟩
      · rintro _ rfl;(conv=>whnf);obtain ⟨x11,hx11,g4⟩:=Qa g4;obtain ⟨x12,hx12,g4⟩:=Qa g4;refine Qq6 [6001,6002] ?_;(conv=>whnf);refine QaS tOk [.e 3 [(9000,.box 75 [.d (slD QL a0.b),dI x6.2.2])] (.agg (dI x11.1.Kind :: dI x11.1.At :: .d (slD Qw8.enc x11.1.Want) :: .d (slD Qw7.enc x11.1.Keys) :: hwC x11.1.Word)) [] [(9000,.box 75 [.d (slD QL a0.b),dI x11.2.p])],.e 4 [] (.agg [.osl 7001 0 x12.Sides.length,.osl 7002 0 x12.Radio.length]) [(7001,.arr 38 23 x12.Sides.length (rows Qxc.enc x12.Sides)),(7002,.arr 42 14 x12.Radio.length (rows Qxd.enc x12.Radio))] []] 5 [] [0,0,0,6,15] [31] [9000] ?_;(conv=>whnf);refine And.intro (eD [(9000,9000)] 0 (QeB hx11)) ?_;(conv=>whnf);refine And.intro (eD [] 2000 (QiW hx12)) ?_;(conv=>whnf);refine And.intro (by kernel_rfl) ?_;(conv=>whnf);obtain rfl:=sj_ g4;exact ⟨_,rfl,leX [.s [(6001,7001),(6002,7002),(7001,6001),(7002,6002)]]⟩
    · (conv=>whnf);obtain rfl:=sj_ g4;obtain rfl:=hy3 _ rfl;obtain rfl:=sj_ h;exact lfE [.s [(5001,6001),(5002,6002),(6001,5001),(6002,5002)]]
noncomputable def ZP (a0:(List Int)):Option (Qxe) :=
 bd (Qbp a0) fun x1 =>
 bd (Qd x1 60) fun x2 =>
 bd (Qcj (⟨x1.b,x2.2.p⟩:Qw6) x2.1) fun x3 =>
 some x3.1
theorem QcI {a0:(List Int)} {r:Qxe} (h:ZP a0=some r):EffC Tryz.prog 7 [.d (slD QL a0)] [] (.agg [.osl 5001 0 r.Sides.length,.osl 5002 0 r.Radio.length]) [(5001,.arr 38 23 r.Sides.length (rows Qxc.enc r.Sides)),(5002,.arr 42 14 r.Radio.length (rows Qxd.enc r.Radio))]:=by
  refine QS tOk (fn:=Tryz.f7) (c:=Ql Tryz.f7) rfl rfl ?_;unfold ZP at h;(conv=>whnf);obtain ⟨x1,hx1,h⟩:=Qa h;refine cE [] 1000 (Qkv hx1) ?_;(conv=>whnf);obtain ⟨x2,hx2,h⟩:=Qa h;refine cE [(9000,6001)] 0 (Qg hx2) ?_;(conv=>whnf);obtain ⟨x3,hx3,h⟩:=Qa h;refine cE [(9000,6001)] 2000 (QkA hx3) ?_;(conv=>whnf);obtain rfl:=sj_ h;exact lfE [.s [(5001,7001),(5002,7002),(7001,5001),(7002,5002)]]
noncomputable def Qu (a0:Int) (a1:Int) (a2:Int):Option (Bool) :=
 some ((decide (a1≤a0)) && (decide (a0≤a2)))
theorem Qx {a0:Int} {a1:Int} {a2:Int} {r:Bool} (h:Qu a0 a1 a2=some r):PureC Tryz.prog 49 [dI a0,dI a1,dI a2] (dB r) []:=by
  refine Qs tOk (fn:=Tryz.f49) (c:=Ql Tryz.f49) rfl rfl ?_;unfold Qu at h;(conv=>whnf);obtain rfl:=sj_ h;exact lfP []
noncomputable def Qq (a0:Qw8):Option (Qxg) :=
 some (⟨a0.Addr,a0.Len⟩:Qxg)
theorem Qw {a0:Qw8} {r:Qxg} (h:Qq a0=some r):PureC Tryz.prog 90 [.agg (hnC a0)] (.agg [dI r.Addr,dI r.Len]) []:=by
  refine Qs tOk (fn:=Tryz.f90) (c:=Ql Tryz.f90) rfl rfl ?_;unfold Qq at h;(conv=>whnf);obtain rfl:=sj_ h;exact lfP []
noncomputable def JS (a0:Qxg):Option (Int) :=
 gd ((0:Int)≤(IntKind.i64.wrap (16 - a0.Len))) <|
 some (IntKind.i64.wrap (1*2 ^ min (IntKind.i64.wrap (16 - a0.Len):Int).toNat IntKind.i64.bits))
theorem QfI {a0:Qxg} {r:Int} (h:JS a0=some r):PureC Tryz.prog 133 [.agg [dI a0.Addr,dI a0.Len]] (dI r) []:=by
  refine Qs tOk (fn:=Tryz.f133) (c:=Ql Tryz.f133) rfl rfl ?_;unfold JS at h;(conv=>whnf);refine gdI h (fun h=>?_);(conv=>whnf);obtain rfl:=sj_ h;exact lfP []
noncomputable def QcC (a0:Qxg):Option (Bool) :=
 bd (Qu a0.Len 0 16) fun x1 =>
 bd (gcall (x1=true) (Qu a0.Addr 0 65535)) fun x2 =>
 bd (gcall ((x1 && x2)=true) (JS a0)) fun x3 =>
 gd ((x1 && x2)=true→((x3:Int) ≠ 0)) <|
 some ((x1 && x2) && (((a0.Addr:Int).tmod x3) == 0))
theorem QiC {a0:Qxg} {r:Bool} (h:QcC a0=some r):PureC Tryz.prog 89 [.agg [dI a0.Addr,dI a0.Len]] (dB r) []:=by
  refine Qs tOk (fn:=Tryz.f89) (c:=Ql Tryz.f89) rfl rfl ?_;unfold QcC at h;(conv=>whnf);obtain ⟨x1,hx1,h⟩:=Qa h;obtain ⟨x2,hx2,h⟩:=Qa h;obtain ⟨x3,hx3,h⟩:=Qa h;obtain ⟨g4,h⟩:=Qi h;refine QV tOk [.u 2 0 (dB x1) [],.u 6 0 (dB x2) [],.u 12 0 (dI x3) []] 17 [] [0,1,3,7,15,31,63,127,255,511,1023,511,2559,8191,16383,32767,65535] [] ?_;(conv=>whnf);refine And.intro (QJ (Qx hx1) (by kernel_rfl)) ?_;(conv=>whnf);refine And.intro (Zc rfl rfl rfl rfl (by intro c0; exact Qx (Qf hx2 c0))) ?_;(conv=>whnf);refine And.intro (Zc rfl rfl rfl rfl (by intro c0; exact QfI (Qf hx3 c0))) ?_;(conv=>whnf);refine And.intro g4 ?_;clear g4;(conv=>whnf);refine And.intro (by kernel_rfl) ?_;(conv=>whnf);obtain rfl:=sj_ h;exact lfP []
noncomputable def ZW (a0:Qw8):Option (Bool) :=
 bd (Qq a0) fun x1 =>
 bd (QcC x1) fun x2 =>
 bd (gcall (x2=true) (Qu a0.Cost 1 255)) fun x3 =>
 bd (gcall ((x2 && x3)=true) (Qu a0.Label 0 1000)) fun x4 =>
 some ((x2 && x3) && x4)
theorem Qcc {a0:Qw8} {r:Bool} (h:ZW a0=some r):PureC Tryz.prog 88 [.agg (hnC a0)] (dB r) []:=by
  refine Qs tOk (fn:=Tryz.f88) (c:=Ql Tryz.f88) rfl rfl ?_;unfold ZW at h;(conv=>whnf);obtain ⟨x1,hx1,h⟩:=Qa h;refine cC 0 (Qw hx1) ?_;clear hx1;(conv=>whnf);obtain ⟨x2,hx2,h⟩:=Qa h;refine cC 0 (QiC hx2) ?_;clear hx2;(conv=>whnf);obtain ⟨x3,hx3,h⟩:=Qa h;refine cG (fun c0=>Qx (Qf hx3 c0)) ?_;(conv=>whnf);obtain ⟨x4,hx4,h⟩:=Qa h;refine cG (fun c0=>Qx (Qf hx4 c0)) ?_;(conv=>whnf);obtain rfl:=sj_ h;exact lfP []
noncomputable def Jc (a0:Qw9):Option (Bool) :=
 bd (α:=Bool) ((if (a0.Kind == 0)=true then
 some (a0.Kind == 0)
else
 some (a0.Kind == 3))) fun x1 =>
(if x1=true then
 some ((a0.Entry.Addr == 0) && ((a0.Entry.Len == 0) && ((a0.Entry.Cost == 0) && ((a0.Entry.Label == 0) && true))))
else
(if (a0.Kind == 1)=true then
 bd (ZW a0.Entry) fun x4 =>
 some x4
else
(if (a0.Kind == 2)=true then
 bd (Qq a0.Entry) fun x5 =>
 bd (QcC x5) fun x6 =>
 some ((x6 && (a0.Entry.Cost == 0)) && (a0.Entry.Label == 0))
else
 some false)))
theorem Qdi {a0:Qw9} {r:Bool} (h:Jc a0=some r):PureC Tryz.prog 52 [.agg (dI a0.Kind :: hnC a0.Entry)] (dB r) []:=by
  refine Qs tOk (fn:=Tryz.f52) (c:=Ql Tryz.f52) rfl rfl ?_;unfold Jc at h;(conv=>whnf);refine Qc tOk ?_;(conv=>whnf);obtain ⟨x1,hx1,h⟩:=Qa h;refine JP tOk (fun s2=>⟨0,35,[(1,.ref 1 0 0),(4,dI a0.Kind),(5,dB s2)],[],[(1,.box 33 (dI a0.Kind :: hnC a0.Entry))],[]⟩) (fun s2=>x1=s2) ?_ ?_
  · (conv=>whnf);refine QA hx1 (fun _ hx1=>?_) (fun _ hx1=>?_)
    · (conv=>whnf);obtain rfl:=sj_ hx1;exact ⟨_,rfl,leX []⟩
    · (conv=>whnf);obtain rfl:=sj_ hx1;exact ⟨_,rfl,leX []⟩
  · rintro _ rfl;(conv=>whnf);refine QA h (fun _ h=>?_) (fun _ h=>?_)
    · (conv=>whnf);obtain rfl:=sj_ h;exact lfP []
    · (conv=>whnf);refine QA h (fun _ h=>?_) (fun _ h=>?_)
      · (conv=>whnf);obtain ⟨x4,hx4,h⟩:=Qa h;refine cC 0 (Qcc hx4) ?_;clear hx4;(conv=>whnf);obtain rfl:=sj_ h;exact lfP []
      · (conv=>whnf);refine QA h (fun _ h=>?_) (fun _ h=>?_)
        · (conv=>whnf);obtain ⟨x5,hx5,h⟩:=Qa h;refine cC 0 (Qw hx5) ?_;clear hx5;(conv=>whnf);obtain ⟨x6,hx6,h⟩:=Qa h;refine cC 0 (QiC hx6) ?_;clear hx6;(conv=>whnf);obtain rfl:=sj_ h;exact lfP []
        · (conv=>whnf);obtain rfl:=sj_ h;exact lfP []
noncomputable def Jq (a0:Qxd):Option (Bool) :=
 bd (Qu a0.From 0 65535) fun x1 =>
 bd (gcall ((!x1)=false) (Qu a0.To 0 65535)) fun x2 =>
 bd (gcall (((!x1) || (!x2))=false) (Qu a0.Key 1 9)) fun x3 =>
(if (((!x1) || (!x2)) || (!x3))=true then
 some false
else
 bd (Qu a0.Boot 1 999) fun x4 =>
 bd (gcall ((!x4)=false) (Qu a0.Yours 0 999)) fun x5 =>
 bd (gcall (((!x4) || (!x5))=false) (Qu a0.Turn 1 1000000)) fun x6 =>
(if (((!x4) || (!x5)) || (!x6))=true then
 some false
else
 bd (Qu a0.Num 0 a0.Turn) fun x7 =>
 bd (gcall ((!x7)=false) (Qu a0.Heard 0 1000000)) fun x8 =>
 bd (gcall (((!x7) || (!x8))=false) (Qu a0.Sum 0 2147483646)) fun x9 =>
(if (((!x7) || (!x8)) || (!x9))=true then
 some false
else
 bd (Jc a0.Change) fun x10 =>
 some (x10 && ((a0.Change.Kind == 0) || (decide (a0.Num > 0)))))))
theorem QcJ {a0:Qxd} {r:Bool} (h:Jq a0=some r):PureC Tryz.prog 27 [.agg (hwC a0)] (dB r) []:=by
  refine Qs tOk (fn:=Tryz.f27) (c:=Ql Tryz.f27) rfl rfl ?_;unfold Jq at h;(conv=>whnf);refine Qc tOk ?_;(conv=>whnf);obtain ⟨x1,hx1,h⟩:=Qa h;refine cC 0 (Qx hx1) ?_;clear hx1;(conv=>whnf);obtain ⟨x2,hx2,h⟩:=Qa h;refine cG (fun c0=>Qx (Qf hx2 c0)) ?_;(conv=>whnf);obtain ⟨x3,hx3,h⟩:=Qa h;refine cG (fun c0=>Qx (Qf hx3 c0)) ?_;(conv=>whnf);refine QA h (fun _ h=>?_) (fun _ h=>?_)
  · (conv=>whnf);obtain rfl:=sj_ h;exact lfP []
  · (conv=>whnf);obtain ⟨x4,hx4,h⟩:=Qa h;refine cC 0 (Qx hx4) ?_;clear hx4;(conv=>whnf);obtain ⟨x5,hx5,h⟩:=Qa h;refine cG (fun c0=>Qx (Qf hx5 c0)) ?_;(conv=>whnf);obtain ⟨x6,hx6,h⟩:=Qa h;refine cG (fun c0=>Qx (Qf hx6 c0)) ?_;(conv=>whnf);refine QA h (fun _ h=>?_) (fun _ h=>?_)
    · (conv=>whnf);obtain rfl:=sj_ h;exact lfP []
    · (conv=>whnf);obtain ⟨x7,hx7,h⟩:=Qa h;refine cC 0 (Qx hx7) ?_;clear hx7;(conv=>whnf);obtain ⟨x8,hx8,h⟩:=Qa h;refine cG (fun c0=>Qx (Qf hx8 c0)) ?_;(conv=>whnf);obtain ⟨x9,hx9,h⟩:=Qa h;refine cG (fun c0=>Qx (Qf hx9 c0)) ?_;(conv=>whnf);refine QA h (fun _ h=>?_) (fun _ h=>?_)
      · (conv=>whnf);obtain rfl:=sj_ h;exact lfP []
      · (conv=>whnf);obtain ⟨x10,hx10,h⟩:=Qa h;refine cC 0 (Qdi hx10) ?_;clear hx10;(conv=>whnf);obtain rfl:=sj_ h;exact lfP []
noncomputable def Z2 (a0:(List Qw7)):Option (Bool) :=
 bd (lp (σ:=Int) (β:=(Unit ⊕ Unit)) (fun s1 =>
(if (decide (s1<((a0.length:Nat):Int)))=true then
 gd ((0:Int)≤s1∧s1<((a0.length:Nat):Int)) <|
 bd (Qu ((a0.getD s1.toNat default).Id) 1 9) fun x6 =>
 bd (gcall ((!x6)=false) (Qu ((a0.getD s1.toNat default).Secret) 1 2147483646)) fun x7 =>
 gd ((decide (s1 > 0))=true→(((!x6) || (!x7))=false→((0:Int)≤IntKind.i64.wrap (s1 - 1)∧IntKind.i64.wrap (s1 - 1)<((a0.length:Nat):Int)))) <|
(if (((!x6) || (!x7)) || ((decide (s1 > 0)) && (decide (((a0.getD ((IntKind.i64.wrap (s1 - 1)).toNat) default).Id) ≥ ((a0.getD s1.toNat default).Id)))))=true then
 some (.inr (.inl ()))
else
 some (.inl (IntKind.i64.wrap (s1+1))))
else
 some (.inr (.inr ())))) 0) fun x4 =>
(match x4 with
| .inl d9 =>
 some false
| .inr d10 =>
 bd (Qu ((a0.length:Nat):Int) 1 3) fun x11 =>
 some x11)
theorem QbC {a0:(List Qw7)} {r:Bool} (h:Z2 a0=some r):PureC Tryz.prog 62 [.d (slD Qw7.enc a0)] (dB r) []:=by
  refine Qs tOk (fn:=Tryz.f62) (c:=Ql Tryz.f62) rfl rfl ?_;unfold Z2 at h;(conv=>whnf);refine Qc tOk ?_;(conv=>whnf);obtain ⟨x4,hx4,h⟩:=Qa h;refine Zm tOk hx4 (fun s1=>⟨0,41,[(0,.d (slD Qw7.enc a0)),(5,.d (slD Qw7.enc a0)),(6,dI ((a0.length:Nat):Int)),(7,dI s1)],[],[],[]⟩) ?_ ?_
  · exact leX []
  · clear hx4;intro s1 y2 g3 hy2;(conv=>whnf);refine Qc tOk ?_;(conv=>whnf);refine QA g3 (fun _ g3=>?_) (fun _ g3=>?_)
    · (conv=>whnf);refine Qc tOk ?_;(conv=>whnf);refine gdI g3 (fun g3=>?_);(conv=>whnf);obtain ⟨x6,hx6,g3⟩:=Qa g3;obtain ⟨x7,hx7,g3⟩:=Qa g3;obtain ⟨g8,g3⟩:=Qi g3;refine QV tOk [.u 2 0 (dB x6) [],.u 7 0 (dB x7) []] 25 [] [0,1,3,7,15,31,63,127,255,511,1023,2047,4095,8191,16383,16383,49151,131071,262143,524287,16383,1064959,4194303,8388607,16777215] [] ?_;(conv=>whnf);refine And.intro (QJ (Qx hx6) (by kernel_rfl)) ?_;(conv=>whnf);refine And.intro (Zc rfl rfl rfl rfl (by intro c0; exact Qx (Qf hx7 c0))) ?_;(conv=>whnf);refine And.intro g8 ?_;clear g8;(conv=>whnf);refine And.intro (by kernel_rfl) ?_;(conv=>whnf);refine QA g3 (fun _ g3=>?_) (fun _ g3=>?_)
      · (conv=>whnf);obtain rfl:=sj_ g3;obtain rfl:=hy2 _ rfl;obtain rfl:=sj_ h;exact lfP []
      · (conv=>whnf);obtain rfl:=sj_ g3;exact ⟨_,rfl,leX []⟩
    · (conv=>whnf);obtain rfl:=sj_ g3;obtain rfl:=hy2 _ rfl;obtain ⟨x11,hx11,h⟩:=Qa h;refine cC 0 (Qx hx11) ?_;clear hx11;(conv=>whnf);obtain rfl:=sj_ h;exact lfP []
noncomputable def ZA (a0:Qxg) (a1:Qxg):Option (Int) :=
(if (a0.Addr != a1.Addr)=true then
 some (IntKind.i64.wrap (a0.Addr - a1.Addr))
else
 some (IntKind.i64.wrap (a0.Len - a1.Len)))
theorem QaU {a0:Qxg} {a1:Qxg} {r:Int} (h:ZA a0 a1=some r):PureC Tryz.prog 99 [.agg [dI a0.Addr,dI a0.Len],.agg [dI a1.Addr,dI a1.Len]] (dI r) []:=by
  refine Qs tOk (fn:=Tryz.f99) (c:=Ql Tryz.f99) rfl rfl ?_;unfold ZA at h;(conv=>whnf);refine Qc tOk ?_;(conv=>whnf);refine QA h (fun _ h=>?_) (fun _ h=>?_)
  · (conv=>whnf);obtain rfl:=sj_ h;exact lfP []
  · (conv=>whnf);obtain rfl:=sj_ h;exact lfP []
noncomputable def Zr (a0:(List Qw8)):Option (Bool) :=
 bd (lp (σ:=Int) (β:=(Unit ⊕ Unit)) (fun s1 =>
(if (decide (s1<((a0.length:Nat):Int)))=true then
 gd ((0:Int)≤s1∧s1<((a0.length:Nat):Int)) <|
 bd (ZW (a0.getD s1.toNat default)) fun x6 =>
 gd ((decide (s1 > 0))=true→((!x6)=false→((0:Int)≤IntKind.i64.wrap (s1 - 1)∧IntKind.i64.wrap (s1 - 1)<((a0.length:Nat):Int)))) <|
 bd (gcall ((decide (s1 > 0))=true∧(!x6)=false) (Qq (a0.getD ((IntKind.i64.wrap (s1 - 1)).toNat) default))) fun x8 =>
 bd (gcall ((decide (s1 > 0))=true∧(!x6)=false) (Qq (a0.getD s1.toNat default))) fun x9 =>
 bd (gcall ((decide (s1 > 0))=true∧(!x6)=false) (ZA x8 x9)) fun x10 =>
(if ((!x6) || ((decide (s1 > 0)) && (decide (x10 ≥ 0))))=true then
 some (.inr (.inl ()))
else
 some (.inl (IntKind.i64.wrap (s1+1))))
else
 some (.inr (.inr ())))) 0) fun x4 =>
(match x4 with
| .inl d11 =>
 some false
| .inr d12 =>
 some (decide (((a0.length:Nat):Int)≤8)))
theorem Qar {a0:(List Qw8)} {r:Bool} (h:Zr a0=some r):PureC Tryz.prog 60 [.d (slD Qw8.enc a0)] (dB r) []:=by
  refine Qs tOk (fn:=Tryz.f60) (c:=Ql Tryz.f60) rfl rfl ?_;unfold Zr at h;(conv=>whnf);refine Qc tOk ?_;(conv=>whnf);obtain ⟨x4,hx4,h⟩:=Qa h;refine Zm tOk hx4 (fun s1=>⟨0,35,[(0,.d (slD Qw8.enc a0)),(5,.d (slD Qw8.enc a0)),(6,dI ((a0.length:Nat):Int)),(7,dI s1)],[],[],[]⟩) ?_ ?_
  · exact leX []
  · clear hx4;intro s1 y2 g3 hy2;(conv=>whnf);refine Qc tOk ?_;(conv=>whnf);refine QA g3 (fun _ g3=>?_) (fun _ g3=>?_)
    · (conv=>whnf);refine Qc tOk ?_;(conv=>whnf);refine gdI g3 (fun g3=>?_);(conv=>whnf);obtain ⟨x6,hx6,g3⟩:=Qa g3;obtain ⟨g7,g3⟩:=Qi g3;obtain ⟨x8,hx8,g3⟩:=Qa g3;obtain ⟨x9,hx9,g3⟩:=Qa g3;obtain ⟨x10,hx10,g3⟩:=Qa g3;refine QV tOk [.u 1 0 (dB x6) [],.u 12 0 (.agg [dI x8.Addr,dI x8.Len]) [],.u 14 0 (.agg [dI x9.Addr,dI x9.Len]) [],.u 15 0 (dI x10) []] 19 [] [0,1,3,7,15,31,63,127,127,383,1023,2047,4095,127,16383,32767,65535,131071,262143] [] ?_;(conv=>whnf);refine And.intro (QJ (Qcc hx6) (by kernel_rfl)) ?_;(conv=>whnf);refine And.intro g7 ?_;clear g7;(conv=>whnf);refine And.intro (Zc rfl rfl rfl rfl (by intro c0 c1; exact Qw (Qf hx8 ⟨c0,c1⟩))) ?_;(conv=>whnf);refine And.intro (Zc rfl rfl rfl rfl (by intro c0 c1; exact Qw (Qf hx9 ⟨c0,c1⟩))) ?_;(conv=>whnf);refine And.intro (Zc rfl rfl rfl rfl (by intro c0 c1; exact QaU (Qf hx10 ⟨c0,c1⟩))) ?_;(conv=>whnf);refine And.intro (by kernel_rfl) ?_;(conv=>whnf);refine QA g3 (fun _ g3=>?_) (fun _ g3=>?_)
      · (conv=>whnf);obtain rfl:=sj_ g3;obtain rfl:=hy2 _ rfl;obtain rfl:=sj_ h;exact lfP []
      · (conv=>whnf);obtain rfl:=sj_ g3;exact ⟨_,rfl,leX []⟩
    · (conv=>whnf);obtain rfl:=sj_ g3;obtain rfl:=hy2 _ rfl;obtain rfl:=sj_ h;exact lfP []
noncomputable def QD (a0:(List Qw8)):Option ((List Qw8)) :=
 gd ((0:Int)≤0∧0≤((a0.length:Nat):Int)∧((a0.length:Nat):Int)*32≤140737488355328∧((a0.length:Nat):Int)≤140737488355328) <|
 gd ((((List.replicate (0:Int).toNat (default:Qw8)).length)+(a0.length))*(32+1)≤70368744177664) <|
 some ((List.replicate (0:Int).toNat (default:Qw8)) ++ a0)
theorem Zs {a0:(List Qw8)} {r:(List Qw8)} (h:QD a0=some r):PureC Tryz.prog 61 [.d (slD Qw8.enc a0)] (.osl 5001 0 r.length) [⟨5001,31,4,r.length,rows Qw8.enc r⟩]:=by
  refine Qs tOk (fn:=Tryz.f61) (c:=Ql Tryz.f61) rfl rfl ?_;unfold QD at h;(conv=>whnf);obtain ⟨g2,h⟩:=Qi h;refine And.intro g2 ?_;clear g2;refine ⟨(List.replicate (0:Int).toNat (default:Qw8)).length,rows Qw8.enc (List.replicate (0:Int).toNat (default:Qw8)),by simp,Qhm rfl,?_⟩;(conv=>whnf);refine gdI h (fun h=>?_);refine Qjq (enc:=Qw8.enc) (xs:=(List.replicate (0:Int).toNat (default:Qw8))) (ys:=a0) ?_;(conv=>whnf);obtain rfl:=sj_ h;exact lfP [.s [(5,5001),(5001,5)]]
noncomputable def J2 (a0:Qw8) (a1:Qxg):Option (Int) :=
 bd (Qq a0) fun x1 =>
 bd (ZA x1 a1) fun x2 =>
 some x2
theorem Qel {a0:Qw8} {a1:Qxg} {r:Int} (h:J2 a0 a1=some r):PureC Tryz.prog 139 [.agg (hnC a0),.agg [dI a1.Addr,dI a1.Len]] (dI r) []:=by
  refine Qs tOk (fn:=Tryz.f139) (c:=Ql Tryz.f139) rfl rfl ?_;unfold J2 at h;(conv=>whnf);obtain ⟨x1,hx1,h⟩:=Qa h;obtain ⟨x2,hx2,h⟩:=Qa h;refine QV tOk [.u 1 0 (.agg [dI x1.Addr,dI x1.Len]) [],.u 3 0 (dI x2) []] 5 [] [0,1,0,7,15] [] ?_;(conv=>whnf);refine And.intro (QJ (Qw hx1) (by kernel_rfl)) ?_;(conv=>whnf);refine And.intro (QJ (QaU hx2) (by kernel_rfl)) ?_;(conv=>whnf);refine And.intro (by kernel_rfl) ?_;(conv=>whnf);obtain rfl:=sj_ h;exact lfP []
noncomputable def Qm (a0:(List Qw8)) (a1:Qxg):Option (Int × Bool) :=
 bd (lp (σ:=Int × Int) (β:=(Int)) (fun s1 =>
(if (decide (s1.2<s1.1))=true then
 gd ((0:Int)≤1) <|
 gd ((0:Int)≤IntKind.i64.wrap ((IntKind.u64.wrap (IntKind.i64.wrap (s1.2+s1.1)):Int).fdiv (2 ^ min (1:Int).toNat IntKind.u64.bits))∧IntKind.i64.wrap ((IntKind.u64.wrap (IntKind.i64.wrap (s1.2+s1.1)):Int).fdiv (2 ^ min (1:Int).toNat IntKind.u64.bits))<((a0.length:Nat):Int)) <|
 bd (J2 (a0.getD ((IntKind.i64.wrap ((IntKind.u64.wrap (IntKind.i64.wrap (s1.2+s1.1)):Int).fdiv (2 ^ min (1:Int).toNat IntKind.u64.bits))).toNat) default) a1) fun x7 =>
(if (decide (x7<0))=true then
 some (.inl (s1.1,IntKind.i64.wrap ((IntKind.i64.wrap ((IntKind.u64.wrap (IntKind.i64.wrap (s1.2+s1.1)):Int).fdiv (2 ^ min (1:Int).toNat IntKind.u64.bits)))+1)))
else
 some (.inl (IntKind.i64.wrap ((IntKind.u64.wrap (IntKind.i64.wrap (s1.2+s1.1)):Int).fdiv (2 ^ min (1:Int).toNat IntKind.u64.bits)),s1.2)))
else
 some (.inr s1.2))) (((a0.length:Nat):Int),0)) fun x4 =>
 gd ((decide (x4<((a0.length:Nat):Int)))=true→((0:Int)≤x4∧x4<((a0.length:Nat):Int))) <|
 bd (gcall ((decide (x4<((a0.length:Nat):Int)))=true) (J2 (a0.getD x4.toNat default) a1)) fun x10 =>
 some (x4,((decide (x4<((a0.length:Nat):Int))) && (x10 == 0)))
theorem ZM {a0:(List Qw8)} {a1:Qxg} {r:Int × Bool} (h:Qm a0 a1=some r):PureC Tryz.prog 138 [.d (slD Qw8.enc a0),.agg [dI a1.Addr,dI a1.Len],.fn 139 []] (.tup [dI r.1,dB r.2]) []:=by
  refine Qs tOk (fn:=Tryz.f138) (c:=Ql Tryz.f138) rfl rfl ?_;unfold Qm at h;(conv=>whnf);refine Qc tOk ?_;(conv=>whnf);obtain ⟨x4,hx4,h⟩:=Qa h;refine Zm tOk hx4 (fun s1=>⟨0,49,[(0,.d (slD Qw8.enc a0)),(2,.fn 139 []),(4,.ref 4 0 0),(8,dI ((a0.length:Nat):Int)),(9,dI s1.2),(10,dI s1.1)],[],[(4,.box 112 [dI a1.Addr,dI a1.Len])],[]⟩) ?_ ?_
  · exact leX []
  · clear hx4;intro s1 y2 g3 hy2;(conv=>whnf);refine Qc tOk ?_;(conv=>whnf);refine QA g3 (fun _ g3=>?_) (fun _ g3=>?_)
    · (conv=>whnf);refine gdI g3 (fun g3=>?_);(conv=>whnf);obtain ⟨g6,g3⟩:=Qi g3;obtain ⟨x7,hx7,g3⟩:=Qa g3;refine QV tOk [.u 6 0 (dI x7) []] 8 [] [0,0,0,6,14,0,63,127] [] ?_;(conv=>whnf);refine And.intro g6 ?_;clear g6;(conv=>whnf);refine And.intro (QJ (Qel hx7) (by kernel_rfl)) ?_;(conv=>whnf);refine And.intro (by kernel_rfl) ?_;(conv=>whnf);refine QA g3 (fun _ g3=>?_) (fun _ g3=>?_)
      · (conv=>whnf);obtain rfl:=sj_ g3;exact ⟨_,rfl,leX []⟩
      · (conv=>whnf);obtain rfl:=sj_ g3;exact ⟨_,rfl,leX []⟩
    · (conv=>whnf);obtain rfl:=sj_ g3;obtain rfl:=hy2 _ rfl;obtain ⟨g9,h⟩:=Qi h;obtain ⟨x10,hx10,h⟩:=Qa h;refine QV tOk [.u 11 0 (dI x10) []] 16 [] [0,0,0,6,14,30,30,30,222,478,30,2046,4094,8190,4095,32767] [] ?_;(conv=>whnf);refine And.intro g9 ?_;clear g9;(conv=>whnf);refine And.intro (Zc rfl rfl rfl rfl (by intro c0; exact Qel (Qf hx10 c0))) ?_;(conv=>whnf);refine And.intro (by kernel_rfl) ?_;(conv=>whnf);obtain rfl:=sj_ h;exact lfP []
noncomputable def J6 (a0:(List Qw8)) (a1:Qxg):Option (Int × Bool) :=
 bd (Qm a0 a1) fun x1 =>
 some (x1.1,x1.2)
theorem Qdy {a0:(List Qw8)} {a1:Qxg} {r:Int × Bool} (h:J6 a0 a1=some r):PureC Tryz.prog 101 [.d (slD Qw8.enc a0),.agg [dI a1.Addr,dI a1.Len]] (.tup [dI r.1,dB r.2]) []:=by
  refine Qs tOk (fn:=Tryz.f101) (c:=Ql Tryz.f101) rfl rfl ?_;unfold J6 at h;(conv=>whnf);obtain ⟨x1,hx1,h⟩:=Qa h;refine cC 0 (ZM hx1) ?_;clear hx1;(conv=>whnf);obtain rfl:=sj_ h;exact lfP []
noncomputable def QX (a0:(List Qw8)) (a1:Int) (a2:(List Qw8)):Option ((List Qw8)) :=
 gd ((0≤a1∧a1≤a0.length)∧0<a2.length∧(a0.length+a2.length)*(32+1)≤70368744177664) <|
 some (QoP a0 a1.toNat a2)
theorem Qaa {a0:(List Qw8)} {a1:Int} {a2:(List Qw8)} {r:(List Qw8)} (h:QX a0 a1 a2=some r):EffC Tryz.prog 102 [.osl 9000 0 a0.length,dI a1,.osl 9001 0 a2.length] [(9000,.arr 31 4 a0.length (rows Qw8.enc a0)),(9001,.arr 31 4 a2.length (rows Qw8.enc a2))] (.osl 5001 0 r.length) [(5001,.arr 31 4 r.length (rows Qw8.enc r))]:=by
  unfold QX at h;have L:LIns Tryz.prog ⟨fun x=>match x with | 22=>102 | 29=>140 | 30=>141 | _=>0,fun x=>match x with | 0=>0 | 3=>3 | 4=>4 | 9=>31 | 24=>29 | _=>0,fun x=>x⟩ 4 32 (.agg #[.int .i64 0,.int .i64 0,.int .i64 0,.int .i64 0]):=⟨by kernel_rfl,⟨Tryz.f102.name,by kernel_rfl,by kernel_rfl⟩,⟨Tryz.f140,by kernel_rfl,by kernel_rfl,by kernel_rfl,by kernel_rfl,by kernel_rfl⟩,by kernel_rfl,fun w=>by kernel_rfl,fun w=>by kernel_rfl,fun w=>by kernel_rfl,by kernel_rfl,fun w=>by kernel_rfl,fun w=>by kernel_rfl,fun w=>by kernel_rfl,by kernel_rfl,fun w=>by kernel_rfl,fun w=>by kernel_rfl,fun w=>by kernel_rfl,by kernel_rfl,fun w=>by kernel_rfl,fun w=>by kernel_rfl,fun w=>by kernel_rfl,⟨_,rfl,rfl,rfl,rfl⟩,fun w=>by kernel_rfl,by kernel_rfl,fun u hu=>List.all_eq_true.1 (by kernel_rfl:(List.all (Value.cells (.agg #[.int .i64 0,.int .i64 0,.int .i64 0,.int .i64 0])).toList Value.oneCell')=true) u hu,by decide⟩;obtain ⟨g,h⟩:=Qi h;obtain rfl:=sj_ h;have k:=QoQ (t:=31) (enc:=Qw8.enc) L (Qq7 (fn:=Tryz.f102) (c:=Ql Tryz.f102) rfl rfl (by kernel_rfl)) (fun _=>rfl) (xs:=a0) (ys:=a2) (i:=a1.toNat) (by omega) g.2.1 g.2.2;rw [show ((a1.toNat:Nat):Int)=a1 by omega] at k;exact k
noncomputable def QY (a0:(List Qw8)) (a1:Int) (a2:Int):Option ((List Qw8)) :=
 gd (0≤a1∧a1≤a2∧a2≤a0.length) <|
 some (Qjx a0 a1.toNat a2.toNat)
theorem Qab {a0:(List Qw8)} {a1:Int} {a2:Int} {r:(List Qw8)} (h:QY a0 a1 a2=some r):EffC Tryz.prog 103 [.osl 9000 0 a0.length,dI a1,dI a2] [(9000,.arr 31 4 a0.length (rows Qw8.enc a0))] (.osl 5001 0 r.length) [(5001,.arr 31 4 r.length (rows Qw8.enc r))]:=by
  unfold QY at h;have L:LDel Tryz.prog ⟨fun x=>match x with | 45=>103 | _=>0,fun x=>match x with | 0=>0 | 3=>3 | 4=>4 | 22=>29 | 23=>31 | _=>0,fun x=>x⟩ 4 (.agg #[.int .i64 0,.int .i64 0,.int .i64 0,.int .i64 0]):=⟨by kernel_rfl,⟨Tryz.f103.name,by kernel_rfl,by kernel_rfl⟩,by kernel_rfl,fun w=>by kernel_rfl,fun w=>by kernel_rfl,fun w=>by kernel_rfl,by kernel_rfl,fun w=>by kernel_rfl,fun w=>by kernel_rfl,fun w=>by kernel_rfl,by kernel_rfl,fun w=>by kernel_rfl,fun w=>by kernel_rfl,fun w=>by kernel_rfl,by kernel_rfl,fun w=>by kernel_rfl,fun w=>by kernel_rfl,fun w=>by kernel_rfl,⟨_,rfl,rfl⟩,fun w=>by kernel_rfl,fun w=>by kernel_rfl,by kernel_rfl,fun u hu=>List.all_eq_true.1 (by kernel_rfl:(List.all (Value.cells (.agg #[.int .i64 0,.int .i64 0,.int .i64 0,.int .i64 0])).toList Value.oneCell')=true) u hu⟩;obtain ⟨g,h⟩:=Qi h;obtain rfl:=sj_ h;have k:=QlI (t:=31) (enc:=Qw8.enc) L (Qq7 (fn:=Tryz.f103) (c:=Ql Tryz.f103) rfl rfl (by kernel_rfl)) (fun _=>rfl) (xs:=a0) (i:=a1.toNat) (j:=a2.toNat) (by omega) (by omega);rw [show ((a1.toNat:Nat):Int)=a1 by omega,show ((a2.toNat:Nat):Int)=a2 by omega] at k;exact k
noncomputable def Qck (a0:(List Qw8)) (a1:Qw9):Option ((List Qw8)) :=
 bd (QD a0) fun x1 =>
 bd (Qq a1.Entry) fun x2 =>
 bd (J6 x1 x2) fun x3 =>
(if ((a1.Kind == 1) && x3.2)=true then
 gd ((0:Int)≤x3.1∧x3.1<((x1.length:Nat):Int)) <|
 some (x1.set x3.1.toNat a1.Entry)
else
(if (a1.Kind == 1)=true then
 bd (QX x1 x3.1 ([a1.Entry]:List Qw8)) fun x5 =>
 some x5
else
(if ((a1.Kind == 2) && x3.2)=true then
 bd (QY x1 x3.1 (IntKind.i64.wrap (x3.1+1))) fun x6 =>
 some x6
else
 some x1)))
theorem QkB {a0:(List Qw8)} {a1:Qw9} {r:(List Qw8)} (h:Qck a0 a1=some r):PureC Tryz.prog 66 [.d (slD Qw8.enc a0),.agg (dI a1.Kind :: hnC a1.Entry)] (.osl 5001 0 r.length) [⟨5001,31,4,r.length,rows Qw8.enc r⟩]:=by
  refine Qs tOk (fn:=Tryz.f66) (c:=Ql Tryz.f66) rfl rfl ?_;unfold Qck at h;(conv=>whnf);obtain ⟨x1,hx1,h⟩:=Qa h;refine cC 1000 (Zs hx1) ?_;clear hx1;(conv=>whnf);obtain ⟨x2,hx2,h⟩:=Qa h;refine cC 0 (Qw hx2) ?_;clear hx2;(conv=>whnf);obtain ⟨x3,hx3,h⟩:=Qa h;refine cC 0 (Qdy hx3) ?_;clear hx3;(conv=>whnf);refine Qc tOk ?_;(conv=>whnf);refine QA h (fun _ h=>?_) (fun _ h=>?_)
  · (conv=>whnf);refine gdI h (fun h=>?_);(conv=>whnf);refine ⟨rows Qw8.enc (x1.set x3.1.toNat a1.Entry),ZD QlF rfl,?_⟩;(conv=>whnf);obtain rfl:=sj_ h;exact lfP [.s [(5001,6001),(6001,5001)]]
  · (conv=>whnf);refine QA h (fun _ h=>?_) (fun _ h=>?_)
    · (conv=>whnf);refine Qjp (enc:=Qw8.enc) ([a1.Entry]:List Qw8) ?_;(conv=>whnf);obtain ⟨x5,hx5,h⟩:=Qa h;refine cE [(9000,6001),(9001,38)] 2000 (Qaa hx5) ?_;(conv=>whnf);obtain rfl:=sj_ h;exact lfP [.s [(5001,7001),(7001,5001)]]
    · (conv=>whnf);refine QA h (fun _ h=>?_) (fun _ h=>?_)
      · (conv=>whnf);obtain ⟨x6,hx6,h⟩:=Qa h;refine cE [(9000,6001)] 2000 (Qab hx6) ?_;(conv=>whnf);obtain rfl:=sj_ h;exact lfP [.s [(5001,7001),(7001,5001)]]
      · (conv=>whnf);obtain rfl:=sj_ h;exact lfP [.s [(5001,6001),(6001,5001)]]
noncomputable def Qb1 (a0:(List Qw8)) (a1:Qw9):Option ((List Qw8)) :=
 bd (QD a0) fun x1 =>
 bd (Qq a1.Entry) fun x2 =>
 bd (J6 x1 x2) fun x3 =>
(if ((a1.Kind == 1) && x3.2)=true then
 gd ((0:Int)≤x3.1∧x3.1<((x1.length:Nat):Int)) <|
 some (x1.set x3.1.toNat a1.Entry)
else
(if (a1.Kind == 1)=true then
 bd (QX x1 x3.1 ([a1.Entry]:List Qw8)) fun x5 =>
 some x5
else
(if ((a1.Kind == 2) && x3.2)=true then
 bd (QY x1 x3.1 (IntKind.i64.wrap (x3.1+1))) fun x6 =>
 some x6
else
 some x1)))
theorem Qh6 {a0:(List Qw8)} {a1:Qw9} {r:(List Qw8)} (h:Qb1 a0 a1=some r):EffC Tryz.prog 66 [.d (slD Qw8.enc a0),.agg (dI a1.Kind :: hnC a1.Entry)] [] (.d (slD Qw8.enc r)) []:=by
  refine QS tOk (fn:=Tryz.f66) (c:=Ql Tryz.f66) rfl rfl ?_;unfold Qb1 at h;(conv=>whnf);obtain ⟨x1,hx1,h⟩:=Qa h;refine cC 1000 (Zs hx1) ?_;clear hx1;(conv=>whnf);obtain ⟨x2,hx2,h⟩:=Qa h;refine cC 0 (Qw hx2) ?_;clear hx2;(conv=>whnf);obtain ⟨x3,hx3,h⟩:=Qa h;refine cC 0 (Qdy hx3) ?_;clear hx3;(conv=>whnf);refine Qc tOk ?_;(conv=>whnf);refine QA h (fun _ h=>?_) (fun _ h=>?_)
  · (conv=>whnf);refine gdI h (fun h=>?_);(conv=>whnf);refine ⟨rows Qw8.enc (x1.set x3.1.toNat a1.Entry),ZD QlF rfl,?_⟩;(conv=>whnf);obtain rfl:=sj_ h;exact lfE [.f [6001]]
  · (conv=>whnf);refine QA h (fun _ h=>?_) (fun _ h=>?_)
    · (conv=>whnf);refine Qjp (enc:=Qw8.enc) ([a1.Entry]:List Qw8) ?_;(conv=>whnf);obtain ⟨x5,hx5,h⟩:=Qa h;refine cE [(9000,6001),(9001,38)] 2000 (Qaa hx5) ?_;(conv=>whnf);obtain rfl:=sj_ h;exact lfE [.f [7001]]
    · (conv=>whnf);refine QA h (fun _ h=>?_) (fun _ h=>?_)
      · (conv=>whnf);obtain ⟨x6,hx6,h⟩:=Qa h;refine cE [(9000,6001)] 2000 (Qab hx6) ?_;(conv=>whnf);obtain rfl:=sj_ h;exact lfE [.f [7001]]
      · (conv=>whnf);obtain rfl:=sj_ h;exact lfE [.f [6001]]
noncomputable def Qb2 (a0:Qxa):Option (Bool) :=
 some a0.Stale
theorem Qh7 {a0:Qxa} {r:Bool} (h:Qb2 a0=some r):PureC Tryz.prog 80 [.agg (hnC a0.Entry ++ [dB a0.Stale])] (dB r) []:=by
  refine Qs tOk (fn:=Tryz.f80) (c:=Ql Tryz.f80) rfl rfl ?_;unfold Qb2 at h;(conv=>whnf);obtain rfl:=sj_ h;exact lfP []
noncomputable def Qv (a0:(List Qxa)):Option (Int) :=
 bd (lp (σ:=Int) (β:=(Int ⊕ Unit)) (fun s1 =>
(if (decide (s1<((a0.length:Nat):Int)))=true then
 gd ((0:Int)≤s1∧s1<((a0.length:Nat):Int)) <|
 bd (Qb2 (⟨((a0.getD s1.toNat default).Entry),(a0.getD s1.toNat default).Stale⟩:Qxa)) fun x6 =>
(if x6=true then
 some (.inr (.inl s1))
else
 some (.inl (IntKind.i64.wrap (s1+1))))
else
 some (.inr (.inr ())))) 0) fun x4 =>
(match x4 with
| .inl d7 =>
 some d7
| .inr d8 =>
 some (-1))
theorem JZ {a0:(List Qxa)} {r:Int} (h:Qv a0=some r):PureC Tryz.prog 122 [.d (slD Qxa.enc a0),.fn 80 []] (dI r) []:=by
  refine Qs tOk (fn:=Tryz.f122) (c:=Ql Tryz.f122) rfl rfl ?_;unfold Qv at h;(conv=>whnf);refine Qc tOk ?_;(conv=>whnf);obtain ⟨x4,hx4,h⟩:=Qa h;refine Zm tOk hx4 (fun s1=>⟨0,19,[(0,.d (slD Qxa.enc a0)),(1,.fn 80 []),(7,dI ((a0.length:Nat):Int)),(8,dI s1)],[],[],[]⟩) ?_ ?_
  · exact leX []
  · clear hx4;intro s1 y2 g3 hy2;(conv=>whnf);refine Qc tOk ?_;(conv=>whnf);refine QA g3 (fun _ g3=>?_) (fun _ g3=>?_)
    · (conv=>whnf);refine Qc tOk ?_;(conv=>whnf);refine gdI g3 (fun g3=>?_);(conv=>whnf);obtain ⟨x6,hx6,g3⟩:=Qa g3;refine cC 0 (Qh7 hx6) ?_;clear hx6;(conv=>whnf);refine QA g3 (fun _ g3=>?_) (fun _ g3=>?_)
      · (conv=>whnf);obtain rfl:=sj_ g3;obtain rfl:=hy2 _ rfl;obtain rfl:=sj_ h;exact lfP []
      · (conv=>whnf);obtain rfl:=sj_ g3;exact ⟨_,rfl,leX []⟩
    · (conv=>whnf);obtain rfl:=sj_ g3;obtain rfl:=hy2 _ rfl;obtain rfl:=sj_ h;exact lfP []
noncomputable def QE (a0:(List Qxa)):Option (Bool) :=
 bd (Qv a0) fun x1 =>
 some (decide (x1 ≥ 0))
theorem JH {a0:(List Qxa)} {r:Bool} (h:QE a0=some r):PureC Tryz.prog 79 [.d (slD Qxa.enc a0),.fn 80 []] (dB r) []:=by
  refine Qs tOk (fn:=Tryz.f79) (c:=Ql Tryz.f79) rfl rfl ?_;unfold QE at h;(conv=>whnf);obtain ⟨x1,hx1,h⟩:=Qa h;refine cC 0 (JZ hx1) ?_;clear hx1;(conv=>whnf);obtain rfl:=sj_ h;exact lfP []
noncomputable def JT (a0:(List Qxa)):Option (Bool) :=
 bd (QE a0) fun x1 =>
 some x1
theorem QfJ {a0:(List Qxa)} {r:Bool} (h:JT a0=some r):PureC Tryz.prog 41 [.d (slD Qxa.enc a0)] (dB r) []:=by
  refine Qs tOk (fn:=Tryz.f41) (c:=Ql Tryz.f41) rfl rfl ?_;unfold JT at h;(conv=>whnf);obtain ⟨x1,hx1,h⟩:=Qa h;refine cC 0 (JH hx1) ?_;clear hx1;(conv=>whnf);obtain rfl:=sj_ h;exact lfP []
noncomputable def Jr (a0:Qxb):Option (Bool) :=
 bd (lp (σ:=Int) (β:=(Unit ⊕ Unit)) (fun s1 =>
(if (decide (s1<((a0.Heard.length:Nat):Int)))=true then
 gd ((0:Int)≤s1∧s1<((a0.Heard.length:Nat):Int)) <|
 bd (ZW ((a0.Heard.getD s1.toNat default).Entry)) fun x6 =>
 gd ((decide (s1 > 0))=true→(((!x6) || ((a0.Left == 0) && (!((a0.Heard.getD s1.toNat default).Stale))))=false→((0:Int)≤IntKind.i64.wrap (s1 - 1)∧IntKind.i64.wrap (s1 - 1)<((a0.Heard.length:Nat):Int)))) <|
 bd (gcall ((decide (s1 > 0))=true∧((!x6) || ((a0.Left == 0) && (!((a0.Heard.getD s1.toNat default).Stale))))=false) (Qq ((a0.Heard.getD ((IntKind.i64.wrap (s1 - 1)).toNat) default).Entry))) fun x8 =>
 bd (gcall ((decide (s1 > 0))=true∧((!x6) || ((a0.Left == 0) && (!((a0.Heard.getD s1.toNat default).Stale))))=false) (Qq ((a0.Heard.getD s1.toNat default).Entry))) fun x9 =>
 bd (gcall ((decide (s1 > 0))=true∧((!x6) || ((a0.Left == 0) && (!((a0.Heard.getD s1.toNat default).Stale))))=false) (ZA x8 x9)) fun x10 =>
(if (((!x6) || ((a0.Left == 0) && (!((a0.Heard.getD s1.toNat default).Stale)))) || ((decide (s1 > 0)) && (decide (x10 ≥ 0))))=true then
 some (.inr (.inl ()))
else
 some (.inl (IntKind.i64.wrap (s1+1))))
else
 some (.inr (.inr ())))) 0) fun x4 =>
(match x4 with
| .inl d11 =>
 some false
| .inr d12 =>
 bd (gcall ((decide (((a0.Heard.length:Nat):Int)≤16))=true) (Qu a0.Keep 0 6)) fun x13 =>
 bd (gcall (((decide (((a0.Heard.length:Nat):Int)≤16)) && x13)=true) (JT a0.Heard)) fun x14 =>
 some (((decide (((a0.Heard.length:Nat):Int)≤16)) && x13) && ((decide (a0.Keep > 0)) == x14)))
theorem QeZ {a0:Qxb} {r:Bool} (h:Jr a0=some r):PureC Tryz.prog 67 [.agg (heC a0 (.d (slD Qxa.enc a0.Heard)))] (dB r) []:=by
  refine Qs tOk (fn:=Tryz.f67) (c:=Ql Tryz.f67) rfl rfl ?_;unfold Jr at h;(conv=>whnf);refine Qc tOk ?_;(conv=>whnf);obtain ⟨x4,hx4,h⟩:=Qa h;refine Zm tOk hx4 (fun s1=>⟨0,65,[(1,.ref 1 0 0),(6,.d (slD Qxa.enc a0.Heard)),(7,dI ((a0.Heard.length:Nat):Int)),(8,dI s1)],[],[(1,.box 36 (heC a0 (.d (slD Qxa.enc a0.Heard))))],[]⟩) ?_ ?_
  · exact leX []
  · clear hx4;intro s1 y2 g3 hy2;(conv=>whnf);refine Qc tOk ?_;(conv=>whnf);refine QA g3 (fun _ g3=>?_) (fun _ g3=>?_)
    · (conv=>whnf);refine Qc tOk ?_;(conv=>whnf);refine gdI g3 (fun g3=>?_);(conv=>whnf);obtain ⟨x6,hx6,g3⟩:=Qa g3;obtain ⟨g7,g3⟩:=Qi g3;obtain ⟨x8,hx8,g3⟩:=Qa g3;obtain ⟨x9,hx9,g3⟩:=Qa g3;obtain ⟨x10,hx10,g3⟩:=Qa g3;refine QV tOk [.u 2 0 (dB x6) [],.u 25 0 (.agg [dI x8.Addr,dI x8.Len]) [],.u 28 0 (.agg [dI x9.Addr,dI x9.Len]) [],.u 29 0 (dI x10) []] 33 [] [0,1,3,7,15,31,63,127,255,511,1023,2047,4095,8191,16383,32767,65535,131071,262143,524287,262143,1310719,4194303,8388607,16777215,33554431,262143,67371007,268435455,536870911,1073741823,2147483647,4294967295] [] ?_;(conv=>whnf);refine And.intro (QJ (Qcc hx6) (by kernel_rfl)) ?_;(conv=>whnf);refine And.intro g7 ?_;clear g7;(conv=>whnf);refine And.intro (Zc rfl rfl rfl rfl (by intro c0 c1; exact Qw (Qf hx8 ⟨c0,c1⟩))) ?_;(conv=>whnf);refine And.intro (Zc rfl rfl rfl rfl (by intro c0 c1; exact Qw (Qf hx9 ⟨c0,c1⟩))) ?_;(conv=>whnf);refine And.intro (Zc rfl rfl rfl rfl (by intro c0 c1; exact QaU (Qf hx10 ⟨c0,c1⟩))) ?_;(conv=>whnf);refine And.intro (by kernel_rfl) ?_;(conv=>whnf);refine QA g3 (fun _ g3=>?_) (fun _ g3=>?_)
      · (conv=>whnf);obtain rfl:=sj_ g3;obtain rfl:=hy2 _ rfl;obtain rfl:=sj_ h;exact lfP []
      · (conv=>whnf);obtain rfl:=sj_ g3;exact ⟨_,rfl,leX []⟩
    · (conv=>whnf);obtain rfl:=sj_ g3;obtain rfl:=hy2 _ rfl;obtain ⟨x13,hx13,h⟩:=Qa h;obtain ⟨x14,hx14,h⟩:=Qa h;refine QV tOk [.u 7 0 (dB x13) [],.u 15 0 (dB x14) []] 19 [] [0,1,3,7,15,31,63,127,255,511,1023,2047,4095,1023,9215,25599,65535,131071,262143] [] ?_;(conv=>whnf);refine And.intro (Zc rfl rfl rfl rfl (by intro c0; exact Qx (Qf hx13 c0))) ?_;(conv=>whnf);refine And.intro (Zc rfl rfl rfl rfl (by intro c0; exact QfJ (Qf hx14 c0))) ?_;(conv=>whnf);refine And.intro (by kernel_rfl) ?_;(conv=>whnf);obtain rfl:=sj_ h;exact lfP []
noncomputable def Jd (a0:Qxb):Option (Bool) :=
 bd (Qu a0.Name 0 65535) fun x1 =>
 bd (gcall ((!x1)=false) (Qu a0.Peer 0 65535)) fun x2 =>
 bd (gcall ((((!x1) || (!x2)) || (a0.Name == a0.Peer))=false) (Z2 a0.Keys)) fun x3 =>
(if ((((!x1) || (!x2)) || (a0.Name == a0.Peer)) || (!x3))=true then
 some false
else
 bd (Qu a0.Boot 1 1000) fun x4 =>
 bd (gcall ((!x4)=false) (Qu a0.Turn 0 1000000)) fun x5 =>
 bd (gcall (((!x4) || (!x5))=false) (Qu a0.PeerTurn 0 1000000)) fun x6 =>
 bd (gcall ((((!x4) || (!x5)) || (!x6))=false) (Qu a0.Got 0 1000000)) fun x7 =>
(if ((((!x4) || (!x5)) || (!x6)) || (!x7))=true then
 some false
else
 bd (Qu a0.PeerBoot 0 999) fun x8 =>
(if ((!x8) || (!((a0.PeerBoot == 0) == (a0.PeerTurn == 0))))=true then
 some false
else
 bd (Qu a0.Left 0 4) fun x9 =>
(if (((!x9) || ((a0.PeerBoot == 0) && (a0.Left != 0))) || (a0.Up && (a0.Left == 0)))=true then
 some false
else
 bd (Qu a0.Num 0 a0.Turn) fun x10 =>
 bd (gcall ((!x10)=false) (Jc a0.Under)) fun x11 =>
(if (((!x10) || (!x11)) || ((a0.Num == 0) && (a0.Under.Kind != 0)))=true then
 some false
else
 bd (Zr a0.Want) fun x12 =>
 bd (gcall ((!x12)=false) (Zr a0.Told)) fun x13 =>
 bd (gcall (((!x12) || (!x13))=false) (Qb1 a0.Told a0.Under)) fun x14 =>
 bd (gcall (((!x12) || (!x13))=false) (Zr x14)) fun x15 =>
(if (((!x12) || (!x13)) || (!x15))=true then
 some false
else
 bd (Jr a0) fun x16 =>
 some x16))))))
theorem QcZ {a0:Qxb} {r:Bool} (h:Jd a0=some r):PureC Tryz.prog 32 [.agg (heC a0 (.d (slD Qxa.enc a0.Heard)))] (dB r) []:=by
  refine Qs tOk (fn:=Tryz.f32) (c:=Ql Tryz.f32) rfl rfl ?_;unfold Jd at h;(conv=>whnf);refine Qc tOk ?_;(conv=>whnf);obtain ⟨x1,hx1,h⟩:=Qa h;refine cC 0 (Qx hx1) ?_;clear hx1;(conv=>whnf);obtain ⟨x2,hx2,h⟩:=Qa h;refine cG (fun c0=>Qx (Qf hx2 c0)) ?_;(conv=>whnf);obtain ⟨x3,hx3,h⟩:=Qa h;refine cG (fun c0=>QbC (Qf hx3 c0)) ?_;(conv=>whnf);refine QA h (fun _ h=>?_) (fun _ h=>?_)
  · (conv=>whnf);obtain rfl:=sj_ h;exact lfP []
  · (conv=>whnf);obtain ⟨x4,hx4,h⟩:=Qa h;refine cC 0 (Qx hx4) ?_;clear hx4;(conv=>whnf);obtain ⟨x5,hx5,h⟩:=Qa h;refine cG (fun c0=>Qx (Qf hx5 c0)) ?_;(conv=>whnf);obtain ⟨x6,hx6,h⟩:=Qa h;refine cG (fun c0=>Qx (Qf hx6 c0)) ?_;(conv=>whnf);obtain ⟨x7,hx7,h⟩:=Qa h;refine cG (fun c0=>Qx (Qf hx7 c0)) ?_;(conv=>whnf);refine QA h (fun _ h=>?_) (fun _ h=>?_)
    · (conv=>whnf);obtain rfl:=sj_ h;exact lfP []
    · (conv=>whnf);obtain ⟨x8,hx8,h⟩:=Qa h;refine cC 0 (Qx hx8) ?_;clear hx8;(conv=>whnf);refine QA h (fun _ h=>?_) (fun _ h=>?_)
      · (conv=>whnf);obtain rfl:=sj_ h;exact lfP []
      · (conv=>whnf);obtain ⟨x9,hx9,h⟩:=Qa h;refine cC 0 (Qx hx9) ?_;clear hx9;(conv=>whnf);refine QA h (fun _ h=>?_) (fun _ h=>?_)
        · (conv=>whnf);obtain rfl:=sj_ h;exact lfP []
        · (conv=>whnf);obtain ⟨x10,hx10,h⟩:=Qa h;refine cC 0 (Qx hx10) ?_;clear hx10;(conv=>whnf);obtain ⟨x11,hx11,h⟩:=Qa h;refine cG (fun c0=>Qdi (Qf hx11 c0)) ?_;(conv=>whnf);refine QA h (fun _ h=>?_) (fun _ h=>?_)
          · (conv=>whnf);obtain rfl:=sj_ h;exact lfP []
          · (conv=>whnf);obtain ⟨x12,hx12,h⟩:=Qa h;refine cC 0 (Qar hx12) ?_;clear hx12;(conv=>whnf);obtain ⟨x13,hx13,h⟩:=Qa h;refine cG (fun c0=>Qar (Qf hx13 c0)) ?_;(conv=>whnf);obtain ⟨x14,hx14,h⟩:=Qa h;refine QnQ [] 0 rfl rfl rfl (by intro c0; exact Qh6 (Qf hx14 c0)) Qqa inA rfl rfl (Qhk inA) ?_;(conv=>whnf);obtain ⟨x15,hx15,h⟩:=Qa h;refine cG (fun c0=>Qar (Qf hx15 c0)) ?_;(conv=>whnf);refine QA h (fun _ h=>?_) (fun _ h=>?_)
            · (conv=>whnf);obtain rfl:=sj_ h;exact lfP []
            · (conv=>whnf);obtain ⟨x16,hx16,h⟩:=Qa h;refine cC 0 (QeZ hx16) ?_;clear hx16;(conv=>whnf);obtain rfl:=sj_ h;exact lfP []
noncomputable def Qa1 (a0:Qxb):Option (Bool) :=
 some (((((((((((((a0.Turn == 0) && (a0.PeerBoot == 0)) && (a0.PeerTurn == 0)) && (!a0.Up)) && (a0.Left == 0)) && (a0.Num == 0)) && ((a0.Under.Kind == 0) && (((a0.Under.Entry.Addr == 0) && ((a0.Under.Entry.Len == 0) && ((a0.Under.Entry.Cost == 0) && ((a0.Under.Entry.Label == 0) && true)))) && true))) && (((a0.Told.length:Nat):Int) == 0)) && (!a0.All)) && (a0.Got == 0)) && (!a0.Full)) && (((a0.Heard.length:Nat):Int) == 0)) && (a0.Keep == 0))
theorem Qjy {a0:Qxb} {r:Bool} (h:Qa1 a0=some r):PureC Tryz.prog 40 [.agg (heC a0 (.d (slD Qxa.enc a0.Heard)))] (dB r) []:=by
  refine Qs tOk (fn:=Tryz.f40) (c:=Ql Tryz.f40) rfl rfl ?_;unfold Qa1 at h;(conv=>whnf);obtain rfl:=sj_ h;exact lfP []
noncomputable def Zt (a0:Qxe):Option (Bool) :=
(if ((((a0.Sides.length:Nat):Int) != 2) || (decide (((a0.Radio.length:Nat):Int) > 12)))=true then
 some false
else
 bd (lp (σ:=Int) (β:=(Unit ⊕ Unit)) (fun s1 =>
(if (decide (s1<((a0.Sides.length:Nat):Int)))=true then
 gd ((0:Int)≤s1∧s1<((a0.Sides.length:Nat):Int)) <|
 bd (Jd ({ ((a0.Sides.getD s1.toNat default).End) with Under:=(⟨(((a0.Sides.getD s1.toNat default).End).Under).Kind,((((a0.Sides.getD s1.toNat default).End).Under).Entry)⟩:Qw9) })) fun x6 =>
 gd ((!x6)=false→((0:Int)≤IntKind.i64.wrap (1 - s1)∧IntKind.i64.wrap (1 - s1)<((a0.Sides.length:Nat):Int))) <|
 bd (gcall ((!((a0.Sides.getD s1.toNat default).Up))=true∧((!x6) || ((((a0.Sides.getD s1.toNat default).End).Name) != (((a0.Sides.getD ((IntKind.i64.wrap (1 - s1)).toNat) default).End).Peer)))=false) (Qa1 ({ ((a0.Sides.getD s1.toNat default).End) with Under:=(⟨(((a0.Sides.getD s1.toNat default).End).Under).Kind,((((a0.Sides.getD s1.toNat default).End).Under).Entry)⟩:Qw9) }))) fun x8 =>
(if (((!x6) || ((((a0.Sides.getD s1.toNat default).End).Name) != (((a0.Sides.getD ((IntKind.i64.wrap (1 - s1)).toNat) default).End).Peer))) || ((!((a0.Sides.getD s1.toNat default).Up)) && (!x8)))=true then
 some (.inr (.inl ()))
else
 some (.inl (IntKind.i64.wrap (s1+1))))
else
 some (.inr (.inr ())))) 0) fun x4 =>
(match x4 with
| .inl d9 =>
 some false
| .inr d10 =>
 bd (lp (σ:=Int) (β:=(Unit ⊕ Unit)) (fun s11 =>
(if (decide (s11<((a0.Radio.length:Nat):Int)))=true then
 gd ((0:Int)≤s11∧s11<((a0.Radio.length:Nat):Int)) <|
 bd (Jq ({ (a0.Radio.getD s11.toNat default) with Change:=(⟨((a0.Radio.getD s11.toNat default).Change).Kind,(((a0.Radio.getD s11.toNat default).Change).Entry)⟩:Qw9) })) fun x16 =>
(if (!x16)=true then
 some (.inr (.inl ()))
else
 some (.inl (IntKind.i64.wrap (s11+1))))
else
 some (.inr (.inr ())))) 0) fun x14 =>
(match x14 with
| .inl d17 =>
 some false
| .inr d18 =>
 some true)))
theorem Qa8 {a0:Qxe} {r:Bool} (h:Zt a0=some r):PureC Tryz.prog 17 [.agg [.d (slD Qxc.enc a0.Sides),.d (slD Qxd.enc a0.Radio)]] (dB r) []:=by
  refine Qs tOk (fn:=Tryz.f17) (c:=Ql Tryz.f17) rfl rfl ?_;unfold Zt at h;(conv=>whnf);refine Qc tOk ?_;(conv=>whnf);refine QA h (fun _ h=>?_) (fun _ h=>?_)
  · (conv=>whnf);obtain rfl:=sj_ h;exact lfP []
  · (conv=>whnf);refine Qc tOk ?_;(conv=>whnf);obtain ⟨x4,hx4,h⟩:=Qa h;refine Zm tOk hx4 (fun s1=>⟨0,66,[(1,.ref 1 0 0),(18,.d (slD Qxc.enc a0.Sides)),(19,dI ((a0.Sides.length:Nat):Int)),(20,dI s1)],[],[(1,.box 26 [.d (slD Qxc.enc a0.Sides),.d (slD Qxd.enc a0.Radio)])],[]⟩) ?_ ?_
    · exact leX []
    · clear hx4;intro s1 y2 g3 hy2;(conv=>whnf);refine Qc tOk ?_;(conv=>whnf);refine QA g3 (fun _ g3=>?_) (fun _ g3=>?_)
      · (conv=>whnf);refine Qc tOk ?_;(conv=>whnf);refine gdI g3 (fun g3=>?_);(conv=>whnf);obtain ⟨x6,hx6,g3⟩:=Qa g3;obtain ⟨g7,g3⟩:=Qi g3;obtain ⟨x8,hx8,g3⟩:=Qa g3;refine QV tOk [.u 2 0 (dB x6) [],.u 25 0 (dB x8) []] 29 [] [0,1,3,7,15,31,63,127,31,287,31,1055,3871,7967,16159,32543,65535,131071,262143,524287,1048575,2097151,4194303,8388607,16777215,33554431,67108863,134217727,268435455] [] ?_;(conv=>whnf);refine And.intro (QJ (QcZ hx6) (by kernel_rfl)) ?_;(conv=>whnf);refine And.intro g7 ?_;clear g7;(conv=>whnf);refine And.intro (Zc rfl rfl rfl rfl (by intro c0 c1; exact Qjy (Qf hx8 ⟨c0,c1⟩))) ?_;(conv=>whnf);refine And.intro (by kernel_rfl) ?_;(conv=>whnf);refine QA g3 (fun _ g3=>?_) (fun _ g3=>?_)
        · (conv=>whnf);obtain rfl:=sj_ g3;obtain rfl:=hy2 _ rfl;obtain rfl:=sj_ h;exact lfP []
        · (conv=>whnf);obtain rfl:=sj_ g3;exact ⟨_,rfl,leX []⟩
      · (conv=>whnf);obtain rfl:=sj_ g3;obtain rfl:=hy2 _ rfl;refine Qc tOk ?_;(conv=>whnf);obtain ⟨x14,hx14,h⟩:=Qa h;refine Zm tOk hx14 (fun s11=>⟨0,66,[(56,.d (slD Qxd.enc a0.Radio)),(57,dI ((a0.Radio.length:Nat):Int)),(58,dI s11)],[],[],[]⟩) ?_ ?_
        · exact leX []
        · clear hx14;intro s11 y12 g13 hy12;(conv=>whnf);refine Qc tOk ?_;(conv=>whnf);refine QA g13 (fun _ g13=>?_) (fun _ g13=>?_)
          · (conv=>whnf);refine Qc tOk ?_;(conv=>whnf);refine gdI g13 (fun g13=>?_);(conv=>whnf);obtain ⟨x16,hx16,g13⟩:=Qa g13;refine cC 0 (QcJ hx16) ?_;clear hx16;(conv=>whnf);refine QA g13 (fun _ g13=>?_) (fun _ g13=>?_)
            · (conv=>whnf);obtain rfl:=sj_ g13;obtain rfl:=hy12 _ rfl;obtain rfl:=sj_ h;exact lfP []
            · (conv=>whnf);obtain rfl:=sj_ g13;exact ⟨_,rfl,leX []⟩
          · (conv=>whnf);obtain rfl:=sj_ g13;obtain rfl:=hy12 _ rfl;obtain rfl:=sj_ h;exact lfP []
end Go.Proofs.YtjgjdobkahdgfaaGreat
